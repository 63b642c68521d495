/-
  The law NodeNames, run by E in the kernel.
-/
import Derived.Test.YtkfhapidoolfdaaGreatDoorEvEnd
namespace Go.Proofs.YtkfhapidoolfdaaGreatDoor
open Go
theorem nodeNames_run : Ev.sayT (Ev.run Tryz.prog Ev.extX 300 3 [] Ev.s0) = true := by kernel_rfl
theorem nodeNames_any (w : World) : Calls Tryz.prog 3 #[] w fun e w' => e = .returned (.bool true) ∧ Mod [] w w' := by
  cases hb : Tryz.f3.body with
  | none => exact absurd hb (by intro h; cases h)
  | some c => exact Ev.says_true Tryz.func3 hb nodeNames_run w
end Go.Proofs.YtkfhapidoolfdaaGreatDoor
