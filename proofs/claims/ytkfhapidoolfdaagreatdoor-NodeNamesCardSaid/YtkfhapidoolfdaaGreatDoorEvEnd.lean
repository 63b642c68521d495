/-
  E's WORD COUNTS: a call without arguments that E runs to true comes to true, and leaves all as it was.
-/
import Derived.Test.YtkfhapidoolfdaaGreatDoorEG6
import Derived.Test.YtkfhapidoolfdaaGreatDoorEvYb
import Derived.Test.YtkfhapidoolfdaaGreatDoorChecked
namespace Go.Proofs.YtkfhapidoolfdaaGreatDoor
open Go
namespace Ev

theorem prog_look : lookB Tryz.prog = true := by kernel_rfl
theorem prog_mixed : Tryz.prog.follows .mixedOrders = true := by kernel_rfl
theorem prog_run (n : Nat) : GoOk Tryz.prog (run Tryz.prog extX n) := by
  obtain ⟨hS, hN, hB⟩ := prog_ok (P := Tryz.prog) Tryz.co.funcs prog_look
  exact run_ok hS hN hB (fun go G => draw_ok hS prog_mixed go G) ext_ok n
theorem sayT_some {r : R EV} (h : sayT r = true) : ∃ σ, r = .ok (.s (.bool true)) σ := by
  unfold sayT at h
  split at h
  · next σ => exact ⟨σ, rfl⟩
  · cases h
theorem rep0 {P : Program} (w : World) : Rep P (fun _ => none) s0 w := by
  have hn : ∀ k, s0.h.get k = none := fun k => TrO.get_lf k
  exact ⟨(fun k e h => by rw [hn k] at h; cases h), (fun i j a c d hi => absurd (hn i) hi), fun _ _ => rfl, (fun k a c h => by cases h)⟩
theorem says_true {f : FuncId} {fn : Func} {c : Code} (hf : Tryz.prog.funcs[f]? = some fn) (hb : fn.body = some c) (h : sayT (run Tryz.prog extX 300 f [] s0) = true) (w : World) : Calls Tryz.prog f #[] w fun e w' => e = .returned (.bool true) ∧ Mod [] w w' := by
  obtain ⟨σ, hr⟩ := sayT_some h
  have hN := (prog_ok (P := Tryz.prog) Tryz.co.funcs prog_look).2.1
  have G := prog_run 300 (fun _ => none) f [] s0 w [] (.s (.bool true)) σ (rep0 w) Dens.nilm hr
  rcases G with ⟨_, hc⟩ | ⟨u, w', h1, _⟩
  · refine hc.mono ?_
    intro e w' he
    cases e with
    | returned u =>
      obtain ⟨ρ', d, S⟩ := he
      rw [Den.s d]
      refine ⟨rfl, S.os, S.tape, S.out, S.size, fun k hk _ => S.keep k hk ?_⟩
      rintro ⟨j, _, c, h2⟩
      cases h2
    | panicked c => exact he.elim
    | outgrown => exact he.elim
  · rw [enters_run hN hf hb] at h1
    cases h1
end Ev
end Go.Proofs.YtkfhapidoolfdaaGreatDoor
