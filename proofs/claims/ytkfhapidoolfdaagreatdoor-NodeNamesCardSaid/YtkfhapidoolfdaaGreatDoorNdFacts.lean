/-
  The law NodeNames: what its row says of the program, each by itself (all at once is too much for the kernel).
-/
import Derived.Test.YtkfhapidoolfdaaGreatDoorLawEnd
import Derived.JoinedOf
import GoSem.ClaimGoes
namespace Go.Proofs.YtkfhapidoolfdaaGreatDoor.nodeNames
open Go.ChangeShapes Go.WideShapes Go.ChangeAt Go.RowKit

/-- no function of the program starts another goroutine: then no call does -/
theorem no_goes {P : Program} {c : OpenClaim} (h : P.funcs.any Func.goes = false) (hs : c.start = .entering) : false = c.goesBy P := by
  have hf : ∀ f, P.goes f = false := by
    intro f
    unfold Program.goes
    rw [h, Bool.and_false, Bool.or_false, List.any_eq_false]
    intro g _ hg
    cases e : P.funcs[g]? with
    | none => rw [e] at hg; cases hg
    | some fn =>
      rw [e] at hg
      rw [Array.any_eq_false'] at h
      exact h fn (Array.mem_of_getElem? e) hg
  unfold OpenClaim.goesBy Program.goesAt Program.goesFrom
  rw [hs]
  cases P.funcNamed c.func with
  | none => rfl
  | some f => show false = (P.goes f || false); rw [hf f]; rfl
theorem f_wf : Rows.nodeNamesRow.wf (OpenSpec.ofChange Rows.nodeNamesSpec) = true := by kernel_rfl
theorem f_mr : mapsRowed Tryz.prog = true := by kernel_rfl
theorem f_ip : (Rows.nodeNamesRow.inPlace == Tryz.prog.inPlace 3) = true := by kernel_rfl
theorem f_uf : (Rows.nodeNamesRow.unfollowed == Tryz.prog.unfollowed 3) = true := by kernel_rfl
theorem f_rc : (Rows.nodeNamesRow.recurses == Tryz.prog.recurses 3) = true := by kernel_rfl
theorem f_nm : (Rows.nodeNamesRow.named == Tryz.prog.varsNamed 3) = true := by kernel_rfl
theorem closed : joinedFacts Tryz.prog 3 Tryz.f3 Rows.nodeNamesSpec Rows.nodeNamesRow = true := by
  unfold joinedFacts
  rw [f_wf, laidOut, f_mr, f_ip, f_uf, f_rc, f_nm]
  kernel_rfl
end Go.Proofs.YtkfhapidoolfdaaGreatDoor.nodeNames
