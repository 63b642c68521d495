/-
  The law HolderNames answers true for every input and leaves its arguments as they were. No condition.
-/
import Derived.Test.YtifllaeldcimgaaHNames
import Derived.Test.YtifllaeldcimgaaLawEnd
namespace Go.Proofs.Ytifllaeldcimgaa.holderNames
open Go.ChangeShapes Go.WideShapes Go.ChangeAt Go.RowKit

set_option maxRecDepth 100000 in
theorem lifted (os : Os) (started : os.Started) (H : Type) (enc : TypeId × Value → H) :
    ReturnsInHanded {} Try.checked os 3 .any (Rows.holderNamesSpec.pre6 enc Try.prog Try.f3 Rows.holderNamesRow.domain false) (Rows.holderNamesSpec.post enc Try.prog Try.f3 false true false false) := by
  refine returnsInHanded_of_change (C := Try.checked) own started (by kernel_rfl) Try.func3
    (ChangeSpec.witness6 (enc := enc) (C := Try.checked) false ⟨#[], #[], []⟩ 8 (by kernel_rfl) (by kernel_rfl) (by kernel_rfl) (by kernel_rfl)) ?_
  intro W base args ds gs before hval0 hW _ _
  have hW' := hW
  obtain ⟨p, q, hA, hV, rfl, _, _⟩ := hW
  obtain ⟨rfl, rfl⟩ := trodVars_none hV
  have hA0 : DataW.TrodAll enc Try.prog W 0 (fun _ => true) true Try.f3.params.toList args.toList ds p := hA
  rw [Try.params3] at hA0
  obtain ⟨rfl, rfl, rfl⟩ := trodAll_none hA0
  refine (names_any _).mono fun e W' ⟨he, hm⟩ => ?_
  subst he
  exact ⟨_, rfl, law_post (by kernel_rfl) rfl (by rw [Try.params3]; intro t ht; revert t; decide +kernel) hW' (fun x hx => by simpa using hW'.lt x hx) rfl rfl rfl hm⟩

theorem over : Rows.holderNamesRow.holds Try.pinned (OpenSpec.ofChange Rows.holderNamesSpec) :=
  OpenClaim.holds_of_wide 3 Try.f3 rfl rfl rfl rfl rfl rfl rfl ⟨rfl, rfl, rfl, rfl, rfl⟩ rfl rfl rfl rfl rfl (by kernel_rfl) Try.func3 (by kernel_rfl)
    (of_decide_eq_true (by kernel_rfl)) (by unfold Func.isWrapper; first | (rw [if_pos (by decide +kernel)]; kernel_rfl) | (rw [if_neg (by decide +kernel)]; exact ⟨rfl, rfl⟩))
    (fun os started H enc _ => lifted os started H enc)

theorem proved : Rows.HolderNamesSaid := over
#print axioms proved
end Go.Proofs.Ytifllaeldcimgaa.holderNames
