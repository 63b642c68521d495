/-
  The law HolderShort answers true for every input and leaves its arguments as they were. No condition.
-/
import Derived.Test.YtifllaeldcimgaaHShort2
import Derived.Test.YtifllaeldcimgaaOpenCap
import Derived.Test.YtifllaeldcimgaaLawEnd
import Derived.SizedLaws
namespace Go.Proofs.Ytifllaeldcimgaa.holderShort
open Go.ChangeShapes Go.WideShapes Go.ChangeAt Go.RowKit

set_option maxHeartbeats 1000000 in
set_option maxRecDepth 100000 in
theorem lifted (os : Os) (started : os.Started) (H : Type) (enc : TypeId × Value → H) :
    ReturnsInHanded {} Try.checked os 5 .any (Rows.holderShortSpec.pre6 enc Try.prog Try.f5 Rows.holderShortRow.domain false) (Rows.holderShortSpec.post enc Try.prog Try.f5 false true false false) := by
  refine returnsInHanded_of_change_sized (C := Try.checked) own started (by kernel_rfl) Try.func5
    (ChangeSpec.witness6 (enc := enc) (C := Try.checked) false ⟨#[], #[.int .i64 0, .slice none 0 0], []⟩ 8 (by kernel_rfl) (by kernel_rfl) (by kernel_rfl) (by kernel_rfl)) ?_
  intro W base args ds gs before hval0 hW _ hz _
  have hval : ∀ (j : Nat) t v, Try.f5.params[j]? = some t → args[j]? = some v → Value.okWide Try.prog W .any base t v := hval0
  have hW' := hW
  obtain ⟨p, q, hA, hV, rfl, _, _⟩ := hW
  obtain ⟨rfl, rfl⟩ := trodVars_none hV
  have hA0 : DataW.TrodAll enc Try.prog W 0 (fun _ => true) true Try.f5.params.toList args.toList ds p := hA
  rw [Try.params5] at hA0 hz hval
  obtain ⟨v0, vs0, d0, ds0, p0, q0, hargs, rfl, rfl, h0, r0⟩ := trodAll_cons hA0
  obtain ⟨v1, vs1, d1, ds1, p1, q1, rfl, rfl, rfl, h1, r1⟩ := trodAll_cons r0
  obtain ⟨rfl, rfl, rfl⟩ := trodAll_nil r1
  obtain rfl : args = #[v0, v1] := by cases args; simp_all
  obtain ⟨z0, hz0⟩ := weights_cons (show (DataW.weightsEach Try.prog (3 :: _) (d0 :: _)).all _ = true from hz)
  obtain ⟨z1, hz1⟩ := weights_cons (show (DataW.weightsEach Try.prog (35 :: _) (d1 :: _)).all _ = true from hz0)
  obtain ⟨rho, rfl, _, _, _⟩ := open_int Try.underlying3 (hval 0 3 v0 rfl rfl) h0
  obtain ⟨l, hl⟩ := open_ops (hval 1 35 v1 rfl rfl) h1 z1
  obtain ⟨vp, vc, rfl⟩ := hl.len
  have hcap := cap_ops h1
  refine (short_any (rho := rho) hl hcap).mono fun e W' ⟨he, hm⟩ => ?_
  subst he
  exact ⟨_, rfl, law_post (by kernel_rfl) rfl (by rw [Try.params5]; intro t ht; revert t; decide +kernel) hW' (fun x hx => by simpa using hW'.lt x hx) rfl rfl rfl hm⟩

theorem over : Rows.holderShortRow.holds Try.pinned (OpenSpec.ofChange Rows.holderShortSpec) :=
  OpenClaim.holds_of_wide 5 Try.f5 rfl rfl rfl rfl rfl rfl rfl ⟨rfl, rfl, rfl, rfl, rfl⟩ rfl rfl rfl rfl rfl (by kernel_rfl) Try.func5 (by kernel_rfl)
    (of_decide_eq_true (by kernel_rfl)) (by unfold Func.isWrapper; first | (rw [if_pos (by decide +kernel)]; kernel_rfl) | (rw [if_neg (by decide +kernel)]; exact ⟨rfl, rfl⟩))
    (fun os started H enc _ => lifted os started H enc)

theorem proved : Rows.HolderShortSaid := over
#print axioms proved
end Go.Proofs.Ytifllaeldcimgaa.holderShort
