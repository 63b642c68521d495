/-
  The law HolderOwn answers true for every input and leaves its arguments as they were. No condition.
-/
import Derived.Test.YtifllaeldcimgaaHOwn
import Derived.Test.YtifllaeldcimgaaOpenLO
import Derived.Test.YtifllaeldcimgaaLawEnd
import Derived.SizedLaws
namespace Go.Proofs.Ytifllaeldcimgaa.holderOwn
open Go.ChangeShapes Go.WideShapes Go.ChangeAt Go.RowKit

set_option maxHeartbeats 1000000 in
set_option maxRecDepth 100000 in
theorem lifted (os : Os) (started : os.Started) (H : Type) (enc : TypeId × Value → H) :
    ReturnsInHanded {} Try.checked os 7 .any (Rows.holderOwnSpec.pre6 enc Try.prog Try.f7 Rows.holderOwnRow.domain false) (Rows.holderOwnSpec.post enc Try.prog Try.f7 false true false false) := by
  refine returnsInHanded_of_change_sized (C := Try.checked) own started (by kernel_rfl) Try.func7
    (ChangeSpec.witness6 (enc := enc) (C := Try.checked) false ⟨#[], #[.agg #[.int .i64 0, .int .i64 0, .int .i64 0, .int .i64 0, .int .i64 0, .string ByteArray.empty, .int .i64 0, .slice none 0 0, .int .i64 0, .int .i64 0, .int .i64 0, .bool false]], []⟩ 8 (by kernel_rfl) (by kernel_rfl) (by kernel_rfl) (by kernel_rfl)) ?_
  intro W base args ds gs before hval0 hW _ hz _
  have hval : ∀ (j : Nat) t v, Try.f7.params[j]? = some t → args[j]? = some v → Value.okWide Try.prog W .any base t v := hval0
  have hW' := hW
  obtain ⟨p, q, hA, hV, rfl, _, _⟩ := hW
  obtain ⟨rfl, rfl⟩ := trodVars_none hV
  have hA0 : DataW.TrodAll enc Try.prog W 0 (fun _ => true) true Try.f7.params.toList args.toList ds p := hA
  rw [Try.params7] at hA0 hz hval
  obtain ⟨v0, vs0, d0, ds0, p0, q0, hargs, rfl, rfl, h0, r0⟩ := trodAll_cons hA0
  obtain ⟨rfl, rfl, rfl⟩ := trodAll_nil r0
  obtain rfl : args = #[v0] := by cases args; simp_all
  obtain ⟨z0, hz0⟩ := weights_cons (show (DataW.weightsEach Try.prog (37 :: _) (d0 :: _)).all _ = true from hz)
  obtain ⟨kd, nw, st, f, i, pp, m, a, t, s, e, r, q, c, rfl, hrd, hin⟩ := open_op (hval 0 37 v0 rfl rfl) h0 z0
  refine (hown_any kd nw st f i m t s e pp a r q c hrd hin.2.2.2.2.2).mono fun e W' ⟨he, hm⟩ => ?_
  subst he
  exact ⟨_, rfl, law_post (by kernel_rfl) rfl (by rw [Try.params7]; intro t ht; revert t; decide +kernel) hW' (fun x hx => by simpa using hW'.lt x hx) rfl rfl rfl hm⟩

theorem over : Rows.holderOwnRow.holds Try.pinned (OpenSpec.ofChange Rows.holderOwnSpec) :=
  OpenClaim.holds_of_wide 7 Try.f7 rfl rfl rfl rfl rfl rfl rfl ⟨rfl, rfl, rfl, rfl, rfl⟩ rfl rfl rfl rfl rfl (by kernel_rfl) Try.func7 (by kernel_rfl)
    (of_decide_eq_true (by kernel_rfl)) (by unfold Func.isWrapper; first | (rw [if_pos (by decide +kernel)]; kernel_rfl) | (rw [if_neg (by decide +kernel)]; exact ⟨rfl, rfl⟩))
    (fun os started H enc _ => lifted os started H enc)

theorem proved : Rows.HolderOwnSaid := over
#print axioms proved
end Go.Proofs.Ytifllaeldcimgaa.holderOwn
