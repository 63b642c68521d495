/-
  PLAIN LAW of HolderShort: every lease that the holder keeps is backed by a call.
-/
import Derived.Test.YtifllaeldcimgaaHSame
import Derived.Test.YtifllaeldcimgaaHUses
namespace Go.Proofs.Ytifllaeldcimgaa

/-- the call o brought the lease x, or renewed it, for a shrunk term that is not over before x's expiry -/
def Backs (rho : Int) (x : Lease) (o : OpL) : Prop :=
  (o.kind < 2 ∨ 6 < o.kind) ∧ o.l.frm = x.frm ∧ o.l.id = x.id ∧ 0 ≤ o.sent ∧ o.sent ≤ o.now ∧ o.now ≤ 1152921504606846976 ∧ termOk o.l.term rho ∧ x.expiry ≤ o.sent + shrinkI o.l.term rho
def BackedL (rho : Int) (ops : List OpL) (L : List Lease) : Prop := ∀ x, x ∈ L → ∃ o, o ∈ ops ∧ Backs rho x o
theorem Backs.of {rho : Int} {x y : Lease} {o : OpL} (h : Backs rho x o) (h1 : y.frm = x.frm) (h2 : y.id = x.id) (h3 : y.expiry ≤ x.expiry) : Backs rho y o := by
  obtain ⟨a, b, c, d, e, f, g, i⟩ := h
  exact ⟨a, by omega, by omega, d, e, f, g, by omega⟩
theorem backed_step {rho : Int} (hr : 0 ≤ rho ∧ rho ≤ 999) {ops : List OpL} {L : List Lease} (hs : SrtL L) (o : OpL) (h : BackedL rho ops L) : BackedL rho (ops ++ [o]) (playS rho L o) := by
  have old : ∀ x, x ∈ L → ∃ o', o' ∈ ops ++ [o] ∧ Backs rho x o' := fun x hx => by
    obtain ⟨o', h1, h2⟩ := h x hx
    exact ⟨o', List.mem_append_left _ h1, h2⟩
  have new : ∀ x, Backs rho x o → ∃ o', o' ∈ ops ++ [o] ∧ Backs rho x o' := fun x hx => ⟨o, by simp, hx⟩
  intro x hx
  unfold playS at hx
  by_cases k1 : o.kind = 1
  · rw [if_pos k1] at hx
    unfold renewedS at hx
    cases hg : getL L (keyL o.l) with
    | none => simp only [hg] at hx; exact old x hx
    | some y =>
      simp only [hg] at hx
      by_cases ho : renewOk y o.now o.sent o.l.stamp o.l.term
      · rw [if_pos ho] at hx
        obtain ⟨hy, hk⟩ := getL_some hg
        rcases (mem_putL hs).1 hx with rfl | ⟨hx, _⟩
        · obtain ⟨o', h1, h2⟩ := h y hy
          obtain ⟨_, hm, hl, _⟩ := ho
          by_cases hle : o.sent + shrinkI o.l.term rho ≤ y.expiry
          · exact ⟨o', List.mem_append_left _ h1, h2.of rfl rfl (by simp only [renewL]; omega)⟩
          · refine new _ ⟨by omega, (congrArg Prod.fst hk).symm, (congrArg Prod.snd hk).symm, ?_, ?_, ?_, ?_, by simp only [renewL]; omega⟩
            all_goals first | (unfold momOk at hm; omega) | (unfold termOk; unfold legalT at hl; omega)
        · exact old x hx
      · rw [if_neg ho] at hx; exact old x hx
  · rw [if_neg k1] at hx
    by_cases k2 : o.kind = 2
    · rw [if_pos k2] at hx
      unfold recallS at hx
      cases hg : getL L (keyL o.l) with
      | none => simp only [hg] at hx; exact old x hx
      | some y =>
        simp only [hg] at hx
        obtain ⟨hy, hk⟩ := getL_some hg
        cases hyr : y.recd with
        | true => simp only [hyr, if_true] at hx; exact old x hx
        | false =>
          simp only [hyr, Bool.false_eq_true, if_false] at hx
          rcases (mem_putL hs).1 hx with rfl | ⟨hx, _⟩
          · obtain ⟨o', h1, h2⟩ := h y hy
            exact ⟨o', List.mem_append_left _ h1, h2.of rfl rfl (Int.le_refl _)⟩
          · exact old x hx
    · rw [if_neg k2] at hx
      by_cases k3 : o.kind = 3
      · rw [if_pos k3] at hx; exact old x (mem_delL.1 hx).1
      · rw [if_neg k3] at hx
        by_cases k4 : o.kind = 4
        · rw [if_pos k4] at hx; exact old x hx
        · rw [if_neg k4] at hx
          by_cases k5 : o.kind = 5
          · rw [if_pos k5] at hx; exact old x hx
          · rw [if_neg k5] at hx
            by_cases k6 : o.kind = 6
            · rw [if_pos k6] at hx; exact old x (mem_sweepL.1 hx).1
            · rw [if_neg k6] at hx
              unfold addS at hx
              by_cases hf : faultS rho L o.now o.sent o.l = 0
              · rw [if_pos hf] at hx
                obtain ⟨_, _, ht, hm, _, _⟩ := fault_zero hr hf
                rcases (mem_putL (sweepL_srt hs _)).1 hx with rfl | ⟨hx, _⟩
                · refine new _ ⟨by omega, rfl, rfl, ?_, ?_, ?_, ht, by simp only [keptL]; omega⟩
                  all_goals (unfold momOk at hm; omega)
                · exact old x (mem_sweepL.1 hx).1
              · rw [if_neg hf] at hx; exact old x hx
end Go.Proofs.Ytifllaeldcimgaa
