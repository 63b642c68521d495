/-
  WALK: the law HolderShort.
-/
import Derived.Test.YtifllaeldcimgaaBacked
namespace Go.Proofs.Ytifllaeldcimgaa
open Go.RowKit

theorem bears_self {x : Lease} (h : okL x) (hr : x.recd = false) : bearsB x (x.expiry - 1) x.path.data.toList x.mode = true := by
  obtain ⟨_, hp, hm, ⟨_, hs⟩, _⟩ := h
  unfold bearsB coversB
  rw [hr, hp, decide_eq_true hm, decide_eq_true hs, decide_eq_true (by omega : x.expiry - 1 < x.expiry)]
  rcases hm with e | e <;> simp [e]
/-- a use at a lease's last moment: it is answered, unless the lease is recalled, and what is answered is no recalled lease -/
theorem use_last {L : List Lease} (hs : SrtL L) (hok : ∀ x, x ∈ L → okL x) {l x : Lease} (hl : l ∈ L) {c : Int} (h : UseOut L (l.expiry - 1) l.path.data.toList l.mode x c) :
    (c = 0 ∧ x ∈ L ∧ l.expiry - 1 < x.expiry ∧ (l.recd = true → x.frm ≠ l.frm ∨ (x.frm = l.frm ∧ x.id ≠ l.id))) ∨ (c ≠ 0 ∧ l.recd = true) := by
  rcases h with ⟨h1, h2, h3, _⟩ | ⟨h1, _, _, h4⟩
  · obtain ⟨h5, h6⟩ := bears_parts h3
    refine .inl ⟨h1, h2, h6, fun hr => ?_⟩
    by_cases e1 : x.frm = l.frm
    · refine .inr ⟨e1, fun e2 => ?_⟩
      have : x = l := srt_mem_eq hs h2 hl (Prod.ext e1 e2)
      rw [this, hr] at h5
      cases h5
    · exact .inl e1
  · refine .inr ⟨h1, ?_⟩
    cases hr : l.recd with
    | true => rfl
    | false => have := bears_self (hok l hl) hr; rw [h4 l hl] at this; cases this
/-- a use when it is over: a lone lease does not answer it -/
theorem use_over {L : List Lease} {l x : Lease} (hl : l ∈ L) {p : List UInt8} {m : Int} {c : Int} (h : UseOut L l.expiry p m x c) : c ≠ 0 ∨ L.length ≠ 1 := by
  rcases h with ⟨_, h2, h3, _⟩ | ⟨h1, _⟩
  · right
    intro h
    obtain ⟨y, rfl⟩ := List.length_eq_one_iff.1 h
    simp only [List.mem_singleton] at hl h2
    subst hl h2
    have := (bears_parts h3).2
    omega
  · exact .inl h1
end Go.Proofs.Ytifllaeldcimgaa
