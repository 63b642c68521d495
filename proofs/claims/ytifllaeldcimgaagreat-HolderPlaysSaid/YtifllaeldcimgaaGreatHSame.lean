/-
  WALK: SameLease at two leases that read alike; laws of Use.
-/
import Derived.Test.YtifllaeldcimgaaGreatOpenLO
namespace Go.Proofs.YtifllaeldcimgaaGreat
open Go.RowKit

set_option maxHeartbeats 800000 in
set_option maxRecDepth 100000 in
theorem sameLease_eq {w : World} {a : List Int} {q1 q2 : Option Addr} {c1 c2 : Nat} (h1 : RdN w (.slice q1 a.length c1) a) (h2 : RdN w (.slice q2 a.length c2) a) (f i m t s e : Int) (p : ByteArray) (r : Bool) :
    Calls Tryz.prog 15 #[.agg #[.int .i64 f, .int .i64 i, .string p, .int .i64 m, .slice q1 a.length c1, .int .i64 t, .int .i64 s, .int .i64 e, .bool r], .agg #[.int .i64 f, .int .i64 i, .string p, .int .i64 m, .slice q2 a.length c2, .int .i64 t, .int .i64 s, .int .i64 e, .bool r]] w
      fun en w' => en = .returned (.bool true) ∧ Gr w w' := by
  have g := ((Gr.refl w).alloc (objL f i p m (.slice q1 a.length c1) t s e r)).alloc (objL f i p m (.slice q2 a.length c2) t s e r)
  have h1' := h1.gr g
  have h2' := h2.gr g
  have b1 := blk_alloc (heap_alloc_new w (objL f i p m (.slice q1 a.length c1) t s e r)) (objL f i p m (.slice q2 a.length c2) t s e r)
  have b2 := heap_alloc_new (w.alloc (objL f i p m (.slice q1 a.length c1) t s e r)) (objL f i p m (.slice q2 a.length c2) t s e r)
  have e1 : (w.alloc (objL f i p m (.slice q1 a.length c1) t s e r)).heap.size = w.heap.size + 1 := by simp
  rw [e1] at b2
  have HB := hide (And.intro g (And.intro b1 b2))
  clear h1 h2 g b1 b2 e1
  go_enter Tryz.func15, Tryz.ntmps15
  go_wp2_with fail
  refine (sameInts_any h1' h2').mono ?_
  rintro en w2 ⟨rfl, hg⟩
  rw [decide_eq_true rfl]
  obtain ⟨g, b1, b2⟩ := HB.out
  have b1' := (hg.mod []).at_ b1 (by simp)
  have b2' := (hg.mod []).at_ b2 (by simp)
  have C1 := blk_cell b1'
  have C2 := blk_cell b2'
  have G := hide (g.trans hg)
  clear HB g b1 b2 hg h1' h2' b1' b2'
  go_wp2_with fail
  go_ret
  exact ⟨rfl, G.out⟩
theorem pref_exp (x y : Lease) : (prefI x y < 0 → y.expiry ≤ x.expiry) ∧ (¬ prefI x y < 0 → x.expiry ≤ y.expiry) := by
  unfold prefI orInt
  rcases cmpInt_cases y.expiry x.expiry with ⟨h, e⟩ | ⟨h, e⟩ | ⟨h, e⟩
  · rw [e]; simp; omega
  · rw [e]; simp; omega
  · exact ⟨fun _ => by omega, fun _ => by omega⟩
theorem minL_max (r : List Lease) : ∀ b, minL b r ∈ b :: r ∧ ∀ y : Lease, y ∈ b :: r → y.expiry ≤ (minL b r).expiry := by
  induction r with
  | nil => intro b; exact ⟨by simp [minL], fun y hy => by simp at hy; subst hy; exact Int.le_refl _⟩
  | cons x r ih =>
    intro b
    show minL (if prefI x b < 0 then x else b) r ∈ _ ∧ ∀ y : Lease, y ∈ _ → y.expiry ≤ (minL (if prefI x b < 0 then x else b) r).expiry
    have hp := pref_exp x b
    by_cases h : prefI x b < 0
    · rw [if_pos h]
      obtain ⟨h1, h2⟩ := ih x
      have h3 := h2 x (by simp)
      have h4 := hp.1 h
      refine ⟨by rcases List.mem_cons.1 h1 with e | e <;> simp [e], fun y hy => ?_⟩
      rcases List.mem_cons.1 hy with e | hy
      · subst e; omega
      · exact h2 y hy
    · rw [if_neg h]
      obtain ⟨h1, h2⟩ := ih b
      have h3 := h2 b (by simp)
      have h4 := hp.2 h
      refine ⟨by rcases List.mem_cons.1 h1 with e | e <;> simp [e], fun y hy => ?_⟩
      rcases List.mem_cons.1 hy with e | hy
      · subst e; exact h3
      · rcases List.mem_cons.1 hy with e | hy
        · subst e; omega
        · exact h2 y (by simp [hy])
theorem use_law (l : List Lease) (now : Int) (path : List UInt8) (md : Int) :
    (∃ x, useS l now path md = (some x, 0) ∧ x ∈ l ∧ bearsB x now path md = true ∧ ∀ y, y ∈ l → bearsB y now path md = true → y.expiry ≤ x.expiry) ∨
    (∃ k, useS l now path md = (none, k) ∧ k ≠ 0 ∧ ∀ y, y ∈ l → bearsB y now path md = false) := by
  unfold useS
  by_cases h1 : pathOk path = false
  · rw [if_pos h1]
    exact .inr ⟨10, rfl, by decide, fun y _ => by unfold bearsB coversB; rw [h1]; simp⟩
  · rw [if_neg h1]
    by_cases h2 : modeOk md
    · rw [if_neg (fun q => q h2)]
      cases hb : l.filter (fun x => bearsB x now path md) with
      | nil =>
        refine .inr ⟨62, rfl, by decide, fun y hy => ?_⟩
        have := List.filter_eq_nil_iff.1 hb y hy
        simpa using this
      | cons x r =>
        obtain ⟨h3, h4⟩ := minL_max r x
        rw [← hb] at h3 h4
        have h5 := List.mem_filter.1 h3
        exact .inl ⟨minL x r, rfl, h5.1, h5.2, fun y hy hyb => h4 y (List.mem_filter.2 ⟨hy, hyb⟩)⟩
    · rw [if_pos h2]
      exact .inr ⟨11, rfl, by decide, fun y _ => by unfold bearsB; rw [decide_eq_false h2]; simp⟩
theorem bears_parts {x : Lease} {now : Int} {path : List UInt8} {md : Int} (h : bearsB x now path md = true) : x.recd = false ∧ now < x.expiry := by
  unfold bearsB at h
  simp only [Bool.and_eq_true, Bool.not_eq_true', decide_eq_true_eq] at h
  exact ⟨h.1.1.1.1.1, h.1.1.1.1.2⟩
theorem get_of_mem {l : List Lease} (h : SrtL l) {x : Lease} (hx : x ∈ l) : getL l (x.frm, x.id) = some x := by
  unfold getL
  cases hf : l.find? (fun y => decide (keyL y = (x.frm, x.id))) with
  | none => have := List.find?_eq_none.1 hf x hx; simp [keyL] at this
  | some y =>
    have h1 := List.find?_some hf
    have h2 := List.mem_of_find?_eq_some hf
    rw [srt_mem_eq h h2 hx (of_decide_eq_true h1)]
end Go.Proofs.YtifllaeldcimgaaGreat
