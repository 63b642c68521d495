/-
  WALKS: layer 17: fault.
-/
import Derived.Test.YtifllaeldcimgaaGreatHoldL
namespace Go.Proofs.YtifllaeldcimgaaGreat
open Go.RowKit

def momOk (now sent : Int) : Prop := 0 ≤ sent ∧ sent ≤ now ∧ now ≤ 1152921504606846976
instance (now sent : Int) : Decidable (momOk now sent) := by unfold momOk; exact inferInstance
def rangeOk (now sent : Int) (x : Lease) : Prop := momOk now sent ∧ 0 ≤ x.frm ∧ x.frm < 8 ∧ 1 ≤ x.id ∧ x.id ≤ 1099511627776
instance (now sent : Int) (x : Lease) : Decidable (rangeOk now sent x) := by unfold rangeOk; exact inferInstance
def legalT (t : Int) : Prop := 4 ≤ t ∧ t ≤ 1048576
instance (t : Int) : Decidable (legalT t) := by unfold legalT; exact inferInstance
def stampedOk (a : List Int) : Prop := a ≠ [] ∧ stampOk a
instance (a : List Int) : Decidable (stampedOk a) := by unfold stampedOk; exact inferInstance
/-- what stands against a lease -/
def faultS (rho : Int) (l : List Lease) (now sent : Int) (x : Lease) : Int :=
  if ¬ rangeOk now sent x then 2 else if pathOk x.path.data.toList = false then 10 else if ¬ modeOk x.mode then 11 else if ¬ stampedOk x.stamp then 13 else if ¬ legalT x.term then 12
  else if (getL l (keyL x)).isSome = true then 50 else if sent + shrinkI x.term rho ≤ now then 62 else if 8 ≤ (sweepL now l).length then 51 else 0
theorem mom_any (now sent : Int) (w : World) : Calls Tryz.prog 34 #[.int .i64 now, .int .i64 sent] w fun e w' => e = .returned (.bool (decide (momOk now sent))) ∧ w' = w := moments_any now sent w
theorem stp_any {w : World} {u : Value} {a : List Int} (hu : RdN w u a) : Calls Tryz.prog 36 #[u] w fun e w' => e = .returned (.bool (decide (stampedOk a))) ∧ w' = w := stamped_any hu
theorem lgl_any (t : Int) (w : World) : Calls Tryz.prog 35 #[.int .i64 t] w fun e w' => e = .returned (.bool (decide (legalT t))) ∧ w' = w := legal_any t w
def CodeM (w : World) (c : Int) (e : Ending) (w' : World) : Prop := e = .returned (.int .i64 c) ∧ Mod [] w w'
section
variable {w : World} {ph pm : Nat} {fs : List Nat} {rho : Int} {l : List Lease} (f i m t s e : Int) (p : ByteArray) (a : List Int) (r : Bool) (q : Option Addr) (c : Nat) (now sent : Int)
set_option maxHeartbeats 1000000 in
set_option maxRecDepth 100000 in
theorem fault_range (hn : ¬ rangeOk now sent ⟨f, i, p, m, a, t, s, e, r⟩) :
    Calls Tryz.prog 58 #[.pointer (some ⟨ph, 0, none⟩), .int .i64 now, .int .i64 sent, .agg #[.int .i64 f, .int .i64 i, .string p, .int .i64 m, .slice q a.length c, .int .i64 t, .int .i64 s, .int .i64 e, .bool r]] w fun en w' => CodeM w 2 en w' := by
  have G := hide (((Gr.refl w).alloc (objL f i p m (.slice q a.length c) t s e r)).mod [])
  unfold rangeOk at hn
  simp only at hn
  by_cases h0 : momOk now sent
  · have d0 : decide (momOk now sent) = true := decide_eq_true h0
    have hn' : f < 0 ∨ 8 ≤ f ∨ i < 1 ∨ 1099511627776 < i := by
      by_cases h1 : 0 ≤ f
      · by_cases h2 : f < 8
        · by_cases h3 : 1 ≤ i
          · exact .inr (.inr (.inr (by
              by_cases h4 : i ≤ 1099511627776
              · exact absurd ⟨h0, h1, h2, h3, h4⟩ hn
              · omega)))
          · exact .inr (.inr (.inl (by omega)))
        · exact .inr (.inl (by omega))
      · exact .inl (by omega)
    have D0 := hide d0
    clear hn h0 d0
    have fin : ∀ (hx : (f < 0) ∨ (0 ≤ f ∧ 8 ≤ f) ∨ (0 ≤ f ∧ f < 8 ∧ i < 1) ∨ (0 ≤ f ∧ f < 8 ∧ 1 ≤ i ∧ 1099511627776 < i)), Calls Tryz.prog 58 #[.pointer (some ⟨ph, 0, none⟩), .int .i64 now, .int .i64 sent, .agg #[.int .i64 f, .int .i64 i, .string p, .int .i64 m, .slice q a.length c, .int .i64 t, .int .i64 s, .int .i64 e, .bool r]] w fun en w' => CodeM w 2 en w' := by
      rintro (h1 | ⟨h1, h2⟩ | ⟨h1, h2, h3⟩ | ⟨h1, h2, h3, h4⟩)
      all_goals
        clear hn'
        go_enter Tryz.func58, Tryz.ntmps58
        go_wp2_with fail
        refine (mom_any _ _ _).mono ?_
        rintro en w' ⟨rfl, rfl⟩
        rw [D0.out]
        clear D0
        go_wp2_with fail
        go_ret
        exact ⟨rfl, G.out⟩
    exact fin (by omega)
  · have d0 : decide (momOk now sent) = false := decide_eq_false h0
    have D0 := hide d0
    clear hn h0 d0
    go_enter Tryz.func58, Tryz.ntmps58
    go_wp2_with fail
    refine (mom_any _ _ _).mono ?_
    rintro en w' ⟨rfl, rfl⟩
    rw [D0.out]
    clear D0
    go_wp2_with fail
    go_ret
    exact ⟨rfl, G.out⟩
set_option maxHeartbeats 1000000 in
set_option maxRecDepth 100000 in
theorem fault_path (h0 : rangeOk now sent ⟨f, i, p, m, a, t, s, e, r⟩) (hp : p.size ≤ 9223372036854775807) (h1 : pathOk p.data.toList = false) :
    Calls Tryz.prog 58 #[.pointer (some ⟨ph, 0, none⟩), .int .i64 now, .int .i64 sent, .agg #[.int .i64 f, .int .i64 i, .string p, .int .i64 m, .slice q a.length c, .int .i64 t, .int .i64 s, .int .i64 e, .bool r]] w fun en w' => CodeM w 10 en w' := by
  have G := hide (((Gr.refl w).alloc (objL f i p m (.slice q a.length c) t s e r)).mod [])
  obtain ⟨h0, r1, r2, r3, r4⟩ := h0
  simp only at r1 r2 r3 r4
  have d0 : decide (momOk now sent) = true := decide_eq_true h0
  have D0 := hide d0
  have D1 := hide h1
  clear h0 d0 h1
  go_enter Tryz.func58, Tryz.ntmps58
  go_wp2_with fail
  refine (mom_any _ _ _).mono ?_
  rintro en w' ⟨rfl, rfl⟩
  rw [D0.out]
  clear D0
  go_wp2_with fail
  refine (pvalid_any p hp _).mono ?_
  rintro en w' ⟨rfl, rfl⟩
  rw [D1.out]
  clear D1
  go_wp2_with fail
  go_ret
  exact ⟨rfl, G.out⟩
set_option maxHeartbeats 1000000 in
set_option maxRecDepth 100000 in
theorem fault_mode (h0 : rangeOk now sent ⟨f, i, p, m, a, t, s, e, r⟩) (hp : p.size ≤ 9223372036854775807) (h1 : pathOk p.data.toList = true) (h2 : ¬ modeOk m) :
    Calls Tryz.prog 58 #[.pointer (some ⟨ph, 0, none⟩), .int .i64 now, .int .i64 sent, .agg #[.int .i64 f, .int .i64 i, .string p, .int .i64 m, .slice q a.length c, .int .i64 t, .int .i64 s, .int .i64 e, .bool r]] w fun en w' => CodeM w 11 en w' := by
  have G := hide (((Gr.refl w).alloc (objL f i p m (.slice q a.length c) t s e r)).mod [])
  obtain ⟨h0, r1, r2, r3, r4⟩ := h0
  simp only at r1 r2 r3 r4
  have d0 : decide (momOk now sent) = true := decide_eq_true h0
  have D0 := hide d0
  have D1 := hide h1
  have b1 : (m != 1) = true := by simp; exact fun x => h2 (.inl x)
  have b2 : (m != 2) = true := by simp; exact fun x => h2 (.inr x)
  clear h0 d0 h1 h2
  go_enter Tryz.func58, Tryz.ntmps58
  go_wp2_with fail
  refine (mom_any _ _ _).mono ?_
  rintro en w' ⟨rfl, rfl⟩
  rw [D0.out]
  clear D0
  go_wp2_with fail
  refine (pvalid_any p hp _).mono ?_
  rintro en w' ⟨rfl, rfl⟩
  rw [D1.out]
  clear D1
  go_wp2_with fail
  go_ret
  exact ⟨rfl, G.out⟩
set_option maxHeartbeats 1000000 in
set_option maxRecDepth 100000 in
theorem fault_stamp (h0 : rangeOk now sent ⟨f, i, p, m, a, t, s, e, r⟩) (hp : p.size ≤ 9223372036854775807) (h1 : pathOk p.data.toList = true) (h2 : modeOk m) (hv : RdN w (.slice q a.length c) a) (h3 : decide (stampedOk a) = false) :
    Calls Tryz.prog 58 #[.pointer (some ⟨ph, 0, none⟩), .int .i64 now, .int .i64 sent, .agg #[.int .i64 f, .int .i64 i, .string p, .int .i64 m, .slice q a.length c, .int .i64 t, .int .i64 s, .int .i64 e, .bool r]] w fun en w' => CodeM w 13 en w' := by
  have G := hide (((Gr.refl w).alloc (objL f i p m (.slice q a.length c) t s e r)).mod [])
  obtain ⟨h0, r1, r2, r3, r4⟩ := h0
  simp only at r1 r2 r3 r4
  have d0 : decide (momOk now sent) = true := decide_eq_true h0
  have D0 := hide d0
  have D1 := hide h1
  have d3 := hide h3
  have hv1 := hv.gr ((Gr.refl w).alloc (objL f i p m (.slice q a.length c) t s e r))
  clear h0 d0 h1 hv h3
  rcases h2 with rfl | rfl
  all_goals
    go_enter Tryz.func58, Tryz.ntmps58
    go_wp2_with fail
    refine (mom_any _ _ _).mono ?_
    rintro en w' ⟨rfl, rfl⟩
    rw [D0.out]
    clear D0
    go_wp2_with fail
    refine (pvalid_any p hp _).mono ?_
    rintro en w' ⟨rfl, rfl⟩
    rw [D1.out]
    clear D1
    go_wp2_with fail
    refine (stp_any hv1).mono ?_
    rintro en w' ⟨rfl, rfl⟩
    rw [d3.out]
    clear d3
    go_wp2_with fail
    go_ret
    exact ⟨rfl, G.out⟩
set_option maxHeartbeats 1000000 in
set_option maxRecDepth 100000 in
theorem fault_term (h0 : rangeOk now sent ⟨f, i, p, m, a, t, s, e, r⟩) (hp : p.size ≤ 9223372036854775807) (h1 : pathOk p.data.toList = true) (h2 : modeOk m) (hv : RdN w (.slice q a.length c) a) (h3 : decide (stampedOk a) = true) (h4 : decide (legalT t) = false) :
    Calls Tryz.prog 58 #[.pointer (some ⟨ph, 0, none⟩), .int .i64 now, .int .i64 sent, .agg #[.int .i64 f, .int .i64 i, .string p, .int .i64 m, .slice q a.length c, .int .i64 t, .int .i64 s, .int .i64 e, .bool r]] w fun en w' => CodeM w 12 en w' := by
  have G := hide (((Gr.refl w).alloc (objL f i p m (.slice q a.length c) t s e r)).mod [])
  obtain ⟨h0, r1, r2, r3, r4⟩ := h0
  simp only at r1 r2 r3 r4
  have d0 : decide (momOk now sent) = true := decide_eq_true h0
  have D0 := hide d0
  have d4 := hide h4
  clear h4
  have D1 := hide h1
  have d3 := hide h3
  have hv1 := hv.gr ((Gr.refl w).alloc (objL f i p m (.slice q a.length c) t s e r))
  clear h0 d0 h1 hv h3
  rcases h2 with rfl | rfl
  all_goals
    go_enter Tryz.func58, Tryz.ntmps58
    go_wp2_with fail
    refine (mom_any _ _ _).mono ?_
    rintro en w' ⟨rfl, rfl⟩
    rw [D0.out]
    clear D0
    go_wp2_with fail
    refine (pvalid_any p hp _).mono ?_
    rintro en w' ⟨rfl, rfl⟩
    rw [D1.out]
    clear D1
    go_wp2_with fail
    refine (stp_any hv1).mono ?_
    rintro en w' ⟨rfl, rfl⟩
    rw [d3.out]
    clear d3
    go_wp2_with fail
    refine (lgl_any _ _).mono ?_
    rintro en w' ⟨rfl, rfl⟩
    rw [d4.out]
    clear d4
    go_wp2_with fail
    go_ret
    exact ⟨rfl, G.out⟩
end
end Go.Proofs.YtifllaeldcimgaaGreat
