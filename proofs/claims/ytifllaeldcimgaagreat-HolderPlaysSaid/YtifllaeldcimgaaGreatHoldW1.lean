/-
  WALKS: layer 17: twin, moments, stamped, until, Due; layer 16: Bears.
-/
import Derived.Test.YtifllaeldcimgaaGreatLease
import Derived.Test.YtifllaeldcimgaaGreatStamps3
import Derived.Test.YtifllaeldcimgaaGreatTerm
import Derived.Test.YtifllaeldcimgaaGreatPaths2
namespace Go.Proofs.YtifllaeldcimgaaGreat
open Go.RowKit

/-- a lease whose stamp is a new row -/
def NewL (w : World) (x : Lease) (e : Ending) (w' : World) : Prop := ∃ v, e = .returned (aggL x v) ∧ w'.ownsRow w.heap.size 3 1 v x.stamp.length (x.stamp.map (Value.int .i64)) ∧ Mod [] w w'
set_option maxHeartbeats 400000 in
set_option maxRecDepth 100000 in
theorem twin_any {w : World} {v : Value} {a : List Int} (hv : RdN w v a) (hs : a.length ≤ 1000000) (f i m t s e : Int) (p : ByteArray) (r : Bool) :
    Calls Tryz.prog 53 #[.agg #[.int .i64 f, .int .i64 i, .string p, .int .i64 m, v, .int .i64 t, .int .i64 s, .int .i64 e, .bool r]] w fun en w' => NewL w ⟨f, i, p, m, a, t, s, e, r⟩ en w' := by
  obtain ⟨i0, hi0, hz0, hs0, hb0⟩ := info_parts info_int
  go_enter Tryz.func53, Tryz.ntmps53
  have g2 := ((Gr.refl w).alloc (.cells #[.int .i64 f, .int .i64 i, .string p, .int .i64 m, v, .int .i64 t, .int .i64 s, .int .i64 e, .bool r] 36)).alloc (.cells #[.int .i64 0, .int .i64 0, .string { data := #[] }, .int .i64 0, .slice none 0 0, .int .i64 0, .int .i64 0, .int .i64 0, .bool false] 36)
  have b1 := blk_alloc (heap_alloc_new w (.cells #[.int .i64 f, .int .i64 i, .string p, .int .i64 m, v, .int .i64 t, .int .i64 s, .int .i64 e, .bool r] 36)) (.cells #[.int .i64 0, .int .i64 0, .string { data := #[] }, .int .i64 0, .slice none 0 0, .int .i64 0, .int .i64 0, .int .i64 0, .bool false] 36)
  have b2 := heap_alloc_new (w.alloc (.cells #[.int .i64 f, .int .i64 i, .string p, .int .i64 m, v, .int .i64 t, .int .i64 s, .int .i64 e, .bool r] 36)) (.cells #[.int .i64 0, .int .i64 0, .string { data := #[] }, .int .i64 0, .slice none 0 0, .int .i64 0, .int .i64 0, .int .i64 0, .bool false] 36)
  have hv2 := hv.gr g2
  have B1 := hide b1
  have B2 := hide b2
  obtain ⟨pv, cv, rfl⟩ := hv.len
  clear b1 b2 hv
  have e2 : (w.alloc (.cells #[.int .i64 f, .int .i64 i, .string p, .int .i64 m, .slice pv a.length cv, .int .i64 t, .int .i64 s, .int .i64 e, .bool r] 36)).heap.size = w.heap.size + 1 := by simp
  go_wp2_with (
    at_builtin
    refine wpList_append_copy _ rfl _ _ 34 rfl 3 i0 Tryz.underlying34 hi0 hz0 hs0 hb0 rfl rfl hv2 hs ?_
    intro v' w2 ho hm
    have c1 := hm.at_ B1.out (by simp)
    have c2 := hm.at_ B2.out (by simp)
    rw [e2] at c2
    have hm0 := (g2.mod []).then hm
    have ho' : w2.ownsRow w.heap.size 3 1 v' a.length (a.map (Value.int .i64)) := row_base ho g2.size
    have ho2 : ∀ k, k ∈ ob v' → w.heap.size + 1 < k := fun k hk => by have := (ob_row ho k hk).1; simp at this; omega
    have HO2 := hide ho2
    obtain ⟨p', c', hv'⟩ := (RdN.of_row ho').len
    subst hv'
    clear B1 B2 e2 hv2 hm ho g2 ho2
    have C1 := blk_cell c1
    have C2 := blk_cell c2
    have F1 := blk_free c1
    have F2 := blk_free c2
    have hb2 : w.heap.size + 1 < w2.heap.size := lt_of_block c2)
  have q := st9_heap (blk_other c2 (a := ⟨w.heap.size, 4, none⟩) (by simp) (.slice p' a.length c')) rfl (.int .i64 f) (.int .i64 i) (.string p) (.int .i64 m) (.slice p' a.length c') (.int .i64 t) (.int .i64 s) (.int .i64 e) (.bool r)
  have qm := st9_mod (w2.setCell ⟨w.heap.size, 4, none⟩ (.slice p' a.length c')) w2 ((Mod.refl [w.heap.size, w.heap.size + 1] w2).setCell (fun _ => by simp) (.slice p' a.length c')) (w.heap.size + 1) (fun _ => by simp) (.int .i64 f) (.int .i64 i) (.string p) (.int .i64 m) (.slice p' a.length c') (.int .i64 t) (.int .i64 s) (.int .i64 e) (.bool r)
  refine bodyPost_ret (v := aggL ⟨f, i, p, m, a, t, s, e, r⟩ (.slice p' a.length c')) (res_cell1 Tryz.results53 _ _ rfl q Tryz.isAgg36 Tryz.sizeOf36) rfl ⟨_, rfl, ?_, ?_⟩
  · exact (st9_mod _ _ ((Mod.refl [w.heap.size, w.heap.size + 1] w2).setCell (fun _ => by simp) _) (w.heap.size + 1) (fun _ => by simp) _ _ _ _ _ _ _ _ _).row ho' (fun k hk => by have := HO2.out k (by simpa [ob] using hk); simp; omega)
  · exact hm0.trans qm (by simp) (fun x hx hlt => by simp at hx; omega)
theorem moments_any (now sent : Int) (w : World) : Calls Tryz.prog 34 #[.int .i64 now, .int .i64 sent] w fun e w' => e = .returned (.bool (decide (0 ≤ sent ∧ sent ≤ now ∧ now ≤ 1152921504606846976))) ∧ w' = w := by
  go_enter Tryz.func34, Tryz.ntmps34
  by_cases h1 : 0 ≤ sent
  · by_cases h2 : sent ≤ now
    · go_wp2
      go_ret
      exact ⟨by simp [h1, h2], rfl⟩
    · have e : decide (0 ≤ sent ∧ sent ≤ now ∧ now ≤ 1152921504606846976) = false := decide_eq_false fun x => h2 x.2.1
      rw [e]
      go_wp2
      go_ret
      exact ⟨rfl, rfl⟩
  · have e : decide (0 ≤ sent ∧ sent ≤ now ∧ now ≤ 1152921504606846976) = false := decide_eq_false fun x => h1 x.1
    rw [e]
    go_wp2
    go_ret
    exact ⟨rfl, rfl⟩
theorem stamped_any {w : World} {u : Value} {a : List Int} (hu : RdN w u a) :
    Calls Tryz.prog 36 #[u] w fun e w' => e = .returned (.bool (decide (a ≠ [] ∧ stampOk a))) ∧ w' = w := by
  have h1 : a.length ≤ 9223372036854775807 := hu.1
  obtain ⟨p, c, rfl⟩ := hu.len
  go_enter Tryz.func36, Tryz.ntmps36
  by_cases h : a = []
  · subst h
    clear hu
    go_wp2_with fail
    go_ret
    exact ⟨rfl, rfl⟩
  · have h' : 0 < a.length := List.length_pos_iff.2 h
    have e0 : decide (a ≠ [] ∧ stampOk a) = decide (stampOk a) := by simp [h]
    rw [e0]
    clear e0 h
    go_wp2_with fail
    refine (svalid_any hu).mono ?_
    rintro e w' ⟨rfl, rfl⟩
    go_wp2_with fail
    go_ret
    exact ⟨rfl, rfl⟩
theorem until_any {w : World} {ph : Nat} {rho : Int} (hc : w.cell? ⟨ph, 0, none⟩ = some (.int .i64 rho)) (sent t : Int) (ht : termOk t rho) (h1 : 0 ≤ sent) (h2 : sent ≤ 1152921504606846976) :
    Calls Tryz.prog 37 #[.pointer (some ⟨ph, 0, none⟩), .int .i64 sent, .int .i64 t] w fun e w' => e = .returned (.int .i64 (sent + shrinkI t rho)) ∧ w' = w := by
  have hs := shrinkI_bound ht
  obtain ⟨n, hn⟩ : ∃ n, shrinkI t rho = n := ⟨_, rfl⟩
  rw [hn] at hs ⊢
  have HN := hide hn
  clear hn
  go_enter Tryz.func37, Tryz.ntmps37
  go_wp2_with fail
  refine (shrink_ok ht _).mono ?_
  rintro e w' ⟨rfl, rfl⟩
  rw [HN.out]
  clear hc ht HN
  go_wp2_with fail
  go_ret
  exact ⟨rfl, rfl⟩
def dueI (s e : Int) : Int := if s < 0 ∨ e < s ∨ 4611686018427387904 < e then 0 else s + (e - s) / 2
set_option maxRecDepth 100000 in
theorem due_any (f i m t s e : Int) (p : ByteArray) (v : Value) (r : Bool) (w : World) :
    Calls Tryz.prog 16 #[.agg #[.int .i64 f, .int .i64 i, .string p, .int .i64 m, v, .int .i64 t, .int .i64 s, .int .i64 e, .bool r]] w fun en w' => en = .returned (.int .i64 (dueI s e)) ∧ Gr w w' := by
  have g := (Gr.refl w).alloc (.cells #[.int .i64 f, .int .i64 i, .string p, .int .i64 m, v, .int .i64 t, .int .i64 s, .int .i64 e, .bool r] 36)
  have G := hide g
  clear g
  by_cases h1 : s < 0
  · have e0 : dueI s e = 0 := by unfold dueI; rw [if_pos (.inl h1)]
    rw [e0]; clear e0
    go_enter Tryz.func16, Tryz.ntmps16
    go_wp2
    go_ret
    exact ⟨rfl, G.out⟩
  · by_cases h2 : e < s
    · have e0 : dueI s e = 0 := by unfold dueI; rw [if_pos (.inr (.inl h2))]
      rw [e0]; clear e0
      go_enter Tryz.func16, Tryz.ntmps16
      go_wp2
      go_ret
      exact ⟨rfl, G.out⟩
    · by_cases h3 : 4611686018427387904 < e
      · have e0 : dueI s e = 0 := by unfold dueI; rw [if_pos (.inr (.inr h3))]
        rw [e0]; clear e0
        go_enter Tryz.func16, Tryz.ntmps16
        go_wp2
        go_ret
        exact ⟨rfl, G.out⟩
      · have e0 : dueI s e = s + (e - s) / 2 := by unfold dueI; rw [if_neg (by omega)]
        rw [e0]; clear e0
        have h4 : 0 ≤ s := by omega
        have h5 : s ≤ e := by omega
        have h6 : e ≤ 4611686018427387904 := by omega
        clear h1 h2 h3
        go_enter Tryz.func16, Tryz.ntmps16
        go_wp2
        go_ret
        exact ⟨rfl, G.out⟩
def modeOk (m : Int) : Prop := m = 1 ∨ m = 2
instance (m : Int) : Decidable (modeOk m) := by unfold modeOk; exact inferInstance
theorem isMode_any (m : Int) (w : World) : Calls Tryz.prog 69 #[.int .i64 m] w fun e w' => e = .returned (.bool (decide (modeOk m))) ∧ w' = w := by
  go_enter Tryz.func69, Tryz.ntmps69
  by_cases h1 : m = 1
  · subst h1
    go_wp2
    go_ret
    exact ⟨rfl, rfl⟩
  · by_cases h2 : m = 2
    · subst h2
      go_wp2
      go_ret
      exact ⟨rfl, rfl⟩
    · have e0 : decide (modeOk m) = false := decide_eq_false fun h => h.elim h1 h2
      rw [e0]
      have b1 : (m == 1) = false := by simpa using h1
      have b2 : (m == 2) = false := by simpa using h2
      clear e0 h1 h2
      go_wp2
      go_ret
      exact ⟨rfl, rfl⟩
/-- may a lease stand behind a use? -/
def bearsB (x : Lease) (now : Int) (path : List UInt8) (mode : Int) : Bool :=
  !x.recd && decide (now < x.expiry) && decide (modeOk mode) && decide (stampOk x.stamp) && coversB x.path.data.toList path && (decide (x.mode = 2) || (decide (x.mode = 1) && decide (mode = 1)))
set_option maxHeartbeats 400000 in
set_option maxRecDepth 100000 in
theorem bears_any {w : World} {v : Value} {a : List Int} (hv : RdN w v a) (f i m t s e : Int) (p : ByteArray) (r : Bool) (hp : p.size ≤ 9223372036854775807) (now : Int) (q : ByteArray) (hq : q.size ≤ 9223372036854775807) (md : Int) :
    Calls Tryz.prog 42 #[.agg #[.int .i64 f, .int .i64 i, .string p, .int .i64 m, v, .int .i64 t, .int .i64 s, .int .i64 e, .bool r], .int .i64 now, .string q, .int .i64 md] w fun en w' => en = .returned (.bool (bearsB ⟨f, i, p, m, a, t, s, e, r⟩ now q.data.toList md)) ∧ Gr w w' := by
  have g := (Gr.refl w).alloc (.cells #[.int .i64 f, .int .i64 i, .string p, .int .i64 m, v, .int .i64 t, .int .i64 s, .int .i64 e, .bool r] 36)
  have hv2 := hv.gr g
  have G := hide g
  obtain ⟨b, hb⟩ : ∃ b, bearsB ⟨f, i, p, m, a, t, s, e, r⟩ now q.data.toList md = b := ⟨_, rfl⟩
  rw [hb]
  unfold bearsB at hb
  simp only at hb
  obtain ⟨pv, cv, rfl⟩ := hv.len
  clear g hv
  cases r
  · by_cases h1 : now < e
    · by_cases h2 : modeOk md
      · have d2 : decide (modeOk md) = true := decide_eq_true h2
        have d1 : decide (now < e) = true := decide_eq_true h1
        rw [d1, d2] at hb
        simp only [Bool.not_false, Bool.true_and] at hb
        have HB := hide hb
        have H2 := hide d2
        clear hb h2 d1 d2
        go_enter Tryz.func42, Tryz.ntmps42
        go_wp2_with fail
        refine (isMode_any _ _).mono ?_
        rintro en w' ⟨rfl, rfl⟩
        rw [H2.out]
        clear H2
        go_wp2_with fail
        refine (svalid_any hv2).mono ?_
        rintro en w' ⟨rfl, rfl⟩
        cases h3 : decide (stampOk a)
        · obtain rfl : false = b := by have := HB.out; rw [h3] at this; simpa using this
          clear h3 HB
          go_wp2_with fail
          go_ret
          exact ⟨rfl, G.out⟩
        · have hb := HB.out
          rw [h3, Bool.true_and] at hb
          have HB2 := hide hb
          clear h3 HB hb
          go_wp2_with fail
          refine (covers_any p q hp hq _).mono ?_
          rintro en w' ⟨rfl, rfl⟩
          cases h4 : coversB p.data.toList q.data.toList
          · obtain rfl : false = b := by have := HB2.out; rw [h4] at this; simpa using this
            clear h4 HB2
            go_wp2_with fail
            go_ret
            exact ⟨rfl, G.out⟩
          · have hb := HB2.out
            rw [h4, Bool.true_and] at hb
            clear h4 HB2
            by_cases m2 : m = 2
            · subst m2
              obtain rfl : true = b := by simpa using hb
              clear hb
              go_wp2_with fail
              go_ret
              exact ⟨rfl, G.out⟩
            · by_cases m1 : m = 1
              · subst m1
                by_cases k1 : md = 1
                · subst k1
                  obtain rfl : true = b := by simpa using hb
                  clear hb
                  go_wp2_with fail
                  go_ret
                  exact ⟨rfl, G.out⟩
                · obtain rfl : false = b := by simpa [k1] using hb
                  have b1 : (md == 1) = false := by simpa using k1
                  clear hb k1
                  go_wp2_with fail
                  go_ret
                  exact ⟨rfl, G.out⟩
              · obtain rfl : false = b := by simpa [m1, m2] using hb
                have b1 : (m == 1) = false := by simpa using m1
                have b2 : (m == 2) = false := by simpa using m2
                clear hb m1 m2
                go_wp2_with fail
                go_ret
                exact ⟨rfl, G.out⟩
      · have d2 : decide (modeOk md) = false := decide_eq_false h2
        obtain rfl : false = b := by rw [d2] at hb; simpa using hb
        have H2 := hide d2
        clear hb h2 d2
        go_enter Tryz.func42, Tryz.ntmps42
        go_wp2_with fail
        refine (isMode_any _ _).mono ?_
        rintro en w' ⟨rfl, rfl⟩
        rw [H2.out]
        clear H2
        go_wp2_with fail
        go_ret
        exact ⟨rfl, G.out⟩
    · obtain rfl : false = b := by simpa [h1] using hb
      clear hb
      go_enter Tryz.func42, Tryz.ntmps42
      go_wp2_with fail
      go_ret
      exact ⟨rfl, G.out⟩
  · obtain rfl : false = b := by simpa using hb
    clear hb
    go_enter Tryz.func42, Tryz.ntmps42
    go_wp2_with fail
    go_ret
    exact ⟨rfl, G.out⟩
end Go.Proofs.YtifllaeldcimgaaGreat
