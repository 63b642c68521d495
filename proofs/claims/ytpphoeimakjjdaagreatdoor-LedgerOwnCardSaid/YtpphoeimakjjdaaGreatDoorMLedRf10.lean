/-
  LedRf3 LedRf10: see the remarks below.
-/
import Derived.Test.YtpphoeimakjjdaaGreatDoorMLedRf2
import Derived.Test.YtpphoeimakjjdaaGreatDoorMGrA
import Derived.Test.YtpphoeimakjjdaaGreatDoorMWc
/-
  WALKS: the document's layer 11: counter, last, Grant. (Written by wip/gen_ledrf3.py.)
-/
namespace Go.Proofs.YtpphoeimakjjdaaGreatDoor
open Go.RowKit

theorem rcounter_any (n : Int) (w : World) : Calls Tryz.prog 131 #[.int .i64 n] w fun e w' => e = .returned (.bool (decide (countOk n))) ∧ w' = w := by
  by_cases h1 : 1 ≤ n
  · by_cases h2 : n ≤ 1099511627776
    · have e : decide (countOk n) = true := decide_eq_true ⟨h1, h2⟩
      rw [e]
      go_enter Tryz.func131, Tryz.ntmps131
      go_wp2_with fail
      go_ret
      exact ⟨rfl, rfl⟩
    · have e : decide (countOk n) = false := decide_eq_false (fun h => h2 h.2)
      rw [e]
      go_enter Tryz.func131, Tryz.ntmps131
      go_wp2_with fail
      go_ret
      exact ⟨rfl, rfl⟩
  · have e : decide (countOk n) = false := decide_eq_false (fun h => h1 h.1)
    rw [e]
    go_enter Tryz.func131, Tryz.ntmps131
    go_wp2_with fail
    go_ret
    exact ⟨rfl, rfl⟩
theorem rlast_any {w : World} {u : Value} {a : List Int} (hu : RdN w u a) : Calls Tryz.prog 90 #[u] w fun e w' => e = .returned (.int .i64 (lastI a)) ∧ w' = w := by
  have h1 : a.length ≤ 9223372036854775807 := hu.1
  obtain ⟨p, c, rfl⟩ := hu.len
  by_cases h0 : a.length = 0
  · have e : lastI a = 0 := by rw [List.length_eq_zero_iff.1 h0]; rfl
    rw [e, h0]
    clear hu
    go_enter Tryz.func90, Tryz.ntmps90
    go_wp2_with fail
    go_ret
    exact ⟨rfl, rfl⟩
  · obtain ⟨m, hm⟩ : ∃ m, a.length = m + 1 := ⟨a.length - 1, by omega⟩
    obtain ⟨b, o, rfl, hb, hc⟩ := hu.at_ m (by omega)
    have hl : a.getD m 0 = lastI a := by unfold lastI; rw [hm]; rfl
    rw [hl] at hc
    rw [hm] at h1 ⊢
    generalize lastI a = x at hc ⊢
    have i0 : ((m + 1 : Nat) : Int) = (m : Int) + 1 := by omega
    have i1 : IntKind.i64.wrap ((m : Int) + 1 - 1) = (m : Int) := by rw [IntKind.wrap_i64]; omega
    have i2 : IntKind.i64.wrap (m : Int) = (m : Int) := by rw [IntKind.wrap_i64]; omega
    have i3 : (((m : Int) + 1) == 0) = false := by simp; omega
    have i4 : (m : Int) < (m : Int) + 1 := by omega
    have i5 : (0 : Int) ≤ (m : Int) := by omega
    clear hu hl hm h0
    go_enter Tryz.func90, Tryz.ntmps90
    go_wp2_with fail
    go_ret
    exact ⟨rfl, rfl⟩
set_option maxHeartbeats 4000000 in
set_option maxRecDepth 100000 in
set_option linter.unusedSimpArgs false in
theorem rgrant_any {w : World} {g : Grt} {sv : Value} (hs : RdN w sv g.stamp) (hp : g.path.size ≤ 9223372036854775806) :
    Calls Tryz.prog 129 #[aggG g sv] w fun e w' => e = .returned (.bool (grantB g)) ∧ Mod [] w w' := by
  obtain ⟨id, ho, pa, mo, st, te⟩ := g
  simp only at hs hp
  obtain ⟨G, hG⟩ : ∃ G, grantB ⟨id, ho, pa, mo, st, te⟩ = G := ⟨_, rfl⟩
  rw [hG]
  unfold grantB stmB at hG
  simp only at hG
  obtain ⟨W1, hW1⟩ : ∃ W1, W1 = w.alloc (.cells #[.int .i64 id, .int .i64 ho, .string pa, .int .i64 mo, sv, .int .i64 te] 40 (0, 0)) := ⟨_, rfl⟩
  have hb1 : W1.heap[w.heap.size]? = some (.cells #[.int .i64 id, .int .i64 ho, .string pa, .int .i64 mo, sv, .int .i64 te] 40 (0, 0)) := by rw [hW1]; exact heap_alloc_new w _
  have hm1 : Mod [] w W1 := by rw [hW1]; exact (Mod.refl _ _).alloc _
  have k2 := rpvalid_any pa hp W1
  have k3 := fun {W : World} (g : Mod [] W1 W) => rsvalid_any (hs.mod (hm1.then g) (by simp))
  have k4 := fun {W : World} (g : Mod [] W1 W) => rlast_any (hs.mod (hm1.then g) (by simp))
  have k1 := fun (W : World) => rcounter_any id W
  have k6 := fun (W : World) => rmode_any mo W
  have k5 := fun (W : World) => rlegal_any te W
  have hlen : st.length ≤ 9223372036854775807 := hs.1
  obtain ⟨q, c, rfl⟩ := hs.len
  obtain ⟨n, hn⟩ : ∃ n, st.length = n := ⟨_, rfl⟩
  rw [hn] at k3 k4 hG hlen hb1 hW1 ⊢
  have e4 : decide (mo = 1 ∨ mo = 2) = decide (modeOk mo) := rfl
  have e5 : decide (legalT te) = decide (4 ≤ te ∧ te ≤ 1048576) := rfl
  rw [e4, e5] at hG
  generalize decide (countOk id) = b1 at k1 hG
  generalize pathOk pa.data.toList = b2 at k2 hG
  generalize decide (stampOk st) = b3 at k3 hG
  generalize lastI st = n4 at k4 hG
  generalize decide (modeOk mo) = b6 at k6 hG
  generalize decide (4 ≤ te ∧ te ≤ 1048576) = b5 at k5 hG
  have HB := hide (And.intro hb1 hm1)
  have C1 := blk_cell hb1
  have HG := hide hG
  clear hs hp hb1 hm1 hG hn
  unfold aggG cellsG
  simp only
  cases b1 with
  | false =>
    cases b2
    all_goals
      cases b3
      all_goals
        by_cases h7 : (0 : Int) < (n : Int)
        · have h7d : decide ((0 : Int) < (n : Int)) = true := decide_eq_true h7
          go_enter Tryz.func129, Tryz.ntmps129
          go_upto_region 1 with fail
          rw [← hW1]
          clear hW1
          go_upto_region 3 with (first
            | (go_at_call 161; refine k2.mono ?_; rintro e w2 ⟨rfl, m2⟩; have C2 := blk_cell (m2.at_ HB.out.1 (by simp)); have H2 := hide m2; clear m2)
            | (go_at_call 132; refine (k3 H2.out).mono ?_; rintro e w3 ⟨rfl, hx⟩; rw [hx]; clear hx)
            | fail)
          clear C1 k2 k3
          have k4' := fun (j : Nat) => k4 (H2.out.drewN j)
          go_quiet ((first
            | (go_at_call 131; exact Calls.quiet_of_same (k1 _))
            | (go_at_call 162; exact Calls.quiet_of_same (k6 _))
            | (go_at_call 90; exact Calls.quiet_of_same (k4' _))
            | (go_at_call 128; exact Calls.quiet_of_same (k5 _))))
          go_wp2_with fail
          go_ret
          exact ⟨by rw [← HG.out]; first | (simp []; done) | (simp []; omega) | (simp; omega), (HB.out.2.then H2.out).drewN _⟩
        · have h7d : decide ((0 : Int) < (n : Int)) = false := decide_eq_false h7
          go_enter Tryz.func129, Tryz.ntmps129
          go_upto_region 1 with fail
          rw [← hW1]
          clear hW1
          go_upto_region 3 with (first
            | (go_at_call 161; refine k2.mono ?_; rintro e w2 ⟨rfl, m2⟩; have C2 := blk_cell (m2.at_ HB.out.1 (by simp)); have H2 := hide m2; clear m2)
            | (go_at_call 132; refine (k3 H2.out).mono ?_; rintro e w3 ⟨rfl, hx⟩; rw [hx]; clear hx)
            | fail)
          clear C1 k2 k3
          have k4' := fun (j : Nat) => k4 (H2.out.drewN j)
          go_quiet ((first
            | (go_at_call 131; exact Calls.quiet_of_same (k1 _))
            | (go_at_call 162; exact Calls.quiet_of_same (k6 _))
            | (go_at_call 90; exact Calls.quiet_of_same (k4' _))
            | (go_at_call 128; exact Calls.quiet_of_same (k5 _))))
          go_wp2_with fail
          go_ret
          exact ⟨by rw [← HG.out]; first | (simp []; done) | (simp []; omega) | (simp; omega), (HB.out.2.then H2.out).drewN _⟩
  | true =>
    by_cases h2 : 0 ≤ ho
    · have h2d : decide (0 ≤ ho) = true := decide_eq_true h2
      by_cases h3 : ho < 8
      · have h3d : decide (ho < 8) = true := decide_eq_true h3
        cases b2 with
        | false =>
          cases b3
          all_goals
            by_cases h7 : (0 : Int) < (n : Int)
            · have h7d : decide ((0 : Int) < (n : Int)) = true := decide_eq_true h7
              go_enter Tryz.func129, Tryz.ntmps129
              go_upto_region 1 with fail
              rw [← hW1]
              clear hW1
              go_upto_region 3 with (first
                | (go_at_call 161; refine k2.mono ?_; rintro e w2 ⟨rfl, m2⟩; have C2 := blk_cell (m2.at_ HB.out.1 (by simp)); have H2 := hide m2; clear m2)
                | (go_at_call 132; refine (k3 H2.out).mono ?_; rintro e w3 ⟨rfl, hx⟩; rw [hx]; clear hx)
                | fail)
              clear C1 k2 k3
              have k4' := fun (j : Nat) => k4 (H2.out.drewN j)
              go_quiet ((first
                | (go_at_call 131; exact Calls.quiet_of_same (k1 _))
                | (go_at_call 162; exact Calls.quiet_of_same (k6 _))
                | (go_at_call 90; exact Calls.quiet_of_same (k4' _))
                | (go_at_call 128; exact Calls.quiet_of_same (k5 _))))
              go_wp2_with fail
              go_ret
              exact ⟨by rw [← HG.out]; first | (simp [h2, h3]; done) | (simp [h2, h3]; omega) | (simp; omega), (HB.out.2.then H2.out).drewN _⟩
            · have h7d : decide ((0 : Int) < (n : Int)) = false := decide_eq_false h7
              go_enter Tryz.func129, Tryz.ntmps129
              go_upto_region 1 with fail
              rw [← hW1]
              clear hW1
              go_upto_region 3 with (first
                | (go_at_call 161; refine k2.mono ?_; rintro e w2 ⟨rfl, m2⟩; have C2 := blk_cell (m2.at_ HB.out.1 (by simp)); have H2 := hide m2; clear m2)
                | (go_at_call 132; refine (k3 H2.out).mono ?_; rintro e w3 ⟨rfl, hx⟩; rw [hx]; clear hx)
                | fail)
              clear C1 k2 k3
              have k4' := fun (j : Nat) => k4 (H2.out.drewN j)
              go_quiet ((first
                | (go_at_call 131; exact Calls.quiet_of_same (k1 _))
                | (go_at_call 162; exact Calls.quiet_of_same (k6 _))
                | (go_at_call 90; exact Calls.quiet_of_same (k4' _))
                | (go_at_call 128; exact Calls.quiet_of_same (k5 _))))
              go_wp2_with fail
              go_ret
              exact ⟨by rw [← HG.out]; first | (simp [h2, h3]; done) | (simp [h2, h3]; omega) | (simp; omega), (HB.out.2.then H2.out).drewN _⟩
        | true =>
          cases b6 with
          | false =>
            cases b3
            all_goals
              by_cases h7 : (0 : Int) < (n : Int)
              · have h7d : decide ((0 : Int) < (n : Int)) = true := decide_eq_true h7
                go_enter Tryz.func129, Tryz.ntmps129
                go_upto_region 1 with fail
                rw [← hW1]
                clear hW1
                go_upto_region 3 with (first
                  | (go_at_call 161; refine k2.mono ?_; rintro e w2 ⟨rfl, m2⟩; have C2 := blk_cell (m2.at_ HB.out.1 (by simp)); have H2 := hide m2; clear m2)
                  | (go_at_call 132; refine (k3 H2.out).mono ?_; rintro e w3 ⟨rfl, hx⟩; rw [hx]; clear hx)
                  | fail)
                clear C1 k2 k3
                have k4' := fun (j : Nat) => k4 (H2.out.drewN j)
                go_quiet ((first
                  | (go_at_call 131; exact Calls.quiet_of_same (k1 _))
                  | (go_at_call 162; exact Calls.quiet_of_same (k6 _))
                  | (go_at_call 90; exact Calls.quiet_of_same (k4' _))
                  | (go_at_call 128; exact Calls.quiet_of_same (k5 _))))
                go_wp2_with fail
                go_ret
                exact ⟨by rw [← HG.out]; first | (simp [h2, h3]; done) | (simp [h2, h3]; omega) | (simp; omega), (HB.out.2.then H2.out).drewN _⟩
              · have h7d : decide ((0 : Int) < (n : Int)) = false := decide_eq_false h7
                go_enter Tryz.func129, Tryz.ntmps129
                go_upto_region 1 with fail
                rw [← hW1]
                clear hW1
                go_upto_region 3 with (first
                  | (go_at_call 161; refine k2.mono ?_; rintro e w2 ⟨rfl, m2⟩; have C2 := blk_cell (m2.at_ HB.out.1 (by simp)); have H2 := hide m2; clear m2)
                  | (go_at_call 132; refine (k3 H2.out).mono ?_; rintro e w3 ⟨rfl, hx⟩; rw [hx]; clear hx)
                  | fail)
                clear C1 k2 k3
                have k4' := fun (j : Nat) => k4 (H2.out.drewN j)
                go_quiet ((first
                  | (go_at_call 131; exact Calls.quiet_of_same (k1 _))
                  | (go_at_call 162; exact Calls.quiet_of_same (k6 _))
                  | (go_at_call 90; exact Calls.quiet_of_same (k4' _))
                  | (go_at_call 128; exact Calls.quiet_of_same (k5 _))))
                go_wp2_with fail
                go_ret
                exact ⟨by rw [← HG.out]; first | (simp [h2, h3]; done) | (simp [h2, h3]; omega) | (simp; omega), (HB.out.2.then H2.out).drewN _⟩
          | true =>
            cases b3 with
            | false =>
              by_cases h7 : (0 : Int) < (n : Int)
              · have h7d : decide ((0 : Int) < (n : Int)) = true := decide_eq_true h7
                go_enter Tryz.func129, Tryz.ntmps129
                go_upto_region 1 with fail
                rw [← hW1]
                clear hW1
                go_upto_region 3 with (first
                  | (go_at_call 161; refine k2.mono ?_; rintro e w2 ⟨rfl, m2⟩; have C2 := blk_cell (m2.at_ HB.out.1 (by simp)); have H2 := hide m2; clear m2)
                  | (go_at_call 132; refine (k3 H2.out).mono ?_; rintro e w3 ⟨rfl, hx⟩; rw [hx]; clear hx)
                  | fail)
                clear C1 k2 k3
                have k4' := fun (j : Nat) => k4 (H2.out.drewN j)
                go_quiet ((first
                  | (go_at_call 131; exact Calls.quiet_of_same (k1 _))
                  | (go_at_call 162; exact Calls.quiet_of_same (k6 _))
                  | (go_at_call 90; exact Calls.quiet_of_same (k4' _))
                  | (go_at_call 128; exact Calls.quiet_of_same (k5 _))))
                go_wp2_with fail
                go_ret
                exact ⟨by rw [← HG.out]; first | (simp [h2, h3]; done) | (simp [h2, h3]; omega) | (simp; omega), (HB.out.2.then H2.out).drewN _⟩
              · have h7d : decide ((0 : Int) < (n : Int)) = false := decide_eq_false h7
                go_enter Tryz.func129, Tryz.ntmps129
                go_upto_region 1 with fail
                rw [← hW1]
                clear hW1
                go_upto_region 3 with (first
                  | (go_at_call 161; refine k2.mono ?_; rintro e w2 ⟨rfl, m2⟩; have C2 := blk_cell (m2.at_ HB.out.1 (by simp)); have H2 := hide m2; clear m2)
                  | (go_at_call 132; refine (k3 H2.out).mono ?_; rintro e w3 ⟨rfl, hx⟩; rw [hx]; clear hx)
                  | fail)
                clear C1 k2 k3
                have k4' := fun (j : Nat) => k4 (H2.out.drewN j)
                go_quiet ((first
                  | (go_at_call 131; exact Calls.quiet_of_same (k1 _))
                  | (go_at_call 162; exact Calls.quiet_of_same (k6 _))
                  | (go_at_call 90; exact Calls.quiet_of_same (k4' _))
                  | (go_at_call 128; exact Calls.quiet_of_same (k5 _))))
                go_wp2_with fail
                go_ret
                exact ⟨by rw [← HG.out]; first | (simp [h2, h3]; done) | (simp [h2, h3]; omega) | (simp; omega), (HB.out.2.then H2.out).drewN _⟩
            | true =>
              by_cases h7 : (0 : Int) < (n : Int)
              · have h7d : decide ((0 : Int) < (n : Int)) = true := decide_eq_true h7
                have h7n : 0 < n := by omega
                by_cases h8 : id ≤ n4
                · have h8d : decide (id ≤ n4) = true := decide_eq_true h8
                  cases b5 with
                  | false =>
                    go_enter Tryz.func129, Tryz.ntmps129
                    go_upto_region 1 with fail
                    rw [← hW1]
                    clear hW1
                    go_upto_region 3 with (first
                      | (go_at_call 161; refine k2.mono ?_; rintro e w2 ⟨rfl, m2⟩; have C2 := blk_cell (m2.at_ HB.out.1 (by simp)); have H2 := hide m2; clear m2)
                      | (go_at_call 132; refine (k3 H2.out).mono ?_; rintro e w3 ⟨rfl, hx⟩; rw [hx]; clear hx)
                      | fail)
                    clear C1 k2 k3
                    have k4' := fun (j : Nat) => k4 (H2.out.drewN j)
                    go_quiet ((first
                      | (go_at_call 131; exact Calls.quiet_of_same (k1 _))
                      | (go_at_call 162; exact Calls.quiet_of_same (k6 _))
                      | (go_at_call 90; exact Calls.quiet_of_same (k4' _))
                      | (go_at_call 128; exact Calls.quiet_of_same (k5 _))))
                    go_wp2_with fail
                    go_ret
                    exact ⟨by rw [← HG.out]; first | (simp [h2, h3, h7n, h8]; done) | (simp [h2, h3, h7n, h8]; omega) | (simp; omega), (HB.out.2.then H2.out).drewN _⟩
                  | true =>
                    go_enter Tryz.func129, Tryz.ntmps129
                    go_upto_region 1 with fail
                    rw [← hW1]
                    clear hW1
                    go_upto_region 3 with (first
                      | (go_at_call 161; refine k2.mono ?_; rintro e w2 ⟨rfl, m2⟩; have C2 := blk_cell (m2.at_ HB.out.1 (by simp)); have H2 := hide m2; clear m2)
                      | (go_at_call 132; refine (k3 H2.out).mono ?_; rintro e w3 ⟨rfl, hx⟩; rw [hx]; clear hx)
                      | fail)
                    clear C1 k2 k3
                    have k4' := fun (j : Nat) => k4 (H2.out.drewN j)
                    go_quiet ((first
                      | (go_at_call 131; exact Calls.quiet_of_same (k1 _))
                      | (go_at_call 162; exact Calls.quiet_of_same (k6 _))
                      | (go_at_call 90; exact Calls.quiet_of_same (k4' _))
                      | (go_at_call 128; exact Calls.quiet_of_same (k5 _))))
                    go_wp2_with fail
                    go_ret
                    exact ⟨by rw [← HG.out]; first | (simp [h2, h3, h7n, h8]; done) | (simp [h2, h3, h7n, h8]; omega) | (simp; omega), (HB.out.2.then H2.out).drewN _⟩
                · have h8d : decide (id ≤ n4) = false := decide_eq_false h8
                  go_enter Tryz.func129, Tryz.ntmps129
                  go_upto_region 1 with fail
                  rw [← hW1]
                  clear hW1
                  go_upto_region 3 with (first
                    | (go_at_call 161; refine k2.mono ?_; rintro e w2 ⟨rfl, m2⟩; have C2 := blk_cell (m2.at_ HB.out.1 (by simp)); have H2 := hide m2; clear m2)
                    | (go_at_call 132; refine (k3 H2.out).mono ?_; rintro e w3 ⟨rfl, hx⟩; rw [hx]; clear hx)
                    | fail)
                  clear C1 k2 k3
                  have k4' := fun (j : Nat) => k4 (H2.out.drewN j)
                  go_quiet ((first
                    | (go_at_call 131; exact Calls.quiet_of_same (k1 _))
                    | (go_at_call 162; exact Calls.quiet_of_same (k6 _))
                    | (go_at_call 90; exact Calls.quiet_of_same (k4' _))
                    | (go_at_call 128; exact Calls.quiet_of_same (k5 _))))
                  go_wp2_with fail
                  go_ret
                  exact ⟨by rw [← HG.out]; first | (simp [h2, h3, h7n, h8]; done) | (simp [h2, h3, h7n, h8]; omega) | (simp; omega), (HB.out.2.then H2.out).drewN _⟩
              · have h7d : decide ((0 : Int) < (n : Int)) = false := decide_eq_false h7
                have h7n : ¬ 0 < n := by omega
                go_enter Tryz.func129, Tryz.ntmps129
                go_upto_region 1 with fail
                rw [← hW1]
                clear hW1
                go_upto_region 3 with (first
                  | (go_at_call 161; refine k2.mono ?_; rintro e w2 ⟨rfl, m2⟩; have C2 := blk_cell (m2.at_ HB.out.1 (by simp)); have H2 := hide m2; clear m2)
                  | (go_at_call 132; refine (k3 H2.out).mono ?_; rintro e w3 ⟨rfl, hx⟩; rw [hx]; clear hx)
                  | fail)
                clear C1 k2 k3
                have k4' := fun (j : Nat) => k4 (H2.out.drewN j)
                go_quiet ((first
                  | (go_at_call 131; exact Calls.quiet_of_same (k1 _))
                  | (go_at_call 162; exact Calls.quiet_of_same (k6 _))
                  | (go_at_call 90; exact Calls.quiet_of_same (k4' _))
                  | (go_at_call 128; exact Calls.quiet_of_same (k5 _))))
                go_wp2_with fail
                go_ret
                exact ⟨by rw [← HG.out]; first | (simp [h2, h3, h7n]; done) | (simp [h2, h3, h7n]; omega) | (simp; omega), (HB.out.2.then H2.out).drewN _⟩
      · have h3d : decide (ho < 8) = false := decide_eq_false h3
        cases b2
        all_goals
          cases b3
          all_goals
            by_cases h7 : (0 : Int) < (n : Int)
            · have h7d : decide ((0 : Int) < (n : Int)) = true := decide_eq_true h7
              go_enter Tryz.func129, Tryz.ntmps129
              go_upto_region 1 with fail
              rw [← hW1]
              clear hW1
              go_upto_region 3 with (first
                | (go_at_call 161; refine k2.mono ?_; rintro e w2 ⟨rfl, m2⟩; have C2 := blk_cell (m2.at_ HB.out.1 (by simp)); have H2 := hide m2; clear m2)
                | (go_at_call 132; refine (k3 H2.out).mono ?_; rintro e w3 ⟨rfl, hx⟩; rw [hx]; clear hx)
                | fail)
              clear C1 k2 k3
              have k4' := fun (j : Nat) => k4 (H2.out.drewN j)
              go_quiet ((first
                | (go_at_call 131; exact Calls.quiet_of_same (k1 _))
                | (go_at_call 162; exact Calls.quiet_of_same (k6 _))
                | (go_at_call 90; exact Calls.quiet_of_same (k4' _))
                | (go_at_call 128; exact Calls.quiet_of_same (k5 _))))
              go_wp2_with fail
              go_ret
              exact ⟨by rw [← HG.out]; first | (simp [h2, h3]; done) | (simp [h2, h3]; omega) | (simp; omega), (HB.out.2.then H2.out).drewN _⟩
            · have h7d : decide ((0 : Int) < (n : Int)) = false := decide_eq_false h7
              go_enter Tryz.func129, Tryz.ntmps129
              go_upto_region 1 with fail
              rw [← hW1]
              clear hW1
              go_upto_region 3 with (first
                | (go_at_call 161; refine k2.mono ?_; rintro e w2 ⟨rfl, m2⟩; have C2 := blk_cell (m2.at_ HB.out.1 (by simp)); have H2 := hide m2; clear m2)
                | (go_at_call 132; refine (k3 H2.out).mono ?_; rintro e w3 ⟨rfl, hx⟩; rw [hx]; clear hx)
                | fail)
              clear C1 k2 k3
              have k4' := fun (j : Nat) => k4 (H2.out.drewN j)
              go_quiet ((first
                | (go_at_call 131; exact Calls.quiet_of_same (k1 _))
                | (go_at_call 162; exact Calls.quiet_of_same (k6 _))
                | (go_at_call 90; exact Calls.quiet_of_same (k4' _))
                | (go_at_call 128; exact Calls.quiet_of_same (k5 _))))
              go_wp2_with fail
              go_ret
              exact ⟨by rw [← HG.out]; first | (simp [h2, h3]; done) | (simp [h2, h3]; omega) | (simp; omega), (HB.out.2.then H2.out).drewN _⟩
    · have h2d : decide (0 ≤ ho) = false := decide_eq_false h2
      cases b2
      all_goals
        cases b3
        all_goals
          by_cases h7 : (0 : Int) < (n : Int)
          · have h7d : decide ((0 : Int) < (n : Int)) = true := decide_eq_true h7
            go_enter Tryz.func129, Tryz.ntmps129
            go_upto_region 1 with fail
            rw [← hW1]
            clear hW1
            go_upto_region 3 with (first
              | (go_at_call 161; refine k2.mono ?_; rintro e w2 ⟨rfl, m2⟩; have C2 := blk_cell (m2.at_ HB.out.1 (by simp)); have H2 := hide m2; clear m2)
              | (go_at_call 132; refine (k3 H2.out).mono ?_; rintro e w3 ⟨rfl, hx⟩; rw [hx]; clear hx)
              | fail)
            clear C1 k2 k3
            have k4' := fun (j : Nat) => k4 (H2.out.drewN j)
            go_quiet ((first
              | (go_at_call 131; exact Calls.quiet_of_same (k1 _))
              | (go_at_call 162; exact Calls.quiet_of_same (k6 _))
              | (go_at_call 90; exact Calls.quiet_of_same (k4' _))
              | (go_at_call 128; exact Calls.quiet_of_same (k5 _))))
            go_wp2_with fail
            go_ret
            exact ⟨by rw [← HG.out]; first | (simp [h2]; done) | (simp [h2]; omega) | (simp; omega), (HB.out.2.then H2.out).drewN _⟩
          · have h7d : decide ((0 : Int) < (n : Int)) = false := decide_eq_false h7
            go_enter Tryz.func129, Tryz.ntmps129
            go_upto_region 1 with fail
            rw [← hW1]
            clear hW1
            go_upto_region 3 with (first
              | (go_at_call 161; refine k2.mono ?_; rintro e w2 ⟨rfl, m2⟩; have C2 := blk_cell (m2.at_ HB.out.1 (by simp)); have H2 := hide m2; clear m2)
              | (go_at_call 132; refine (k3 H2.out).mono ?_; rintro e w3 ⟨rfl, hx⟩; rw [hx]; clear hx)
              | fail)
            clear C1 k2 k3
            have k4' := fun (j : Nat) => k4 (H2.out.drewN j)
            go_quiet ((first
              | (go_at_call 131; exact Calls.quiet_of_same (k1 _))
              | (go_at_call 162; exact Calls.quiet_of_same (k6 _))
              | (go_at_call 90; exact Calls.quiet_of_same (k4' _))
              | (go_at_call 128; exact Calls.quiet_of_same (k5 _))))
            go_wp2_with fail
            go_ret
            exact ⟨by rw [← HG.out]; first | (simp [h2]; done) | (simp [h2]; omega) | (simp; omega), (HB.out.2.then H2.out).drewN _⟩
end Go.Proofs.YtpphoeimakjjdaaGreatDoor
/-
  WALKS: the document's layer 11: may it be a book?
-/
namespace Go.Proofs.YtpphoeimakjjdaaGreatDoor
open Go.RowKit

theorem okFrom_nextR {next : Int} {l : List Grt} {k : Nat} (hk : okFrom next 0 (l.take k) = true) (hlt : k < l.length) (hg : grantB (l.getD k default) = true) (hn : lastI (l.getD k default).stamp < next)
    (hp : 0 < k → (l.getD (k - 1) default).id < (l.getD k default).id) : okFrom next 0 (l.take (k + 1)) = true := by
  have h0 : 0 < (l.getD k default).id := by have := (grant_iff.1 hg).1.1; omega
  refine okFrom_take hk hlt ⟨hg, hn, fun x hx => ?_, h0⟩
  cases k with
  | zero => simp at hx
  | succ j =>
    have hj := hp (by omega)
    rw [Nat.add_sub_cancel] at hj
    have e : l.take (j + 1) = l.take j ++ [l.getD j default] := by rw [List.take_add_one]; simp [show j < l.length by omega]
    have hs := okFrom_sorted hk
    rw [e] at hs hx
    rcases List.mem_append.1 hx with hx | hx
    · have := (List.pairwise_append.1 hs).2.2 x hx _ (List.mem_singleton.2 rfl)
      omega
    · obtain rfl := List.mem_singleton.1 hx
      exact hj
theorem okFrom_stop {next : Int} {l : List Grt} {k : Nat} (hlt : k < l.length)
    (hn : grantB (l.getD k default) = false ∨ next ≤ lastI (l.getD k default).stamp ∨ (0 < k ∧ (l.getD k default).id ≤ (l.getD (k - 1) default).id)) : okFrom next 0 l = false := by
  cases k with
  | zero => exact okFrom_bad (idp := 0) hlt (.inl rfl) (hn.imp id (Or.imp id (fun h => absurd h.1 (by omega))))
  | succ j =>
    refine okFrom_bad (idp := (l.getD j default).id) hlt (.inr ⟨l.getD j default, ?_, rfl⟩) (hn.imp id (Or.imp id (·.2)))
    have hj : j < l.length := by omega
    rw [show l.getD j default = l[j] by simp [hj]]
    exact List.mem_iff_getElem.2 ⟨j, by simp; omega, by simp⟩
def RvRel (W0 : World) (nx : Int) (gs : List Grt) (i : Value) (wr : World) : Prop :=
  ∃ k : Nat, i = .int .i64 (k : Int) ∧ k ≤ gs.length ∧ okFrom nx 0 (gs.take k) = true ∧ Mod [] W0 wr
set_option maxHeartbeats 4000000 in
set_option maxRecDepth 100000 in
theorem rvalid_any {w : World} {base : Nat} {gv : Value} {b : Bk} {lv : List (Grt × Value)} (h : BkM w base gv b lv) (hps : ∀ p, p ∈ lv → p.1.path.size ≤ 9223372036854775806) :
    Calls Tryz.prog 88 #[aggB b gv] w fun e w' => e = .returned (.bool (validB b)) ∧ Mod [] w w' := by
  obtain ⟨nx, bo, lo, gs⟩ := b
  have heq : gs = lv.map Prod.fst := h.eq
  obtain ⟨q, c, rfl, hmx⟩ := h.gr.shape
  have hmx' : lv.length ≤ 9223372036854775807 := hmx
  have kl := fun (W : World) => rlegal_any lo W
  obtain ⟨V, hV⟩ : ∃ V, validB ⟨nx, bo, lo, gs⟩ = V := ⟨_, rfl⟩
  rw [hV]
  unfold validB headsB at hV
  simp only at hV
  have hlen : gs.length = lv.length := by rw [heq]; simp
  rw [hlen] at hV
  unfold aggB
  simp only
  obtain ⟨W0, hW0⟩ : ∃ W0, W0 = w.alloc (.cells #[.int .i64 nx, .int .i64 bo, .int .i64 lo, .slice q lv.length c] 34 (0, 0)) := ⟨_, rfl⟩
  have hb0 : W0.heap[w.heap.size]? = some (.cells #[.int .i64 nx, .int .i64 bo, .int .i64 lo, .slice q lv.length c] 34 (0, 0)) := by rw [hW0]; exact heap_alloc_new w _
  have hgr : Gr w W0 := by rw [hW0]; exact (Gr.refl w).alloc _
  have B0 := blk_cell hb0
  have HB := hide (And.intro hb0 hgr)
  have HH := hide (And.intro h (And.intro hps (And.intro heq hlen)))
  clear h hps heq hb0 hgr hlen
  go_enter Tryz.func88, Tryz.ntmps88
  go_upto_region 1 with fail
  rw [← hW0]
  clear hW0
  have hcase : nx < 1 ∨ (¬ nx < 1 ∧ 1099511627777 < nx) ∨ (¬ nx < 1 ∧ ¬ 1099511627777 < nx ∧ bo < 0) ∨ (¬ nx < 1 ∧ ¬ 1099511627777 < nx ∧ ¬ bo < 0 ∧ 1099511627776 < bo) ∨ (¬ nx < 1 ∧ ¬ 1099511627777 < nx ∧ ¬ bo < 0 ∧ ¬ 1099511627776 < bo ∧ 6 < (lv.length : Int)) ∨ (¬ nx < 1 ∧ ¬ 1099511627777 < nx ∧ ¬ bo < 0 ∧ ¬ 1099511627776 < bo ∧ ¬ 6 < (lv.length : Int)) := by omega
  rcases hcase with h1 | ⟨h1, h2⟩ | ⟨h1, h2, h3⟩ | ⟨h1, h2, h3, h4⟩ | ⟨h1, h2, h3, h4, h5⟩ | ⟨h1, h2, h3, h4, h5⟩
  rotate_left 5
  · have hV2 : (decide (lo = 0 ∨ legalT lo) && okFrom nx 0 gs) = V := by
      rw [← hV, show decide (1 ≤ nx ∧ nx ≤ 1099511627777 ∧ 0 ≤ bo ∧ bo ≤ 1099511627776) = true from decide_eq_true (by omega), show decide (lv.length ≤ 6) = true from decide_eq_true (by omega)]
      simp
    clear hV
    go_upto_region 3 with fail
    clear h1 h2 h3 h4 h5
    go_cut [37] (fun s wx => s = .bool (decide (lo ≠ 0 ∧ ¬ legalT lo)) ∧ wx = W0)
    case first =>
      by_cases hlo : lo = 0
      · subst hlo
        go_wp2_with fail
        go_meet
        case rel => exact ⟨by simp, rfl⟩
      · have hlb : (lo == 0) = false := by simpa using hlo
        have hlo' := hide hlo
        clear hlo
        go_wp2_with (first
          | (go_at_call 128; refine (kl _).mono ?_; rintro e w1 ⟨rfl, hx⟩; rw [hx]; clear hx)
          | fail)
        go_meet
        case rel => exact ⟨by have := hlo'.out; simp [this, legalT]; rw [Bool.eq_iff_iff]; simp; omega, rfl⟩
    case rest =>
    obtain ⟨rfl, rfl⟩ := hcut
    by_cases hlo : lo ≠ 0 ∧ ¬ legalT lo
    · have hd : decide (lo ≠ 0 ∧ ¬ legalT lo) = true := decide_eq_true hlo
      rw [hd]
      rw [show decide (lo = 0 ∨ legalT lo) = false from decide_eq_false (fun e => by rcases e with e | e; exact hlo.1 e; exact hlo.2 e)] at hV2
      have HV := hide hV2
      clear hd hV2 hlo
      go_wp2_with fail
      go_ret
      exact ⟨by rw [← HV.out]; rfl, HB.out.2.mod []⟩
    · have hd : decide (lo ≠ 0 ∧ ¬ legalT lo) = false := decide_eq_false hlo
      rw [hd]
      rw [show decide (lo = 0 ∨ legalT lo) = true from decide_eq_true (by by_cases e : lo = 0; exact .inl e; exact .inr (by by_cases e2 : legalT lo; exact e2; exact absurd ⟨e, e2⟩ hlo)), Bool.true_and] at hV2
      have HV := hide hV2
      clear hd hV2 hlo kl
      go_wp2_with fail
      go_loopw [3] (fun i wr => RvRel wc nx gs i wr) (fun i _ => lv.length - (intOf i).toNat)
      case atStart => exact ⟨0, rfl, Nat.zero_le _, rfl, Mod.refl _ _⟩
      case round =>
        obtain ⟨k, rfl, hk, hok, hm⟩ := hrel
        have hgl := HH.out.2.2.2
        by_cases hlt : k < lv.length
        · skip
          have hki : (k : Int) < (lv.length : Int) := by omega
          have hk0 : (0 : Int) ≤ (k : Int) := by omega
          have hgm := (HH.out.1.gr.gr HB.out.2).mod hm (by simp)
          obtain ⟨gb, rfl, hgb, hgb2, hc, -, hrd⟩ := hgm.at_ k hlt
          have hpa := HH.out.2.1 _ (show lv.getD k default ∈ lv by simp [hlt])
          have hgk : gs.getD k default = (lv.getD k default).1 := by rw [HH.out.2.2.1]; simp [hlt]
          obtain ⟨idp, hidp⟩ : ∃ idp, 0 < k → (gs.getD (k - 1) default).id = idp ∧ wr.cell? ⟨gb, (k - 1) * 6, none⟩ = some (.int .i64 idp) := by
            refine ⟨(gs.getD (k - 1) default).id, fun h0 => ⟨rfl, ?_⟩⟩
            obtain ⟨gb', e', -, -, hc', -, -⟩ := hgm.at_ (k - 1) (by omega)
            simp only [Option.some.injEq, Addr.mk.injEq, and_true] at e'
            subst e'
            have := hc' 0 (by decide)
            simp only [Nat.add_zero] at this
            rw [this, show gs.getD (k - 1) default = (lv.getD (k - 1) default).1 by rw [HH.out.2.2.1]; simp [show k - 1 < lv.length by omega]]
            rfl
          have hbk := hm.at_ HB.out.1 (by simp)
          obtain ⟨pr, hpr⟩ : ∃ p, lv.getD k default = p := ⟨_, rfl⟩
          rw [hpr] at hc hrd hpa hgk
          obtain ⟨⟨id, ho, pa, mo, st, te⟩, sv⟩ := pr
          simp only at hrd hpa hgk
          have c0 := hc 0 (by decide)
          have c1 := hc 1 (by decide)
          have c2 := hc 2 (by decide)
          have c3 := hc 3 (by decide)
          have c4 := hc 4 (by decide)
          have c5 := hc 5 (by decide)
          simp [encG, cellsG] at c0 c1 c2 c3 c4 c5
          have km := fun {W : World} (m : Mod [] wr W) => rgrant_any (g := ⟨id, ho, pa, mo, st, te⟩) (hrd.mod m (by simp)) hpa
          have kn := fun {W : World} (m : Mod [] wr W) => rlast_any (hrd.mod m (by simp))
          obtain ⟨qs, cs, rfl⟩ := hrd.len
          obtain ⟨X, hX⟩ : ∃ X, X = wr.alloc (.cells #[.int .i64 id, .int .i64 ho, .string pa, .int .i64 mo, .slice qs st.length cs, .int .i64 te] 40 (0, 0)) := ⟨_, rfl⟩
          have hbx : X.heap[wr.heap.size]? = some (.cells #[.int .i64 id, .int .i64 ho, .string pa, .int .i64 mo, .slice qs st.length cs, .int .i64 te] 40 (0, 0)) := by rw [hX]; exact heap_alloc_new wr _
          have hmX : Mod [] wr X := by rw [hX]; exact (Mod.refl _ _).alloc _
          have hF : ∀ W, Mod [] X W → (∀ i, W.cell? ⟨wr.heap.size, i, none⟩ = (#[.int .i64 id, .int .i64 ho, .string pa, .int .i64 mo, .slice qs st.length cs, .int .i64 te] : Array Value)[i]?) ∧ (∀ i, W.cell? ⟨w.heap.size, i, none⟩ = (#[.int .i64 nx, .int .i64 bo, .int .i64 lo, .slice (some ⟨gb, 0, none⟩) lv.length c] : Array Value)[i]?) ∧ (0 < k → W.cell? ⟨gb, (k - 1) * 6, none⟩ = some (.int .i64 idp)) := fun W m =>
            ⟨blk_cell (m.at_ hbx (by simp)), blk_cell ((hmX.then m).at_ hbk (by simp)), fun h0 => (hmX.then m).kept (hidp h0).2 (by simp)⟩
          have HF := hide hF
          have B2 := blk_cell hbk
          generalize hG : grantB ⟨id, ho, pa, mo, st, te⟩ = G at km
          generalize hN : lastI st = n at kn
          unfold aggG cellsG at km
          simp only at km
          have HG := hide (And.intro hgk (And.intro hG (And.intro hN (And.intro hidp hmX))))
          clear hc hgk hpr hbx hF hG hN hidp hmX hbk hgm
          go_upto_region 9 with fail
          rw [← hX]
          clear hX c0 c1 c2 c3 c4 c5 B2
          have hbad : ∀ {W : World}, Mod [] X W → okFrom nx 0 gs = false → Ending.returned (.bool false) = .returned (.bool V) ∧ Mod [] w W := fun m e => ⟨by rw [← HV.out, e], (((HB.out.2.mod []).then hm).then HG.out.2.2.2.2).then m⟩
          refine pB 999 (Mod [] X) ((Mod.refl [] X).drew) ?_
          refine pH 0 rfl (fun w h => by obtain ⟨C0, C1, C2⟩ := HF.out _ h; go_simp; try with_reducible rfl) ?_
          refine pX 1 fun hT K HK => ?_
          go_simp
          refine (km (HG.out.2.2.2.2.then hT)).mono ?_; rintro e x7 ⟨rfl, m7⟩
          refine HK.out _ _ _ (hT.then m7) ?_
          clear HK K hT m7
          refine pP 2 ?_; refine pP 3 ?_
          cases G with
          | false =>
            refine pN 4 ?_; refine pN 5 ?_; refine pN 6 ?_; refine pN 7 ?_; refine pN 8 ?_; refine pN 9 ?_; refine pP 10 ?_; refine pP 11 ?_; refine pN 12 ?_; refine pN 13 ?_; refine pN 14 ?_; refine pN 15 ?_; refine pN 16 ?_; refine pN 17 ?_; refine pN 18 ?_; refine pN 19 ?_; refine pN 20 ?_; refine pN 21 ?_; refine pN 22 ?_; refine pN 23 ?_; refine pN 24 ?_; refine pN 25 ?_; refine pP 26 ?_
            refine pE fun hT => ?_
            go_wp2_with fail
            go_ret
            exact hbad hT (okFrom_stop (k := k) (by omega) (by rw [HG.out.1]; exact .inl HG.out.2.1))
          | true =>
            refine pP 4 ?_
            refine pH 5 rfl (fun w h => by obtain ⟨C0, C1, C2⟩ := HF.out _ h; go_simp; try with_reducible rfl) ?_
            refine pP 7 ?_
            refine pH 8 rfl (fun w h => by obtain ⟨C0, C1, C2⟩ := HF.out _ h; go_simp; try with_reducible rfl) ?_
            refine pX 6 fun hT K HK => ?_
            go_simp
            refine (kn (HG.out.2.2.2.2.then hT)).mono ?_; rintro e x8 ⟨rfl, rfl⟩
            refine HK.out _ _ _ hT ?_
            clear HK K hT
            by_cases hn : nx ≤ n
            · have dn : decide (nx ≤ n) = true := decide_eq_true hn
              refine pP 9 ?_; refine pP 10 ?_; refine pP 11 ?_; refine pN 12 ?_; refine pN 13 ?_; refine pN 14 ?_; refine pN 15 ?_; refine pN 16 ?_; refine pN 17 ?_; refine pN 18 ?_; refine pN 19 ?_; refine pN 20 ?_; refine pN 21 ?_; refine pN 22 ?_; refine pN 23 ?_; refine pN 24 ?_; refine pN 25 ?_; refine pP 26 ?_
              refine pE fun hT => ?_
              go_wp2_with fail
              go_ret
              exact hbad hT (okFrom_stop (k := k) (by omega) (by rw [HG.out.1]; exact .inr (.inl (by rw [HG.out.2.2.1]; exact hn))))
            · have dn : decide (nx ≤ n) = false := decide_eq_false hn
              refine pP 9 ?_; refine pP 10 ?_; refine pP 11 ?_; refine pP 12 ?_
              by_cases h1k : 0 < k
              · have hkd : decide ((0 : Int) < (k : Int)) = true := decide_eq_true (by omega)
                have hkw : IntKind.i64.wrap ((k : Int) - 1) = ((k - 1 : Nat) : Int) := (IntWalk.i64_in _ (by omega)).trans (by omega)
                have hk1 : k - 1 < lv.length := by omega
                have hk2 : (0 : Int) ≤ ((k - 1 : Nat) : Int) := by omega
                have hk3 : ((k - 1 : Nat) : Int) < (lv.length : Int) := by omega
                refine pP 13 ?_; refine pP 14 ?_; refine pP 15 ?_
                refine pH 16 rfl (fun w h => by obtain ⟨C0, C1, C2⟩ := HF.out _ h; go_simp; try with_reducible rfl) ?_
                refine pP 17 ?_; refine pP 18 ?_; refine pP 19 ?_; refine pP 20 ?_
                refine pH 21 rfl (fun w h => by have C2 := (HF.out _ h).2.2 h1k; go_simp; try with_reducible rfl) ?_
                refine pP 22 ?_
                refine pH 23 rfl (fun w h => by obtain ⟨C0, C1, C2⟩ := HF.out _ h; go_simp; try with_reducible rfl) ?_
                by_cases hi : id ≤ idp
                · have di : decide (id ≤ idp) = true := decide_eq_true hi
                  refine pP 24 ?_; refine pP 25 ?_; refine pP 26 ?_
                  refine pE fun hT => ?_
                  go_wp2_with fail
                  go_ret
                  exact hbad hT (okFrom_stop (k := k) (by omega) (by rw [HG.out.1, (HG.out.2.2.2.1 h1k).1]; exact .inr (.inr ⟨h1k, hi⟩)))
                · have di : decide (id ≤ idp) = false := decide_eq_false hi
                  refine pP 24 ?_; refine pP 25 ?_; refine pP 26 ?_
                  refine pE fun hT => ?_
                  clear hbad
                  go_wp2_with fail
                  go_roundw
                  case rel => exact ⟨k + 1, by go_num, by omega, okFrom_nextR hok (by omega) (by rw [HG.out.1]; exact HG.out.2.1) (by rw [HG.out.1, HG.out.2.2.1]; omega) (fun h0 => by rw [HG.out.1, (HG.out.2.2.2.1 h0).1]; show idp < id; omega), (hm.then HG.out.2.2.2.2).then hT⟩
                  case measure => simp [intOf]; omega
              · obtain rfl : k = 0 := by omega
                refine pP 13 ?_; refine pP 14 ?_; refine pN 15 ?_; refine pN 16 ?_; refine pN 17 ?_; refine pN 18 ?_; refine pN 19 ?_; refine pN 20 ?_; refine pN 21 ?_; refine pN 22 ?_; refine pN 23 ?_; refine pN 24 ?_; refine pP 25 ?_; refine pP 26 ?_
                refine pE fun hT => ?_
                clear hbad
                go_wp2_with fail
                go_roundw
                case rel => exact ⟨1, by go_num, by omega, okFrom_nextR (k := 0) hok (by omega) (by rw [HG.out.1]; exact HG.out.2.1) (by rw [HG.out.1, HG.out.2.2.1]; omega) (fun h0 => absurd h0 (by omega)), (hm.then HG.out.2.2.2.2).then hT⟩
                case measure => simp [intOf]; omega
        · obtain rfl : k = lv.length := by omega
          rw [← hgl, List.take_length] at hok
          have B2 := blk_cell (hm.at_ HB.out.1 (by simp))
          go_wp2_with fail
          go_ret
          exact ⟨by rw [← HV.out, hok]; rfl, (HB.out.2.mod []).then hm⟩
  all_goals
    obtain rfl : V = false := by
      rw [← hV]
      first
        | (rw [show decide (lv.length ≤ 6) = false from decide_eq_false (by omega)]; simp; done)
        | (rw [show decide (1 ≤ nx ∧ nx ≤ 1099511627777 ∧ 0 ≤ bo ∧ bo ≤ 1099511627776) = false from decide_eq_false (by omega)]; rfl)
    clear hV
    go_wp2_with fail
    go_ret
    exact ⟨rfl, HB.out.2.mod []⟩
end Go.Proofs.YtpphoeimakjjdaaGreatDoor
