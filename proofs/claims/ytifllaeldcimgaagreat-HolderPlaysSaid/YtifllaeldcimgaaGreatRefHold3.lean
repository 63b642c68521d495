/-
  WALKS: the document's layer 17: fault. (The great seat alone.)
-/
import Derived.Test.YtifllaeldcimgaaGreatRefHold1
import Derived.Test.YtifllaeldcimgaaGreatRefPaths
import Derived.Test.YtifllaeldcimgaaGreatRefTerm
namespace Go.Proofs.YtifllaeldcimgaaGreat
open Go.RowKit

theorem rmom_any (now sent : Int) (w : World) : Calls Tryz.prog 28 #[.int .i64 now, .int .i64 sent] w fun e w' => e = .returned (.bool (decide (momOk now sent))) ∧ w' = w := rmoments_any now sent w
theorem rstp_any {w : World} {u : Value} {a : List Int} (hu : RdN w u a) : Calls Tryz.prog 30 #[u] w fun e w' => e = .returned (.bool (decide (stampedOk a))) ∧ w' = w := rstamped_any hu
theorem rlgl_any (t : Int) (w : World) : Calls Tryz.prog 29 #[.int .i64 t] w fun e w' => e = .returned (.bool (decide (legalT t))) ∧ w' = w := rlegal_any t w
theorem legal_ok {t rho : Int} (h : legalT t) (hr : 0 ≤ rho ∧ rho ≤ 999) : termOk t rho := ⟨by have := h.1; omega, h.2, hr.1, hr.2⟩
set_option maxHeartbeats 2000000 in
set_option maxRecDepth 100000 in
theorem rfault_any {w : World} {v : Value} {fl : List Nat} {l : List Lease} (h : Dc w v fl l) (hsm : l.length ≤ 100) {rho : Int} (hr : 0 ≤ rho ∧ rho ≤ 999) (f i m t s e : Int) (p : ByteArray) (a : List Int) (r : Bool) (q : Option Addr) (c : Nat) (now sent : Int) (hp : p.size ≤ 9223372036854775806)
    (hv : RdN w (.slice q a.length c) a) :
    Calls Tryz.prog 56 #[.agg #[.int .i64 rho, v], .int .i64 now, .int .i64 sent, .agg #[.int .i64 f, .int .i64 i, .string p, .int .i64 m, .slice q a.length c, .int .i64 t, .int .i64 s, .int .i64 e, .bool r]] w
      fun en w' => CodeM w (faultS rho l now sent ⟨f, i, p, m, a, t, s, e, r⟩) en w' := by
  obtain ⟨pl, cl, rfl⟩ := h.rd.len
  obtain ⟨cd, hcd⟩ : ∃ cd, faultS rho l now sent ⟨f, i, p, m, a, t, s, e, r⟩ = cd := ⟨_, rfl⟩
  rw [hcd]
  unfold faultS at hcd
  simp only at hcd
  have g1 := ((Gr.refl w).alloc (objD rho (.slice pl l.length cl))).alloc (objL f i p m (.slice q a.length c) t s e r)
  have bD := blk_alloc (heap_alloc_new w (objD rho (.slice pl l.length cl))) (objL f i p m (.slice q a.length c) t s e r)
  have bL := heap_alloc_new (w.alloc (objD rho (.slice pl l.length cl))) (objL f i p m (.slice q a.length c) t s e r)
  have e1 : (w.alloc (objD rho (.slice pl l.length cl))).heap.size = w.heap.size + 1 := by simp
  rw [e1] at bL
  have HB := hide (And.intro (g1.mod []) (And.intro bD (And.intro bL (And.intro (h.same (g1.mod [])) (hv.gr g1)))))
  have HC := hide hcd
  clear g1 bD bL e1 h hv hcd
  go_enter Tryz.func56, Tryz.ntmps56
  go_wp2_with fail
  refine (rpvalid_any p hp _).mono ?_
  rintro en w2 ⟨rfl, hm2⟩
  obtain ⟨hm1, bD1, bL1, h1, hv1⟩ := HB.out
  have bD := hm2.at_ bD1 (by simp)
  have bL := hm2.at_ bL1 (by simp)
  have h2 := h1.same hm2
  have hv2 := hv1.mod hm2 (by simp)
  have hm := hm1.then hm2
  have CD := blk_cell bD
  have CL := blk_cell bL
  obtain ⟨pk, hpk⟩ : ∃ pk, pathOk p.data.toList = pk := ⟨_, rfl⟩
  rw [hpk]
  have HP := hide hpk
  have HM := hide hm
  clear HB hm1 bD1 bL1 h1 hv1 hm2 bD bL hm hpk
  have H2 := hide (And.intro h2 hv2)
  clear h2 hv2
  go_wp2_with fail
  refine (rmom_any _ _ _).mono ?_
  rintro en w3 ⟨rfl, rfl⟩
  by_cases h0 : rangeOk now sent ⟨f, i, p, m, a, t, s, e, r⟩
  · have hcd := HC.out
    rw [if_neg (fun x => x h0), HP.out] at hcd
    obtain ⟨hmo, r1, r2, r3, r4⟩ := h0
    simp only at r1 r2 r3 r4
    rw [decide_eq_true hmo]
    have HC := hide hcd
    have HMO := hide hmo
    clear hcd hmo HP
    cases pk
    · obtain rfl : 10 = cd := by have := HC.out; rwa [if_pos rfl] at this
      clear HC H2
      go_wp2_with fail
      go_ret
      exact ⟨rfl, HM.out⟩
    · have hcd := HC.out
      rw [if_neg (by simp)] at hcd
      clear HC
      have HC := hide hcd
      clear hcd
      go_wp2_with fail
      refine (rmode_any _ _).mono ?_
      rintro en w4 ⟨rfl, rfl⟩
      by_cases h1 : modeOk m
      · have hcd := HC.out
        rw [if_neg (fun x => x h1)] at hcd
        rw [decide_eq_true h1]
        have HC := hide hcd
        clear hcd h1 r1 r2 r3 r4
        go_wp2_with fail
        refine (rstp_any H2.out.2).mono ?_
        rintro en w5 ⟨rfl, rfl⟩
        by_cases h3 : stampedOk a
        · have hcd := HC.out
          rw [if_neg (fun x => x h3)] at hcd
          rw [decide_eq_true h3]
          have HC := hide hcd
          clear hcd h3
          go_wp2_with fail
          refine (rlgl_any _ _).mono ?_
          rintro en w6 ⟨rfl, rfl⟩
          by_cases h4 : legalT t
          · have hcd := HC.out
            rw [if_neg (fun x => x h4)] at hcd
            rw [decide_eq_true h4]
            have HC := hide hcd
            have hto := legal_ok h4 hr
            clear hcd h4
            go_wp2_with fail
            refine (rfind_any H2.out.1.rd _ _).mono ?_
            rintro en w7 ⟨rfl, rfl⟩
            have hcd := HC.out
            rcases find_get l (f, i) with ⟨g1, g2⟩ | ⟨k, hk, g1, g2, -⟩
            · rw [g2]
              rw [show getL l (keyL ⟨f, i, p, m, a, t, s, e, r⟩) = none from g1, if_neg (by simp)] at hcd
              clear HC g1 g2
              have HC := hide hcd
              clear hcd
              go_wp2_with fail
              refine (rshrink_ok hto _).mono ?_
              rintro en w8 ⟨rfl, rfl⟩
              have hsb := shrinkI_bound hto
              generalize shrinkI t rho = n at hsb HC
              have hmo2 := HMO.out
              unfold momOk at hmo2
              clear hto
              have e4 : IntKind.i64.wrap (sent + n) = sent + n := IntWalk.i64_in _ (by omega)
              by_cases h5 : sent + n ≤ now
              · obtain rfl : 62 = cd := by have := HC.out; rwa [if_pos h5] at this
                clear HC H2
                go_wp2_with fail
                go_ret
                exact ⟨rfl, HM.out⟩
              · have hcd := HC.out
                rw [if_neg h5] at hcd
                clear HC
                have HC := hide hcd
                clear hcd
                go_wp2_with fail
                refine (rsweep_any H2.out.1 hsm rho now).mono ?_
                rintro en w9 ⟨v9, rfl, f9, h9, -, hm9⟩
                obtain ⟨p9, c9, rfl⟩ := h9.rd.len
                have hs9 : (sweepL now l).length ≤ l.length := List.length_filter_le _ _
                generalize (sweepL now l).length = n9 at hs9 HC
                have HM9 := hide ((HM.out).then hm9)
                clear HM h9 hm9 H2 CD CL e4 h5 hmo2 hsb
                by_cases h6 : 8 ≤ n9
                · obtain rfl : 51 = cd := by have := HC.out; rwa [if_pos h6] at this
                  clear HC
                  have h7 : (8 : Int) ≤ (n9 : Int) := by omega
                  clear h6
                  go_wp2_with fail
                  go_ret
                  exact ⟨rfl, HM9.out.alloc _⟩
                · obtain rfl : 0 = cd := by have := HC.out; rwa [if_neg h6] at this
                  clear HC
                  have h7 : ¬ (8 : Int) ≤ (n9 : Int) := by omega
                  clear h6
                  go_wp2_with fail
                  go_ret
                  exact ⟨rfl, HM9.out.alloc _⟩
            · rw [g2]
              rw [show getL l (keyL ⟨f, i, p, m, a, t, s, e, r⟩) = some (l.getD k default) from g1, if_pos (show (some (l.getD k default)).isSome = true from rfl)] at hcd
              subst hcd
              clear HC g1 g2 H2
              have hk0 : (0 : Int) ≤ (k : Int) := by omega
              go_wp2_with fail
              go_ret
              exact ⟨rfl, HM.out⟩
          · obtain rfl : 12 = cd := by have := HC.out; rwa [if_pos h4] at this
            rw [decide_eq_false h4]
            clear HC h4 H2
            go_wp2_with fail
            go_ret
            exact ⟨rfl, HM.out⟩
        · obtain rfl : 13 = cd := by have := HC.out; rwa [if_pos h3] at this
          rw [decide_eq_false h3]
          clear HC h3 H2
          go_wp2_with fail
          go_ret
          exact ⟨rfl, HM.out⟩
      · obtain rfl : 11 = cd := by have := HC.out; rwa [if_pos h1] at this
        rw [decide_eq_false h1]
        clear HC h1 H2
        go_wp2_with fail
        go_ret
        exact ⟨rfl, HM.out⟩
  · obtain rfl : 2 = cd := by have := HC.out; rwa [if_pos h0] at this
    clear HC H2 HP
    by_cases hmo : momOk now sent
    · rw [decide_eq_true hmo]
      have hways : f < 0 ∨ (¬ f < 0 ∧ 7 < f) ∨ (¬ f < 0 ∧ ¬ 7 < f ∧ i < 1) ∨ (¬ f < 0 ∧ ¬ 7 < f ∧ ¬ i < 1 ∧ 1099511627776 < i) := by
        unfold rangeOk at h0
        simp only at h0
        have : ¬ (0 ≤ f ∧ f < 8 ∧ 1 ≤ i ∧ i ≤ 1099511627776) := fun x => h0 ⟨hmo, x⟩
        omega
      clear h0 hmo
      rcases hways with y1 | ⟨y1, y2⟩ | ⟨y1, y2, y3⟩ | ⟨y1, y2, y3, y4⟩
      all_goals
        go_wp2_with fail
        go_ret
        exact ⟨rfl, HM.out⟩
    · rw [decide_eq_false hmo]
      clear h0 hmo
      go_wp2_with fail
      go_ret
      exact ⟨rfl, HM.out⟩
end Go.Proofs.YtifllaeldcimgaaGreat
