/-
  WALKS: layer 17: Add.
-/
import Derived.Test.YtifllaeldcimgaaGreatHoldF2
namespace Go.Proofs.YtifllaeldcimgaaGreat
open Go.RowKit
section
variable {w : World} {ph pm : Nat} {fs : List Nat} {rho : Int} {l : List Lease} (f i m t s e : Int) (p : ByteArray) (a : List Int) (r : Bool) (q : Option Addr) (c : Nat) (now sent : Int)
theorem fault_any (h : Hd w ph pm fs rho l) (hp : p.size ≤ 9223372036854775807) (hv : RdN w (.slice q a.length c) a) :
    Calls Tryz.prog 58 #[.pointer (some ⟨ph, 0, none⟩), .int .i64 now, .int .i64 sent, .agg #[.int .i64 f, .int .i64 i, .string p, .int .i64 m, .slice q a.length c, .int .i64 t, .int .i64 s, .int .i64 e, .bool r]] w fun en w' => CodeM w (faultS rho l now sent ⟨f, i, p, m, a, t, s, e, r⟩) en w' := by
  unfold faultS
  by_cases h0 : rangeOk now sent ⟨f, i, p, m, a, t, s, e, r⟩
  · rw [if_neg (fun x => x h0)]
    cases h1 : pathOk p.data.toList
    · rw [if_pos rfl]
      exact fault_path f i m t s e p a r q c now sent h0 hp h1
    · rw [if_neg (by decide)]
      by_cases h2 : modeOk m
      · rw [if_neg (fun x => x h2)]
        by_cases h3 : stampedOk a
        · rw [if_neg (fun x => x h3)]
          by_cases h4 : legalT t
          · rw [if_neg (fun x => x h4)]
            exact fault_rest f i m t s e p a r q c now sent h h0 hp h1 h2 hv (decide_eq_true h3) (decide_eq_true h4)
          · rw [if_pos h4]
            exact fault_term f i m t s e p a r q c now sent h0 hp h1 h2 hv (decide_eq_true h3) (decide_eq_false h4)
        · rw [if_pos h3]
          exact fault_stamp f i m t s e p a r q c now sent h0 hp h1 h2 hv (decide_eq_false h3)
      · rw [if_pos h2]
        exact fault_mode f i m t s e p a r q c now sent h0 hp h1 h2
  · rw [if_pos h0]
    exact fault_range f i m t s e p a r q c now sent h0
end
/-- the lease as it is kept -/
def keptL (rho sent : Int) (x : Lease) : Lease := { x with sent := sent, expiry := sent + shrinkI x.term rho, recd := false }
def addS (rho : Int) (l : List Lease) (now sent : Int) (x : Lease) : List Lease × Int :=
  if faultS rho l now sent x = 0 then (putL (keptL rho sent x) (sweepL now l), 0) else (l, faultS rho l now sent x)
theorem fault_zero {rho : Int} {l : List Lease} {now sent : Int} {x : Lease} (hr : 0 ≤ rho ∧ rho ≤ 999) (h : faultS rho l now sent x = 0) :
    okL (keptL rho sent x) ∧ (sweepL now l).length < 8 ∧ termOk x.term rho ∧ momOk now sent ∧ getL l (keyL x) = none ∧ now < sent + shrinkI x.term rho := by
  unfold faultS at h
  by_cases h0 : rangeOk now sent x
  · rw [if_neg (fun q => q h0)] at h
    by_cases h1 : pathOk x.path.data.toList = false
    · rw [if_pos h1] at h; exact absurd h (by decide)
    · rw [if_neg h1] at h
      by_cases h2 : modeOk x.mode
      · rw [if_neg (fun q => q h2)] at h
        by_cases h3 : stampedOk x.stamp
        · rw [if_neg (fun q => q h3)] at h
          by_cases h4 : legalT x.term
          · rw [if_neg (fun q => q h4)] at h
            by_cases h5 : (getL l (keyL x)).isSome = true
            · rw [if_pos h5] at h; exact absurd h (by decide)
            · rw [if_neg h5] at h
              by_cases h6 : sent + shrinkI x.term rho ≤ now
              · rw [if_pos h6] at h; exact absurd h (by decide)
              · rw [if_neg h6] at h
                by_cases h7 : 8 ≤ (sweepL now l).length
                · rw [if_pos h7] at h; exact absurd h (by decide)
                · have ht : termOk x.term rho := ⟨by have := h4.1; omega, h4.2, hr.1, hr.2⟩
                  have hb := shrinkI_bound ht
                  obtain ⟨m1, m2, m3⟩ := h0.1
                  refine ⟨⟨h0.2, by simpa [keptL] using h1, h2, h3, h4, m1, ?_, ?_, ?_⟩, by omega, ht, h0.1, by simpa using h5, by omega⟩
                  · show sent ≤ _; omega
                  · show sent ≤ sent + _; omega
                  · show sent + _ ≤ _; omega
          · rw [if_pos h4] at h; exact absurd h (by decide)
        · rw [if_pos h3] at h; exact absurd h (by decide)
      · rw [if_pos h2] at h; exact absurd h (by decide)
  · rw [if_pos h0] at h; exact absurd h (by decide)
/-- what a call leaves: the holder's new list, and a code -/
def HdI (w : World) (ph pm : Nat) (fs : List Nat) (rho : Int) (s : List Lease × Int) (e : Ending) (w' : World) : Prop :=
  e = .returned (.int .i64 s.2) ∧ ∃ fs', Hd w' ph pm fs' rho s.1 ∧ HdTo w pm fs w' fs'
theorem hadd_nil (now sent f i m t s e : Int) (p : ByteArray) (v : Value) (r : Bool) (w : World) (hv : ∃ q n c, v = .slice q n c) : Calls Tryz.prog 23 #[.pointer none, .int .i64 now, .int .i64 sent, .agg #[.int .i64 f, .int .i64 i, .string p, .int .i64 m, v, .int .i64 t, .int .i64 s, .int .i64 e, .bool r]] w fun e w' => e = .returned (.int .i64 1) ∧ Gr w w' := by
  obtain ⟨q, n, c, rfl⟩ := hv
  have G := hide ((Gr.refl w).alloc (objL f i p m (.slice q n c) t s e r))
  go_enter Tryz.func23, Tryz.ntmps23
  go_wp2
  go_ret
  exact ⟨rfl, G.out⟩
set_option maxHeartbeats 1000000 in
set_option maxRecDepth 100000 in
theorem hadd_any {w : World} {ph pm : Nat} {fs : List Nat} {rho : Int} {l : List Lease} (h : Hd w ph pm fs rho l) (f i m t s e : Int) (p : ByteArray) (a : List Int) (r : Bool) (q : Option Addr) (c : Nat) (now sent : Int)
    (hp : p.size ≤ 9223372036854775807) (hv : RdN w (.slice q a.length c) a) (hb : pm ∉ ob (.slice q a.length c)) :
    Calls Tryz.prog 23 #[.pointer (some ⟨ph, 0, none⟩), .int .i64 now, .int .i64 sent, .agg #[.int .i64 f, .int .i64 i, .string p, .int .i64 m, .slice q a.length c, .int .i64 t, .int .i64 s, .int .i64 e, .bool r]] w fun en w' => HdI w ph pm fs rho (addS rho l now sent ⟨f, i, p, m, a, t, s, e, r⟩) en w' := by
  have h1 := h.gr ((Gr.refl w).alloc (objL f i p m (.slice q a.length c) t s e r))
  have hv1 := hv.gr ((Gr.refl w).alloc (objL f i p m (.slice q a.length c) t s e r))
  have hb1 := heap_alloc_new w (objL f i p m (.slice q a.length c) t s e r)
  have hm1 := ((Gr.refl w).alloc (objL f i p m (.slice q a.length c) t s e r)).mod []
  have hlt := h.lt
  have HB := hide (And.intro hb (And.intro hb1 hm1))
  clear hb hb1 hm1 h hv
  go_enter Tryz.func23, Tryz.ntmps23
  go_wp2_with fail
  refine (fault_any f i m t s e p a r q c now sent h1 hp hv1).mono ?_
  rintro en w2 ⟨rfl, hm2⟩
  obtain ⟨hb, hb1, hm1⟩ := HB.out
  have h2 := h1.same hm2
  have hv2 := hv1.mod hm2 (by simp)
  have hb2 := hm2.at_ hb1 (by simp)
  have hm02 := hm1.then hm2
  generalize hz : faultS rho l now sent ⟨f, i, p, m, a, t, s, e, r⟩ = z
  by_cases hz0 : z = 0
  · subst hz0
    obtain ⟨hk, hlen, hto, hmo, _, _⟩ := fault_zero h2.rhoOk hz
    have HZ := hide (And.intro hz (And.intro hk (And.intro hlen (And.intro hto (And.intro hmo (And.intro hv2 (And.intro hm02 (And.intro hb hb2))))))))
    clear hz hk hlen hto hmo HB hb hb1 hm1 hv1 h1 hv2 hm2 hb2 hm02
    go_wp2_with fail
    refine (hsweep_any h2 now).mono ?_
    rintro en w3 ⟨rfl, h3, hm3⟩
    obtain ⟨hz, hk, hlen, hto, hmo, hv2, hm02, hb, hb2⟩ := HZ.out
    have hb3 := hm3.at_ hb2 (by simp; omega)
    have hv3 := hv2.mod hm3 (fun k hk e => hb (by have : k = pm := by simpa using e
                                                  rw [← this]; exact hk))
    have hm03 := (hm02.mono (T := [pm]) (by simp)).then hm3
    have hsl := okL_stamp hk
    have HZ2 := hide (And.intro hz (And.intro hk (And.intro hlen (And.intro hmo (And.intro hm03 hb3)))))
    have C3 := blk_cell hb3
    replace hsl : a.length ≤ 4 := hsl
    replace hto : termOk t rho := hto
    clear hz hk hlen hmo hv2 hm02 hb2 HZ hm3 h2 hb hb3 hm03
    go_wp2_with fail
    refine (twin_any hv3 (by omega) _ _ _ _ _ _ _ _).mono ?_
    rintro en w4 ⟨v', rfl, hr4, hm4⟩
    obtain ⟨hz, hk, hlen, hmo, hm03, hb3⟩ := HZ2.out
    obtain ⟨q', c', hv'⟩ := (RdN.of_row hr4).len
    subst hv'
    have hob4 := ob_row hr4
    have hrd4 := RowI.of hr4
    have h4 := h3.same hm4
    have hm03s := hm03.size
    have HH3 := hide h3.lt
    have hb4 := hm4.at_ hb3 (by simp)
    have hm04 := hm03.then (hm4.mono (by simp))
    have hc00 := ((Gr.refl w4).alloc (objL f i p m (.slice q' a.length c') t s e r)).kept h4.cell0
    have C4 := blk_cell hb4
    have hl4 := lt_of_block hb4
    have HZ3 := hide (And.intro hz (And.intro hk (And.intro hlen (And.intro hm04 (And.intro hob4 (And.intro hrd4 (And.intro h4 hb4)))))))
    simp only [aggL, cellsL]
    clear hz hk hlen hm03 hb3 HZ2 hr4 hm4 hob4 hrd4 h4 hb4 C3 hv3 hm04 h3
    go_wp2_with fail
    refine (until_any hc00 sent t hto hmo.1 (by have := hmo.2; omega)).mono ?_
    rintro en w5 ⟨rfl, rfl⟩
    obtain ⟨u, hu⟩ : ∃ u, sent + shrinkI t rho = u := ⟨_, rfl⟩
    rw [hu]
    have HU := hide hu
    clear hu hc00 hto hmo
    go_wp2_with fail
    obtain ⟨hz, hk, hlen, hm04, hob4, hrd4, h4, hb4⟩ := HZ3.out
    have hB := heap_alloc_new w4 (objL f i p m (.slice q' a.length c') t sent u false)
    have h5 := h4.gr ((Gr.refl w4).alloc (objL f i p m (.slice q' a.length c') t sent u false)).drew
    have hm05 := (hm04.alloc (objL f i p m (.slice q' a.length c') t sent u false)).drew
    have hrd5 := hrd4.gr ((Gr.refl w4).alloc (objL f i p m (.slice q' a.length c') t sent u false)).drew
    have hb5 := blk_alloc hb4 (objL f i p m (.slice q' a.length c') t sent u false)
    have hnone : getL (sweepL now l) (f, i) = none := by
      have hno := (fault_zero h4.rhoOk hz).2.2.2.2.1
      cases hg : getL (sweepL now l) (f, i) with
      | none => rfl
      | some y =>
        obtain ⟨y1, y2⟩ := getL_some hg
        exact absurd y2 (getL_none hno y (mem_sweepL.1 y1).1)
    have hlen5 : (putL (keptL rho sent ⟨f, i, p, m, a, t, s, e, r⟩) (sweepL now l)).length ≤ 8 := by
      rw [putL_len h4.srt]
      have := delL_le (sweepL now l) (keyL (keptL rho sent ⟨f, i, p, m, a, t, s, e, r⟩))
      omega
    have hkk : keptL rho sent ⟨f, i, p, m, a, t, s, e, r⟩ = ⟨f, i, p, m, a, t, sent, u, false⟩ := by
      unfold keptL
      simp only
      rw [HU.out]
    rw [hkk] at hlen5 hk
    obtain ⟨L, hL, hL2, hL3, hst⟩ := h5.store ⟨f, i, p, m, a, t, sent, u, false⟩ (.slice q' a.length c') hk hlen5 hrd5 (fun k hk => by
      have x1 := hob4 k hk
      have x2 := hlt
      have x3 := hm05.size
      have x4 := hm03s
      simp at x3 ⊢
      omega)
    simp only [keyL, aggL, cellsL] at hL3 hst
    obtain ⟨W, hW⟩ : ∃ W, W = w4.alloc (objL f i p m (.slice q' a.length c') t sent u false) := ⟨_, rfl⟩
    rw [← hW] at h5 hm05 hB hL hst hb5 ⊢
    clear hW
    have hc : W.cell? ⟨ph, 1, none⟩ = _ := h5.cell1
    have hC := blk_cell hB
    have hC1 := blk_cell hb5
    have HF := hide (And.intro hz (And.intro hkk hob4))
    have HM5 := hide hm05
    clear hz hk hlen hm04 hob4 hrd4 h4 hb4 HZ3 hB h5 hrd5 hb5 hnone hlen5 hkk C4 hm05
    go_still_tail 10, (by kernel_rfl)
    change wpList _ _ _ _ _ W.drew
    go_wp2_with (
      at_mapUpdate
      refine wpList_store_L (T := nameT) _ rfl _ _ _ rfl Tryz.underlying62 rfl hL hL2 (key := (f, i)) hL3 rfl _ rfl ?_
      intro w6 q1 q2
      have q := hst w6 q1 q2
      clear hL hst q1 q2 hc hC hC1)
    go_ret
    obtain ⟨hz, hkk, hob4⟩ := HF.out
    have e0 : addS rho l now sent ⟨f, i, p, m, a, t, s, e, r⟩ = (putL ⟨f, i, p, m, a, t, sent, u, false⟩ (sweepL now l), 0) := by
      unfold addS
      rw [if_pos hz, hkk]
    rw [e0]
    refine ⟨rfl, _, q.1, HM5.out.then q.2, fun k hk => ?_⟩
    rcases List.mem_append.1 hk with x | x
    · exact .inl x
    · exact .inr (by have := (hob4 k x).1; have := hm03s; omega)
  · have e0 : addS rho l now sent ⟨f, i, p, m, a, t, s, e, r⟩ = (l, z) := by
      unfold addS
      rw [hz, if_neg hz0]
    have E0 := hide e0
    have hzb : (z != 0) = true := by simpa using hz0
    clear hz e0 HB hb hb1 hm1 hv1 h1 hv2 hm2 hb2 hz0
    go_wp2_with fail
    go_ret
    rw [E0.out]
    exact ⟨rfl, fs, h2, HdTo.same hm02⟩
end Go.Proofs.YtifllaeldcimgaaGreat
