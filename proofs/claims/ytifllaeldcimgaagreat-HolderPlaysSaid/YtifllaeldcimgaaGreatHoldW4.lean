/-
  WALKS: layer 17: Sweep; maps.DeleteFunc at the holder's map.
-/
import Derived.Test.YtifllaeldcimgaaGreatHoldW3
import Derived.Deep.LoopGhost
namespace Go.Proofs.YtifllaeldcimgaaGreat
open Go.RowKit

theorem sweep1_any {w : World} {bn : Nat} {now : Int} (hc : w.cell? ⟨bn, 0, none⟩ = some (.int .i64 now)) (k1 k2 : Int) (f i m t s e : Int) (p : ByteArray) (v : Value) (r : Bool) :
    Calls Tryz.prog 55 #[.agg #[.int .i64 k1, .int .i64 k2], .agg #[.int .i64 f, .int .i64 i, .string p, .int .i64 m, v, .int .i64 t, .int .i64 s, .int .i64 e, .bool r], .pointer (some ⟨bn, 0, none⟩)] w fun en w' => en = .returned (.bool (decide (e ≤ now))) ∧ Gr w w' := by
  have hlt : bn < w.heap.size := World.block_lt_of_cell? w ⟨bn, 0, none⟩ hc
  have h1 : ¬ bn = w.heap.size := by omega
  have h2 : ¬ bn = w.heap.size + 1 := by omega
  have G := hide (((Gr.refl w).alloc (.cells #[.int .i64 k1, .int .i64 k2] 73)).alloc (objL f i p m v t s e r))
  go_enter Tryz.func55, Tryz.ntmps55
  go_wp2_with fail
  go_ret
  exact ⟨rfl, G.out⟩

def keepP (now : Int) (p : Lease × Value) : Bool := decide (now < p.1.expiry)
def stillL (now : Int) (lf : List (Key × Value)) (lv : List (Lease × Value)) : List (Lease × Value) := lv.filter fun p => keepP now p || lf.any fun q => decide (q.1 = keyL p.1)
theorem delM_twice {κ : Type} [DecidableEq κ] (L : List (κ × Value)) (x : κ) : delM (delM L x) x = delM L x := by
  unfold delM
  rw [List.filter_filter]
  exact List.filter_congr fun p _ => by simp
theorem pair_ne {lv : List (Lease × Value)} (h : lv.Pairwise fun p q => (ent p).1 ≠ (ent q).1) {p q : Lease × Value} (hp : p ∈ lv) (hq : q ∈ lv) (hne : p ≠ q) : keyL p.1 ≠ keyL q.1 := by
  induction lv with
  | nil => cases hp
  | cons z r ih =>
    have h' := List.pairwise_cons.1 h
    rcases List.mem_cons.1 hp with e1 | e1 <;> rcases List.mem_cons.1 hq with e2 | e2
    · exact absurd (e1.trans e2.symm) hne
    · rw [e1]; exact h'.1 q e2
    · rw [e2]; exact (h'.1 p e1).symm
    · exact ih h'.2 e1 e2
theorem still_any {lf : List (Key × Value)} {k x : Key} : ((delM lf x).any fun q => decide (q.1 = k)) = ((lf.any fun q => decide (q.1 = k)) && decide (k ≠ x)) := by
  unfold delM
  rw [Bool.eq_iff_iff]
  simp only [List.any_filter, List.any_eq_true, Bool.and_eq_true, decide_eq_true_eq]
  constructor
  · rintro ⟨q, hq, h1, h2⟩; exact ⟨⟨q, hq, h2⟩, by rw [← h2]; exact h1⟩
  · rintro ⟨⟨q, hq, h2⟩, h1⟩; exact ⟨q, hq, by rw [h2]; exact h1, h2⟩
def MDelRel (w : World) (pm r : Nat) (now : Int) (lv : List (Lease × Value)) (g : Nat) (wr : World) : Prop :=
  ∃ lf : List (Key × Value), lf.length = g ∧ RangeL nameT wr pm r ((stillL now lf lv).map ent) lf ∧ Mod [pm] w wr
set_option maxHeartbeats 1000000 in
set_option maxRecDepth 100000 in
theorem mdel_any {w : World} {pm bn : Nat} {now : Int} {lv : List (Lease × Value)} (hm : MapL nameT w pm (lv.map ent)) (hc : w.cell? ⟨bn, 0, none⟩ = some (.int .i64 now)) (hb : bn ≠ pm)
    (hs : ∀ p, p ∈ lv → ∃ q n c, p.2 = .slice q n c) :
    Calls Tryz.prog 54 #[.map (some pm), .func (.func 55) #[] #[.pointer (some ⟨bn, 0, none⟩)]] w fun e w' =>
      e = .returned (.tuple #[]) ∧ MapL nameT w' pm ((lv.filter (keepP now)).map ent) ∧ Mod [pm] w w' := by
  go_enter Tryz.func54, Tryz.ntmps54
  go_wp2_with (
    at_range
    refine wpList_range_L (T := nameT) _ rfl _ rfl Tryz.underlying62 rfl hm ?_
    intro w1 hR0 hm1 hs1)
  go_frame
  go_loopg [8] lv.length (fun g _ wr => MDelRel w pm w.heap.size now lv g wr)
  case atStart =>
    have e : stillL now (lv.map ent) lv = lv := by
      unfold stillL
      refine List.filter_eq_self.2 fun p hp => ?_
      rw [Bool.or_eq_true]
      exact .inr (List.any_eq_true.2 ⟨ent p, List.mem_map.2 ⟨p, hp, rfl⟩, by simp [ent]⟩)
    exact ⟨lv.map ent, by simp, by rw [e]; exact hR0, hm1.mono (by simp)⟩
  case round =>
    clear hR0 hm1 hs1
    obtain ⟨lf, hg, hR, hmw⟩ := hrel
    have hc1 := hmw.kept hc (by simp; exact hb)
    go_wp2_with (
      at_next
      refine wpList_next_L (T := nameT) _ rfl _ rfl rfl hR ?_ ?_)
    · intro h0
      have E : stillL now lf lv = lv.filter (keepP now) := by
        unfold stillL
        rw [h0]
        exact List.filter_congr fun p _ => by simp
      rw [E] at hR
      have hL := hR.map
      clear E hR hc1 h0 hc
      go_wp2_with fail
      go_end0
      exact ⟨rfl, hL, hmw⟩
    · intro k1 k2 v w2 hx hR2 hm2 hen
      obtain ⟨p, hp, ep⟩ := List.mem_map.1 (hR.sub.subset hx)
      have hpl := (List.mem_filter.1 hp).1
      obtain ⟨q0, n0, c0, hv0⟩ := hs p hpl
      have hok := hm.ok _ (List.mem_map.2 ⟨p, hpl, rfl⟩)
      obtain ⟨⟨f, i, pp, m, a, t, s, e, r⟩, v0⟩ := p
      simp only at hv0
      subst hv0
      have ek : (k1, k2) = (f, i) := (congrArg Prod.fst ep).symm
      have ev : v = .agg #[.int .i64 f, .int .i64 i, .string pp, .int .i64 m, .slice q0 n0 c0, .int .i64 t, .int .i64 s, .int .i64 e, .bool r] := (congrArg Prod.snd ep).symm
      simp only [Prod.mk.injEq] at ek
      obtain ⟨rfl, rfl⟩ := ek
      subst ev
      have hmw2 := hmw.trans hm2 (U := [pm]) (fun _ x _ => x) (fun x hx hlt => by simp at hx; omega)
      have hc2 := hmw2.kept hc (by simp; exact hb)
      simp only [nameT] at hen
      have hlen : (delM lf (k1, k2)).length < lf.length := by
        unfold delM
        refine Nat.lt_of_le_of_ne (List.length_filter_le _ _) fun e => ?_
        have := List.length_filter_eq_length_iff.1 e _ hx
        simp at this
      have HR := hide hR2
      have HX := hide hx
      have HP := hide hpl
      clear hR hR2 hx hpl hp ep hc1
      have hc3 := (((Gr.refl w2).alloc (.cells #[.int .i64 k1, .int .i64 k2] 73)).alloc (objL k1 k2 pp m (.slice q0 n0 c0) t s e r)).kept hc2
      clear hc hc2 hmw hm2
      go_wp2_with fail
      refine (sweep1_any hc3 _ _ _ _ _ _ _ _ _ _ _).mono ?_
      rintro en w3 ⟨rfl, hg3⟩
      have hR3 := (HR.out.mod _ ((((Gr.refl w2).alloc (.cells #[.int .i64 k1, .int .i64 k2] 73)).alloc (objL k1 k2 pp m (.slice q0 n0 c0) t s e r)).trans hg3 |>.mod []) (by simp) (by simp))
      have hB := (hg3.mod []).at_ (blk_alloc (heap_alloc_new w2 (.cells #[.int .i64 k1, .int .i64 k2] 73)) (objL k1 k2 pp m (.slice q0 n0 c0) t s e r)) (by simp)
      have hC := blk_cell hB
      have hmw3 := hmw2.gr ((((Gr.refl w2).alloc (.cells #[.int .i64 k1, .int .i64 k2] 73)).alloc (objL k1 k2 pp m (.slice q0 n0 c0) t s e r)).trans hg3)
      clear hg3 HR hmw2 hc3 hen hB
      have hone : ∀ p, p ∈ lv → keyL p.1 = (k1, k2) → p = (⟨k1, k2, pp, m, a, t, s, e, r⟩, .slice q0 n0 c0) := by
        intro p hp hk
        have h1 := hm.one
        rw [List.pairwise_map] at h1
        by_cases q : p = (⟨k1, k2, pp, m, a, t, s, e, r⟩, .slice q0 n0 c0)
        · exact q
        · exact absurd hk (pair_ne h1 hp HP.out q)
      by_cases he : e ≤ now
      · have hd : decide (e ≤ now) = true := decide_eq_true he
        have E : delM ((stillL now lf lv).map ent) (k1, k2) = (stillL now (delM lf (k1, k2)) lv).map ent := by
          unfold delM stillL
          rw [List.filter_map, List.filter_filter]
          congr 1
          refine List.filter_congr fun p hp => ?_
          have hs := still_any (lf := lf) (k := keyL p.1) (x := (k1, k2))
          unfold delM at hs
          simp only [Function.comp, ent]
          rw [hs]
          by_cases hk : keyL p.1 = (k1, k2)
          · have hkp : keepP now p = false := by
              have := hone p hp hk
              rw [this]; simp [keepP, he]
            simp [hk, hkp]
          · simp [hk]
        have HE := hide E
        clear E
        go_wp2_with (
          at_delete
          refine wpList_delete_range_L (T := nameT) _ rfl _ _ rfl Tryz.underlying62 rfl hR3 (key := (k1, k2)) hok rfl ?_
          intro w4 q1 q2
          rw [HE.out] at q1
          have hmw4 := (hmw3.then ((Mod.refl [pm] w3).grown q2 (fun k e _ => by cases e; simp)))
          clear hR3 hC q2 hmw3)
        go_roundg (delM lf (k1, k2)).length
        case measure => rw [← hg]; exact hlen
        case rel => exact ⟨delM lf (k1, k2), rfl, by have := q1; rwa [delM_twice] at this, hmw4⟩
      · have hd : decide (e ≤ now) = false := decide_eq_false he
        have E : stillL now lf lv = stillL now (delM lf (k1, k2)) lv := by
          unfold stillL
          refine List.filter_congr fun p hp => ?_
          rw [still_any]
          by_cases hk : keyL p.1 = (k1, k2)
          · have hkp : keepP now p = true := by
              have := hone p hp hk
              rw [this]; simp [keepP]; omega
            simp [hkp]
          · simp [hk]
        have HE := hide E
        clear E hC
        go_wp2_with fail
        go_roundg (delM lf (k1, k2)).length
        case measure => rw [← hg]; exact hlen
        case rel => exact ⟨delM lf (k1, k2), rfl, by rw [← HE.out]; exact hR3, hmw3⟩
theorem Hd.swept {w w' : World} {ph pm : Nat} {fs : List Nat} {rho : Int} {l : List Lease} (h : Hd w ph pm fs rho l) {lv : List (Lease × Value)} (hp : (lv.map Prod.fst).Perm l) (hr : ∀ p, p ∈ lv → LsV w fs p) (now : Int)
    (hm : MapL nameT w' pm ((lv.filter (keepP now)).map ent)) (md : Mod [pm] w w') : Hd w' ph pm fs rho (sweepL now l) := by
  obtain ⟨o1, o2, o3⟩ := h.off
  refine ⟨⟨_, hm, ?_, fun p hp' => (hr p (List.mem_filter.1 hp').1).mod md (fun k hk => by simp; exact fun e => o1 (e ▸ hk))⟩, md.at_ h.blk (by simp; exact o3), ⟨o1, o2, o3⟩, fun k hk => Nat.lt_of_lt_of_le (h.lts k hk) md.size, sweepL_srt h.srt now, fun y hy => h.ok y (mem_sweepL.1 hy).1, h.rhoOk, Nat.le_trans (List.length_filter_le _ _) h.small⟩
  have e : (lv.filter (keepP now)).map Prod.fst = (lv.map Prod.fst).filter fun y => decide (now < y.expiry) := by
    rw [List.filter_map]
    rfl
  rw [e]
  exact hp.filter _
/-- what a sweep leaves -/
def Swept (w : World) (ph pm : Nat) (fs : List Nat) (rho : Int) (l : List Lease) (now : Int) (e : Ending) (w' : World) : Prop :=
  e = .returned (.int .i64 ((l.length : Int) - (sweepL now l).length)) ∧ Hd w' ph pm fs rho (sweepL now l) ∧ Mod [pm] w w'
theorem hsweep_nil (now : Int) (w : World) : Calls Tryz.prog 21 #[.pointer none, .int .i64 now] w fun e w' => e = .returned (.int .i64 0) ∧ Gr w w' := by
  have G := hide ((Gr.refl w).alloc (.cells #[.int .i64 now] 3))
  go_enter Tryz.func21, Tryz.ntmps21
  go_wp2
  go_ret
  exact ⟨rfl, G.out⟩
set_option maxHeartbeats 400000 in
theorem hsweep_any {w : World} {ph pm : Nat} {fs : List Nat} {rho : Int} {l : List Lease} (h : Hd w ph pm fs rho l) (now : Int) :
    Calls Tryz.prog 21 #[.pointer (some ⟨ph, 0, none⟩), .int .i64 now] w fun e w' => Swept w ph pm fs rho l now e w' := by
  have h1 := h.gr ((Gr.refl w).alloc (.cells #[.int .i64 now] 3))
  have m1 := ((Gr.refl w).alloc (.cells #[.int .i64 now] 3)).mod [pm]
  have hb := heap_alloc_new w (.cells #[.int .i64 now] 3)
  have hlt := h.lt
  obtain ⟨lv, hm, hp, hr⟩ := h1.rep
  have hlen : lv.length = l.length := by have := hp.length_eq; simpa using this
  have hsm := h.small
  have hc := h.cell1
  have hl1 := hlt.1
  have hne : w.heap.size ≠ pm := by omega
  have hcb := blk_cell hb 0
  have HS := hide (fun p hp => (hr p hp).rd.len)
  clear h hb hlt
  go_enter Tryz.func21, Tryz.ntmps21
  go_wp2_with (
    at_len
    refine wpList_len_L (T := nameT) _ rfl _ rfl Tryz.underlying62 rfl hm ?_)
  refine (mdel_any hm hcb hne (fun p hp => by obtain ⟨q, c, e⟩ := HS.out p hp; exact ⟨q, _, c, e⟩)).mono ?_
  rintro e w2 ⟨rfl, hm2, md2⟩
  have h2 := h1.swept hp hr now hm2 md2
  have hc2 := h2.cell1
  have hmd := m1.then md2
  have hle : (lv.filter (keepP now)).length ≤ lv.length := List.length_filter_le _ _
  have hlen2 : (lv.filter (keepP now)).length = (sweepL now l).length := by
    have e : (lv.filter (keepP now)).map Prod.fst = (lv.map Prod.fst).filter fun y => decide (now < y.expiry) := by
      rw [List.filter_map]
      rfl
    have := congrArg List.length e
    rw [List.length_map, ((hp.filter _).length_eq)] at this
    exact this
  have HL := hide hlen2
  have HL0 := hide hlen
  clear h1 m1 hm hr hp hc hl1 hne hcb HS md2 hlen hlen2
  go_wp2_with (
    at_len
    refine wpList_len_L (T := nameT) _ rfl _ rfl Tryz.underlying62 rfl hm2 ?_
    clear hm2 hc2)
  have e1 : wrap64 ((l.length : Int) - ((lv.filter (keepP now)).length : Int)) = (l.length : Int) - (sweepL now l).length := by
    have h3 := HL.out
    have h4 := HL0.out
    unfold wrap64
    omega
  go_ret
  exact ⟨by rw [← e1]; simp, h2, hmd⟩
end Go.Proofs.YtifllaeldcimgaaGreat
