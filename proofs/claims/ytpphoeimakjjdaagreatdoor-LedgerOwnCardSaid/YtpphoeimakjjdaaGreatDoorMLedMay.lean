/-
  LedW7 LedW8 LedW9 LedK LedSame LedRf7 LedRf8 LedMay: see the remarks below.
-/
import Derived.Test.YtpphoeimakjjdaaGreatDoorMWc
import Derived.Test.YtpphoeimakjjdaaGreatDoorMLedW6
import Derived.Test.YtpphoeimakjjdaaGreatDoorMLedC
import Derived.Test.YtpphoeimakjjdaaGreatDoorMCtr
/-
  WALKS: layer 12: Append. (Written by wip/gen_led7.py.)
-/
namespace Go.Proofs.YtpphoeimakjjdaaGreatDoor
open Go.RowKit Go.Shelf

theorem name_len (d : Dk) (g k : Nat) : (nameD d g k).2.secs.length = d.secs.length := write_len _ _ _
theorem comp_len (d : Dk) (l : Lg) : (compactD d l).2.1.secs.length = d.secs.length := by
  unfold compactD
  split
  · rfl
  split
  · rfl
  split
  · rfl
  simp only
  rw [lay_writes]
  split
  · exact writes_len _ _ _
  split
  · show (nameD _ _ _).2.secs.length = _
    rw [name_len, writes_len]
  · show (nameD _ _ _).2.secs.length = _
    rw [name_len, writes_len]
theorem comp_zero {d : Dk} {l : Lg} (hok : l.Ok) (h : (compactD d l).1 = 0) : ∃ gn ar sq us, (compactD d l).2.2 = ⟨gn, ar, sq, us, l.book, false⟩ ∧ 1 ≤ gn ∧ gn ≤ 1073741824 ∧ ar ≤ 1 ∧ sq ≤ us ∧ us ≤ 16 := by
  have hge := maxGen_ge (sideS d.secs (1 - l.area)) l.gen
  have hg1 := hok.gen1
  have hdw := dump_width hok.book
  have hsw := sumW_ge ((dumpB l.book).map encB)
  rw [List.length_map] at hsw
  unfold compactD at h ⊢
  by_cases h1 : l.dead = true
  · rw [if_pos h1] at h; cases h
  rw [if_neg h1] at h ⊢
  by_cases h2 : d.off = true
  · rw [if_pos h2] at h; cases h
  rw [if_neg h2] at h ⊢
  by_cases h3 : 1073741824 ≤ maxGen l.gen (sideS d.secs (1 - l.area))
  · rw [if_pos h3] at h; cases h
  rw [if_neg h3] at h ⊢
  simp only at h ⊢
  split at h
  · rename_i h4; exact absurd h h4
  rename_i h4
  split at h
  · rename_i h5; exact absurd h h5
  rename_i h5
  rw [if_neg h4, if_neg h5]
  have hdd : l.dead = false := by cases hx : l.dead <;> simp_all
  exact ⟨_, _, _, _, by rw [hdd], by omega, by omega, by omega, hsw, hdw⟩
def TG (pl gn ar sq us : Nat) (w : World) : Prop := w.cell? ⟨pl, 1, none⟩ = some (.int .i64 (gn : Int)) ∧ w.cell? ⟨pl, 2, none⟩ = some (.int .i64 (ar : Int)) ∧ w.cell? ⟨pl, 3, none⟩ = some (.int .i64 (sq : Int)) ∧ w.cell? ⟨pl, 4, none⟩ = some (.int .i64 (us : Int))
theorem LgM.tg {w : World} {pl pd bs : Nat} {gv : Value} {lv : List (Grt × Value)} {d : Dk} {l : Lg} (h : LgM w pl pd bs gv lv d l) : TG pl l.gen l.area l.seq l.used w := ⟨blk_cell h.blk 1, blk_cell h.blk 2, blk_cell h.blk 3, blk_cell h.blk 4⟩
/-- what Append leaves -/
def ApdTo (w : World) (pl pd bs : Nat) (gv0 : Value) (lv0 : List (Grt × Value)) (t : Int × Dk × Lg) (e : Ending) (w' : World) : Prop :=
  e = .returned (.int .i64 t.1) ∧ ∃ gv lv, LgM w' pl pd bs gv lv t.2.1 t.2.2 ∧ Mod [pl, pd, bs] w w' ∧ ((gv = gv0 ∧ lv = lv0) ∨ GrM w' w.heap.size gv lv)
set_option maxHeartbeats 8000000 in
set_option maxRecDepth 100000 in
theorem append_any {w : World} {pl pd bs : Nat} {gv : Value} {lv : List (Grt × Value)} {d : Dk} {l : Lg} (h : LgM w pl pd bs gv lv d l) (hok : l.Ok) (h49 : 49 ≤ d.secs.length) {r : Rcd} {sv tv : Value} (hs : RdN w sv r.grant.stamp) (ht : RdN w tv r.stamp) (hp : r.grant.path.size ≤ 9223372036854775807) :
    Calls Tryz.prog 16 #[.pointer (some ⟨pl, 0, none⟩), aggR r sv tv] w fun e w' => ApdTo w pl pd bs gv lv (appendD d l r) e w' := by
  have hlt := h.lt
  have hplw := lt_of_block h.blk
  obtain ⟨R, hR⟩ : ∃ R, appendD d l r = R := ⟨_, rfl⟩
  rw [hR]
  unfold appendD at hR
  have hsm := valid_small hok.book h.bk.eq
  have hap := fun (W : World) (m : Mod [] w W) {sv tv : Value} (ha : RdN W sv r.grant.stamp) (hb : RdN W tv r.stamp) => apply_any (b := l.book) (r := r) (BkM.mk (h.bk.gr.mod m (by simp)) h.bk.eq) (fun p hp => by have := (hsm.2 p hp).2; omega) ha hb hp
  have hav : (applyB l.book r).2 = 0 → mayB r = true := fun e => (apply_zero.1 e).2.1
  have hen0 := fun (W : World) {sv tv : Value} (ha : RdN W sv r.grant.stamp) (hb : RdN W tv r.stamp) => encode_any (w := W) (r := r) (sv := sv) (tv := tv) ha hb hp
  have hcp0 := fun (W : World) (m : Mod [] w W) => compact_any (h.quiet m) hok.book hok.area ⟨hok.gen1, hok.genM⟩ h49
  have hcz := comp_zero (d := d) hok
  have hcl := comp_len d l
  have hwd : (applyB l.book r).2 = 0 → widthN (encB r).length ≤ 2 ∧ (encB r).length ≤ 65 := fun e => ⟨(enc_width (hav e)).2, (enc_len (hav e)).2⟩
  obtain ⟨CT, hCT⟩ : ∃ t, compactD d l = t := ⟨_, rfl⟩
  obtain ⟨⟨⟨cn, cb, cl, cg⟩, ce⟩, hAp⟩ : ∃ t, applyB l.book r = t := ⟨_, rfl⟩
  obtain ⟨EB, hEB⟩ : ∃ t, encB r = t := ⟨_, rfl⟩
  obtain ⟨M, hM⟩ : ∃ t, mayB r = t := ⟨_, rfl⟩
  obtain ⟨nE, hnE⟩ : ∃ n, EB.length = n := ⟨_, rfl⟩
  obtain ⟨WE, hWE⟩ : ∃ n, widthN nE = n := ⟨_, rfl⟩
  rw [hCT, hAp, hEB, hnE, hWE] at hR
  rw [hEB, hM] at hen0
  rw [hM] at hav
  rw [hCT] at hcp0 hcz hcl
  rw [hAp] at hap hav hwd
  rw [hEB, hnE, hWE] at hwd
  obtain ⟨gn, ar, sq, us, ⟨bn, bb, bl, bg⟩, dd⟩ := l
  simp only at hR hav hcp0 hcz hcl hwd
  obtain ⟨k1, k2, k3, k4, k5, k6⟩ := hok
  simp only at k1 k2 k3 k4 k5 k6
  obtain ⟨gq, gc, hgv, -⟩ := h.bk.gr.shape
  subst hgv
  obtain ⟨p1, c1, hsv⟩ := hs.len
  obtain ⟨p2, c2, htv⟩ := ht.len
  obtain ⟨kd, ⟨gi, gh, gp, gm, gs, gt⟩, ri, rs, rn, rb, rl⟩ := r
  simp only at hs ht hsv htv hp
  obtain ⟨n1, hn1⟩ : ∃ n, gs.length = n := ⟨_, rfl⟩
  obtain ⟨n2, hn2⟩ : ∃ n, rs.length = n := ⟨_, rfl⟩
  rw [hn1] at hsv
  rw [hn2] at htv
  subst hsv htv
  have hwid := fun (W : World) (hx : nE ≤ 65) => width_any nE (by omega) W
  have HWD : Hid (widthN nE = WE) := hWE
  have HNE := hide hnE
  have HA := hide @hap
  have HE0 := hide @hen0
  have HCP := hide hcp0
  have HCZ := hide hcz
  have HR := hide hR
  have HH := hide (And.intro h hsm)
  obtain ⟨W7, hW7⟩ : ∃ W7, W7 = w.alloc (.cells #[.int .i64 kd, .int .i64 gi, .int .i64 gh, .string gp, .int .i64 gm, .slice p1 n1 c1, .int .i64 gt, .int .i64 ri, .slice p2 n2 c2, .int .i64 rn, .int .i64 rb, .int .i64 rl] 42 (0, 0)) := ⟨_, rfl⟩
  have hr7 : W7.heap[w.heap.size]? = some (.cells #[.int .i64 kd, .int .i64 gi, .int .i64 gh, .string gp, .int .i64 gm, .slice p1 n1 c1, .int .i64 gt, .int .i64 ri, .slice p2 n2 c2, .int .i64 rn, .int .i64 rb, .int .i64 rl] 42 (0, 0)) := by rw [hW7]; exact heap_alloc_new w _
  have hm7 : Mod [] w W7 := by rw [hW7]; exact (Mod.refl _ _).alloc _
  have hz7 : W7.heap.size = w.heap.size + 1 := by rw [hW7]; simp
  have HLow : Hid (pl < W7.heap.size ∧ w.heap.size < W7.heap.size) := hide (by omega)
  have hTV : TV pl w.heap.size #[.pointer (some ⟨pd, 0, none⟩), .int .i64 (gn : Int), .int .i64 (ar : Int), .int .i64 (sq : Int), .int .i64 (us : Int), .int .i64 bn, .int .i64 bb, .int .i64 bl, .slice gq lv.length gc, .bool dd] #[.int .i64 kd, .int .i64 gi, .int .i64 gh, .string gp, .int .i64 gm, .slice p1 n1 c1, .int .i64 gt, .int .i64 ri, .slice p2 n2 c2, .int .i64 rn, .int .i64 rb, .int .i64 rl] W7 := ⟨hm7.at_ h.blk (by simp), hr7⟩
  have HM7 := hide (And.intro (hs.mod hm7 (by simp)) (And.intro (ht.mod hm7 (by simp)) hm7))
  have hC9 : W7.cell? ⟨pl, 9, none⟩ = some (.bool dd) := blk_cell hTV.1 9
  clear hap hen0 hcp0 hcz hR h hsm hr7 hm7 hz7 hs ht hAp hCT hWE hnE hEB hM hn1 hn2 hp
  unfold aggR cellsR
  simp only
  cases dd with
  | true =>
    go_enter Tryz.func16, Tryz.ntmps16
    go_upto_region 3 with fail
    rw [← hW7]
    clear hW7
    go_wp2_with fail
    go_ret
    rw [← HR.out, if_pos (by simp)]
    exact ⟨rfl, _, _, HH.out.1.quiet HM7.out.2.2, HM7.out.2.2.mono (by simp), .inl ⟨rfl, rfl⟩⟩
  | false =>
  go_enter Tryz.func16, Tryz.ntmps16
  go_upto_region 3 with fail
  rw [← hW7]
  clear hW7
  go_upto_region 5 with fail
  go_cut [5, 6] (fun s5 s6 wx => ApR W7 (⟨cn, cb, cl, cg⟩, ce) s6 s5 wx)
  case first =>
    refine pB 11 (TV pl w.heap.size #[.pointer (some ⟨pd, 0, none⟩), .int .i64 (gn : Int), .int .i64 (ar : Int), .int .i64 (sq : Int), .int .i64 (us : Int), .int .i64 bn, .int .i64 bb, .int .i64 bl, .slice gq lv.length gc, .bool false] #[.int .i64 kd, .int .i64 gi, .int .i64 gh, .string gp, .int .i64 gm, .slice p1 n1 c1, .int .i64 gt, .int .i64 ri, .slice p2 n2 c2, .int .i64 rn, .int .i64 rb, .int .i64 rl]) (hTV.mod (Mod.refl [] W7).drew (by simp) (by simp)) ?_
    refine pP 0 ?_; refine pP 1 ?_; refine pP 2 ?_
    refine pT 3 rfl [11] (fun w hSw => by have C0 := blk_cell hSw.1; have C1 := blk_cell hSw.2; go_simp; try with_reducible rfl) ?_
    refine pT 4 rfl [11] (fun w hSw => by have C0 := blk_cell hSw.1; have C1 := blk_cell hSw.2; go_simp; try with_reducible rfl) ?_
    refine pX2 5 9 (fun hT K HK => ?_) (fun hT K HK => ?_)
    · skip
      refine step_call rfl 47 #[.tmp 23, .tmp 24] #[34, 42] rfl (enters_of Tryz.func47 (by kernel_rfl) rfl) #[aggB ⟨bn, bb, bl, bg⟩ (.slice gq lv.length gc), aggR ⟨kd, ⟨gi, gh, gp, gm, gs, gt⟩, ri, rs, rn, rb, rl⟩ (.slice p1 n1 c1) (.slice p2 n2 c2)] (by simp [Act.eval, aggB, aggR, cellsR]) ?_
      have hmX : Mod [] W7 W7.drew := (Mod.refl [] W7).drew
      refine (HA.out W7.drew (HM7.out.2.2.then hmX) (HM7.out.1.mod hmX (by simp)) (HM7.out.2.1.mod hmX (by simp))).mono ?_
      rintro e w8 ⟨gv8, lv8, rfl, hbk8, hm8⟩
      refine ⟨_, rfl, ?_⟩
      obtain ⟨q8, c8, hv8, -⟩ := hbk8.gr.shape
      subst hv8
      obtain ⟨n8, hn8⟩ : ∃ n, lv8.length = n := ⟨_, rfl⟩
      rw [hn8] at hbk8 ⊢
      simp only [aggB]
      have hT2 : TV pl w.heap.size #[.pointer (some ⟨pd, 0, none⟩), .int .i64 (gn : Int), .int .i64 (ar : Int), .int .i64 (sq : Int), .int .i64 (us : Int), .int .i64 bn, .int .i64 bb, .int .i64 bl, .slice gq lv.length gc, .bool false] #[.int .i64 kd, .int .i64 gi, .int .i64 gh, .string gp, .int .i64 gm, .slice p1 n1 c1, .int .i64 gt, .int .i64 ri, .slice p2 n2 c2, .int .i64 rn, .int .i64 rb, .int .i64 rl] w8 := hT.mod hm8 (by simp) (by simp)
      have H8 := hide (And.intro hbk8 hm8)
      clear hbk8 hm8 hmX hn8
      refine HK.out _ _ _ hT2 ?_
      clear HK K hT hT2
      refine pP 6 ?_; refine pP 7 ?_; refine pP 8 ?_
      refine pX 9 fun hT K HK => ?_
      go_simp
      obtain ⟨W9, hW9⟩ : ∃ W9, W9 = (w8.alloc (.cells #[.int .i64 0, .int .i64 0, .int .i64 0, .slice none 0 0] 34 (0, 0))) := ⟨_, rfl⟩
      have hk9 : W9.heap[w8.heap.size]? = some (.cells #[.int .i64 0, .int .i64 0, .int .i64 0, .slice none 0 0] 34 (0, 0)) := by rw [hW9]; exact heap_alloc_new _ _
      have hm9 : Mod [] w8 W9 := by rw [hW9]; exact ((Mod.refl _ _).alloc _)
      rw [← hW9]
      have hT2 : TV pl w.heap.size #[.pointer (some ⟨pd, 0, none⟩), .int .i64 (gn : Int), .int .i64 (ar : Int), .int .i64 (sq : Int), .int .i64 (us : Int), .int .i64 bn, .int .i64 bb, .int .i64 bl, .slice gq lv.length gc, .bool false] #[.int .i64 kd, .int .i64 gi, .int .i64 gh, .string gp, .int .i64 gm, .slice p1 n1 c1, .int .i64 gt, .int .i64 ri, .slice p2 n2 c2, .int .i64 rn, .int .i64 rb, .int .i64 rl] W9 := hT.mod hm9 (by simp) (by simp)
      have hz9 : W9.heap.size = w8.heap.size + 1 := by rw [hW9]; simp
      have H9 := hide (And.intro hk9 (And.intro hm9 hz9))
      clear hW9 hk9 hm9 hz9
      refine HK.out _ _ _ hT2 ?_
      clear HK K hT hT2
      refine pX 10 fun hT K HK => ?_
      have hkX := H9.out.1
      have C9 := blk_cell hkX
      have F9 := blk_free hkX
      go_simp
      obtain ⟨W10, hW10⟩ : ∃ W10, W10 = ((((W9.setCell ⟨w8.heap.size, 0, none⟩ (.int .i64 cn)).setCell ⟨w8.heap.size, 1, none⟩ (.int .i64 cb)).setCell ⟨w8.heap.size, 2, none⟩ (.int .i64 cl)).setCell ⟨w8.heap.size, 3, none⟩ (.slice q8 n8 c8)) := ⟨_, rfl⟩
      rw [← hW10]
      have hb10 : W10.heap[w8.heap.size]? = some (.cells #[.int .i64 cn, .int .i64 cb, .int .i64 cl, .slice q8 n8 c8] 34 (0, 0)) := by rw [hW10]; exact blk_set (blk_set (blk_set (blk_set hkX 0 _) 1 _) 2 _) 3 _
      have hm10 : Mod [w8.heap.size] W9 W10 := by rw [hW10]; exact ((((Mod.refl _ _).setCell (fun _ => by simp) _).setCell (fun _ => by simp) _).setCell (fun _ => by simp) _).setCell (fun _ => by simp) _
      have hlow := HLow.out
      have z8 := H8.out.2.size
      have z9 := H9.out.2.1.size
      have z9' := H9.out.2.2
      have zd : W7.drew.heap.size = W7.heap.size := rfl
      have hT2 : TV pl w.heap.size #[.pointer (some ⟨pd, 0, none⟩), .int .i64 (gn : Int), .int .i64 (ar : Int), .int .i64 (sq : Int), .int .i64 (us : Int), .int .i64 bn, .int .i64 bb, .int .i64 bl, .slice gq lv.length gc, .bool false] #[.int .i64 kd, .int .i64 gi, .int .i64 gh, .string gp, .int .i64 gm, .slice p1 n1 c1, .int .i64 gt, .int .i64 ri, .slice p2 n2 c2, .int .i64 rn, .int .i64 rb, .int .i64 rl] W10 := hT.mod hm10 (by simp; omega) (by simp; omega)
      have HA10 : Hid (ApR W7 (⟨cn, cb, cl, cg⟩, ce) (.int .i64 ce) (.pointer (some ⟨w8.heap.size, 0, none⟩)) W10) := hide ⟨w8.heap.size, q8, n8, c8, lv8, rfl, rfl, hb10, by omega, ⟨H8.out.1.gr.mod (mod_fresh H9.out.2.1 hm10 (by simp)) (by simp), H8.out.1.eq⟩, mod_fresh ((Mod.refl [] W7).drew.then (H8.out.2.then H9.out.2.1)) hm10 (by simp; omega)⟩
      clear hkX C9 F9 hW10 hb10 hm10 hlow z8 z9 z9' zd
      refine HK.out _ _ _ hT2 ?_
      clear HK K hT hT2
      refine pY 11 fun hT K HK => ?_
      go_simp
      refine HK.out _ _ _ ?_
      clear HK K hT
      refine pD ?_
      go_wp2_with fail
      go_meet
      case rel => exact HA10.out
    · skip
      go_simp
      obtain ⟨W9, hW9⟩ : ∃ W9, W9 = (W7.alloc (.cells #[.int .i64 0, .int .i64 0, .int .i64 0, .slice none 0 0] 34 (0, 0))).drew := ⟨_, rfl⟩
      have hk9 : W9.heap[W7.heap.size]? = some (.cells #[.int .i64 0, .int .i64 0, .int .i64 0, .slice none 0 0] 34 (0, 0)) := by rw [hW9]; exact heap_alloc_new _ _
      have hm9 : Mod [] W7 W9 := by rw [hW9]; exact ((Mod.refl _ _).alloc _).drew
      rw [← hW9]
      have hT2 : TV pl w.heap.size #[.pointer (some ⟨pd, 0, none⟩), .int .i64 (gn : Int), .int .i64 (ar : Int), .int .i64 (sq : Int), .int .i64 (us : Int), .int .i64 bn, .int .i64 bb, .int .i64 bl, .slice gq lv.length gc, .bool false] #[.int .i64 kd, .int .i64 gi, .int .i64 gh, .string gp, .int .i64 gm, .slice p1 n1 c1, .int .i64 gt, .int .i64 ri, .slice p2 n2 c2, .int .i64 rn, .int .i64 rb, .int .i64 rl] W9 := hTV.mod hm9 (by simp) (by simp)
      have hz9 : W9.heap.size = W7.heap.size + 1 := by rw [hW9]; simp
      have H9 := hide (And.intro hk9 (And.intro hm9 hz9))
      clear hW9 hk9 hm9 hz9
      refine HK.out _ _ _ hT2 ?_
      clear HK K hT hT2
      refine pX 5 fun hT K HK => ?_
      refine step_call rfl 47 #[.tmp 23, .tmp 24] #[34, 42] rfl (enters_of Tryz.func47 (by kernel_rfl) rfl) #[aggB ⟨bn, bb, bl, bg⟩ (.slice gq lv.length gc), aggR ⟨kd, ⟨gi, gh, gp, gm, gs, gt⟩, ri, rs, rn, rb, rl⟩ (.slice p1 n1 c1) (.slice p2 n2 c2)] (by simp [Act.eval, aggB, aggR, cellsR]) ?_
      have hmX : Mod [] W7 W9 := H9.out.2.1
      refine (HA.out W9 (HM7.out.2.2.then hmX) (HM7.out.1.mod hmX (by simp)) (HM7.out.2.1.mod hmX (by simp))).mono ?_
      rintro e w8 ⟨gv8, lv8, rfl, hbk8, hm8⟩
      refine ⟨_, rfl, ?_⟩
      obtain ⟨q8, c8, hv8, -⟩ := hbk8.gr.shape
      subst hv8
      obtain ⟨n8, hn8⟩ : ∃ n, lv8.length = n := ⟨_, rfl⟩
      rw [hn8] at hbk8 ⊢
      simp only [aggB]
      have hT2 : TV pl w.heap.size #[.pointer (some ⟨pd, 0, none⟩), .int .i64 (gn : Int), .int .i64 (ar : Int), .int .i64 (sq : Int), .int .i64 (us : Int), .int .i64 bn, .int .i64 bb, .int .i64 bl, .slice gq lv.length gc, .bool false] #[.int .i64 kd, .int .i64 gi, .int .i64 gh, .string gp, .int .i64 gm, .slice p1 n1 c1, .int .i64 gt, .int .i64 ri, .slice p2 n2 c2, .int .i64 rn, .int .i64 rb, .int .i64 rl] w8 := hT.mod hm8 (by simp) (by simp)
      have H8 := hide (And.intro hbk8 hm8)
      clear hbk8 hm8 hmX hn8
      refine HK.out _ _ _ hT2 ?_
      clear HK K hT hT2
      refine pP 6 ?_; refine pP 7 ?_; refine pP 8 ?_
      refine pX 10 fun hT K HK => ?_
      have hkX := (H8.out.2.at_ H9.out.1 (by simp))
      have C9 := blk_cell hkX
      have F9 := blk_free hkX
      go_simp
      obtain ⟨W10, hW10⟩ : ∃ W10, W10 = ((((w8.setCell ⟨W7.heap.size, 0, none⟩ (.int .i64 cn)).setCell ⟨W7.heap.size, 1, none⟩ (.int .i64 cb)).setCell ⟨W7.heap.size, 2, none⟩ (.int .i64 cl)).setCell ⟨W7.heap.size, 3, none⟩ (.slice q8 n8 c8)) := ⟨_, rfl⟩
      rw [← hW10]
      have hb10 : W10.heap[W7.heap.size]? = some (.cells #[.int .i64 cn, .int .i64 cb, .int .i64 cl, .slice q8 n8 c8] 34 (0, 0)) := by rw [hW10]; exact blk_set (blk_set (blk_set (blk_set hkX 0 _) 1 _) 2 _) 3 _
      have hm10 : Mod [W7.heap.size] w8 W10 := by rw [hW10]; exact ((((Mod.refl _ _).setCell (fun _ => by simp) _).setCell (fun _ => by simp) _).setCell (fun _ => by simp) _).setCell (fun _ => by simp) _
      have hlow := HLow.out
      have z8 := H8.out.2.size
      have z9 := H9.out.2.1.size
      have z9' := H9.out.2.2
      have zd : W7.drew.heap.size = W7.heap.size := rfl
      have hT2 : TV pl w.heap.size #[.pointer (some ⟨pd, 0, none⟩), .int .i64 (gn : Int), .int .i64 (ar : Int), .int .i64 (sq : Int), .int .i64 (us : Int), .int .i64 bn, .int .i64 bb, .int .i64 bl, .slice gq lv.length gc, .bool false] #[.int .i64 kd, .int .i64 gi, .int .i64 gh, .string gp, .int .i64 gm, .slice p1 n1 c1, .int .i64 gt, .int .i64 ri, .slice p2 n2 c2, .int .i64 rn, .int .i64 rb, .int .i64 rl] W10 := hT.mod hm10 (by simp; omega) (by simp; omega)
      have HA10 : Hid (ApR W7 (⟨cn, cb, cl, cg⟩, ce) (.int .i64 ce) (.pointer (some ⟨W7.heap.size, 0, none⟩)) W10) := hide ⟨W7.heap.size, q8, n8, c8, lv8, rfl, rfl, hb10, by omega, ⟨(H8.out.1.gr.mod hm10 (by simp; omega)).base (by omega), H8.out.1.eq⟩, mod_fresh (H9.out.2.1.then H8.out.2) hm10 (by simp)⟩
      clear hkX C9 F9 hW10 hb10 hm10 hlow z8 z9 z9' zd
      refine HK.out _ _ _ hT2 ?_
      clear HK K hT hT2
      refine pY 11 fun hT K HK => ?_
      go_simp
      refine HK.out _ _ _ ?_
      clear HK K hT
      refine pD ?_
      go_wp2_with fail
      go_meet
      case rel => exact HA10.out

  case rest =>
  obtain ⟨bx, q8, n8, c8, lv8, rfl, rfl, hbx, hbxs, hbk8, hm8⟩ := hcut
  simp only at hbx hbk8
  obtain ⟨W8, rfl⟩ : ∃ W8 : World, W8 = wc := ⟨_, rfl⟩
  have hm78 : Mod [] w W8 := HM7.out.2.2.then hm8
  have hlow := HLow.out
  have hz78 := hm78.size
  by_cases hce : ce = 0
  · subst hce
    have hMt := hav rfl
    subst hMt
    obtain ⟨hw1, hw2⟩ := hwd rfl
    have hTV8 := hTV.mod hm8 (by simp) (by simp)
    have D8 := blk_cell hTV8.2
    have hen := (HE0.out W8 (HM7.out.1.mod hm8 (by simp)) (HM7.out.2.1.mod hm8 (by simp))).mono (R' := fun e w' => ∃ p c, e = .returned (.tuple #[.slice p nE c, .int .i64 0]) ∧ RowY w' W8.heap.size (.slice p nE c) EB ∧ Mod [] W8 w') (fun e w' hx => by
      rcases hx with ⟨h0, _⟩ | ⟨_, h1⟩
      · cases h0
      · rw [HNE.out] at h1; exact h1)
    unfold aggR cellsR at hen
    simp only at hen
    have HB8 := hide (And.intro hbx (And.intro hbk8 (And.intro hm78 hbxs)))
    clear hbx hbk8 hm78 hm8 hTV hTV8 hC9 HE0 hav hwd
    go_upto_region 9 with (go_at_call 48; refine hen.mono ?_; rintro e w9 ⟨p9, c9, rfl, hr9, hm9⟩
                           have H9 := hide (And.intro hr9 (HB8.out.2.2.1.then hm9))
                           have HX9 := hide hm9
                           clear hr9 hm9 hen)
    clear D8
    have hp12 : w9.heap[pl]? = some (.cells #[.pointer (some ⟨pd, 0, none⟩), .int .i64 (gn : Int), .int .i64 (ar : Int), .int .i64 (sq : Int), .int .i64 (us : Int), .int .i64 bn, .int .i64 bb, .int .i64 bl, .slice gq lv.length gc, .bool false] 80 (0, 0)) := H9.out.2.at_ HH.out.1.blk (by simp)
    have hwu0 : IntKind.i64.wrap ((us : Int) + (WE : Int)) = (us : Int) + (WE : Int) := by rw [IntKind.wrap_i64]; omega
    by_cases hov : 24 < us + WE
    · have hov2 : (24 : Int) < (us : Int) + (WE : Int) := by omega
      refine pB 8 (TS pl #[.pointer (some ⟨pd, 0, none⟩), .int .i64 (gn : Int), .int .i64 (ar : Int), .int .i64 (sq : Int), .int .i64 (us : Int), .int .i64 bn, .int .i64 bb, .int .i64 bl, .slice gq lv.length gc, .bool false]) ((Mod.refl [] w9).drew.at_ hp12 (by simp)) ?_
      refine pP 0 ?_; refine pP 1 ?_; refine pP 2 ?_
      refine pT 3 rfl [7, 8] (fun w hSw => by have C0 := blk_cell hSw; go_simp; try with_reducible rfl) ?_
      refine pP 4 ?_; refine pP 5 ?_
      refine pX 6 fun hT K HK => ?_
      refine step_call rfl 49 #[.tmp 41] #[3] rfl (enters_of Tryz.func49 (by kernel_rfl) rfl) #[.int .i64 (nE : Int)] (by simp [Act.eval]) ?_
      refine (hwid _ hw2).mono ?_
      rintro e wz ⟨rfl, hwz⟩
      rw [hwz]
      refine ⟨_, rfl, ?_⟩
      rw [HWD.out]
      have hT2 : TS pl #[.pointer (some ⟨pd, 0, none⟩), .int .i64 (gn : Int), .int .i64 (ar : Int), .int .i64 (sq : Int), .int .i64 (us : Int), .int .i64 bn, .int .i64 bb, .int .i64 bl, .slice gq lv.length gc, .bool false] w9.drew := hT
      clear hwz
      refine HK.out _ _ _ hT2 ?_
      clear HK K hT hT2
      refine pP 7 ?_
      refine pY 8 fun hT K HK => ?_
      go_simp
      refine HK.out _ _ _ ?_
      clear HK K hT
      refine pD ?_
      clear hp12
      obtain ⟨CE, Cd, Cl⟩ := CT
      simp only at hcl
      have hcp := HCP.out w9.drew H9.out.2.drew
      by_cases hce : CE = 0
      · subst hce
        obtain ⟨gn1, ar1, sq1, us1, hCl, j1, j2, j3, j4, j5⟩ := HCZ.out rfl
        simp only at hCl
        subst hCl
        go_upto_region 13 with (go_at_call 21; refine hcp.mono ?_; rintro e wB ⟨rfl, hlgB, hmB⟩
                                have HB := hide (And.intro hlgB (And.intro ((H9.out.2.drew.mono (by simp)).then hmB) (And.intro (HX9.out.drew) hmB)))
                                clear hlgB hmB hcp)
        have HQ : Hid (R = addD Cd ⟨gn1, ar1, sq1, us1, ⟨bn, bb, bl, bg⟩, false⟩ ⟨cn, cb, cl, cg⟩ EB) := hide (by
          rw [← HR.out, if_neg (by simp), if_neg (by simp), if_pos hov, if_neg (by simp)])
        have hD49 : 49 ≤ Cd.secs.length := by omega
        have hfit : us1 + WE ≤ 24 := by omega
        have hbxB : wB.heap[bx]? = some (.cells #[.int .i64 cn, .int .i64 cb, .int .i64 cl, .slice q8 n8 c8] 34 (0, 0)) := (HB.out.2.2.2).at_ ((HB.out.2.2.1).at_ HB8.out.1 (by simp)) (by simp; omega)
        have hrow : RowY wB W8.heap.size (.slice p9 nE c9) EB := H9.out.1.mod ((Mod.refl [pl, pd, bs] w9).drew.then HB.out.2.2.2) (fun x hx e => by have := (H9.out.1.blk x hx).1; simp at e; omega)
        obtain ⟨F1, hF1⟩ : ∃ F, 1 + ar1 * 24 = F := ⟨_, rfl⟩
        have hFle : F1 ≤ 25 := by omega
        have hput0 := fun (W : World) (m : Mod [] wB W) => lput_any (HB.out.1.quiet m) (F1 + us1) gn1 sq1 (hrow.mod m (by simp)).rd (by omega) (by omega) (by rw [HNE.out]; omega) (fun k hk => Nat.lt_of_lt_of_le (hrow.blk k hk).2 m.size) (by omega)
        have herr0 := writes_err Cd (F1 + us1) (packL gn1 sq1 EB) (by rw [packL_len, HNE.out, HWD.out]; omega) pack_64
        have herr : (putD Cd (F1 + us1) gn1 sq1 EB).1 = 0 ∨ (putD Cd (F1 + us1) gn1 sq1 EB).1 = 40 := herr0
        have hQ2 := HQ.out
        unfold addD at hQ2
        simp only at hQ2
        rw [hF1] at hQ2
        obtain ⟨⟨te, td⟩, hPt⟩ : ∃ t, putD Cd (F1 + us1) gn1 sq1 EB = t := ⟨_, rfl⟩
        rw [hPt] at hput0 herr hQ2
        simp only at herr hQ2
        rw [HNE.out, HWD.out] at hQ2
        have HPut := hide hput0
        have HF1 := hide hF1
        have HQ2 := hide hQ2
        have HErr := hide herr
        have hwf : IntKind.i64.wrap ((F1 : Int) + (us1 : Int)) = (F1 : Int) + (us1 : Int) := by rw [IntKind.wrap_i64]; omega
        have hwu : IntKind.i64.wrap ((us1 : Int) + (WE : Int)) = (us1 : Int) + (WE : Int) := by rw [IntKind.wrap_i64]; omega
        have hws : IntKind.i64.wrap ((sq1 : Int) + 1) = (sq1 : Int) + 1 := by rw [IntKind.wrap_i64]; omega
        have HBX := hide hbxB
        clear hrow hput0 herr0 herr hQ2 hPt hF1 HQ hbxB
        refine pB 21 (TG pl gn1 ar1 sq1 us1) (((HB.out.1).quiet (Mod.refl [] wB).drew).tg) ?_
        refine pP 0 ?_; refine pP 1 ?_; refine pP 2 ?_; refine pP 3 ?_
        refine pT 4 rfl [21] (fun w hSw => by have C1 := hSw.1; have C2 := hSw.2.1; have C3 := hSw.2.2.1; have C4 := hSw.2.2.2; go_simp; try with_reducible rfl) ?_
        refine pP 6 ?_; refine pP 7 ?_; refine pP 8 ?_
        refine pT 9 rfl [21] (fun w hSw => by have C1 := hSw.1; have C2 := hSw.2.1; have C3 := hSw.2.2.1; have C4 := hSw.2.2.2; go_simp; try with_reducible rfl) ?_
        refine pP 11 ?_; refine pP 12 ?_; refine pP 13 ?_
        refine pT 14 rfl [21] (fun w hSw => by have C1 := hSw.1; have C2 := hSw.2.1; have C3 := hSw.2.2.1; have C4 := hSw.2.2.2; go_simp; try with_reducible rfl) ?_
        refine pP 15 ?_; refine pP 16 ?_; refine pP 17 ?_
        refine pT 18 rfl [21] (fun w hSw => by have C1 := hSw.1; have C2 := hSw.2.1; have C3 := hSw.2.2.1; have C4 := hSw.2.2.2; go_simp; try with_reducible rfl) ?_
        refine pP 19 ?_
        refine pX 5 fun hT K HK => ?_
        refine step_call rfl 51 #[.tmp 54] #[3] rfl (enters_of Tryz.func51 (by kernel_rfl) rfl) #[.int .i64 (ar1 : Int)] (by simp [Act.eval]) ?_
        refine (first_any ar1 (by omega) _).mono ?_
        rintro e wz ⟨rfl, hwz⟩
        rw [hwz]
        refine ⟨_, rfl, ?_⟩
        rw [HF1.out]
        have hT2 : TG pl gn1 ar1 sq1 us1 wB.drew := hT
        clear hwz
        refine HK.out _ _ _ hT2 ?_
        clear HK K hT hT2
        refine pP 10 ?_
        refine pX 20 fun hT K HK => ?_
        refine step_call rfl 50 #[.tmp 50, .tmp 60, .tmp 64, .tmp 68, .tmp 69] #[26, 3, 3, 3, 71] rfl (enters_of Tryz.func50 (by kernel_rfl) rfl) #[.pointer (some ⟨pl, 0, none⟩), .int .i64 ((F1 : Int) + (us1 : Int)), .int .i64 (gn1 : Int), .int .i64 (sq1 : Int), .slice p9 nE c9] (by simp [Act.eval]) ?_
        refine (HPut.out _ (Mod.refl [] wB).drew).mono ?_
        rintro e w10 ⟨rfl, hlg10, hm10⟩
        refine ⟨_, rfl, ?_⟩
        have hT2 : TG pl gn1 ar1 sq1 us1 w10 := by
          by_cases h4 : te = 40
          · rw [if_pos h4] at hlg10; exact hlg10.tg
          · rw [if_neg h4] at hlg10; exact hlg10.tg
        have H10 := hide (And.intro hlg10 ((Mod.refl [pl, pd, bs] wB).drew.then hm10))
        clear hlg10 hm10
        refine HK.out _ _ _ hT2 ?_
        clear HK K hT hT2
        refine pY 21 fun hT K HK => ?_
        go_simp
        refine HK.out _ _ _ ?_
        clear HK K hT
        refine pD ?_
        rcases HErr.out with hte | hte
        · subst hte
          have hlg10 : LgM w10 pl pd bs (.slice gq lv.length gc) lv td ⟨gn1, ar1, sq1, us1, ⟨bn, bb, bl, bg⟩, false⟩ := by simpa using H10.out.1
          have C10 := blk_cell hlg10.blk
          have F10 := blk_free hlg10.blk
          unfold lgCells at C10
          have HL10 := hide hlg10
          clear hlg10
          go_upto_region 17 with fail
          obtain ⟨W12, hW12⟩ : ∃ W12, W12 = w10.setCell ⟨pl, 3, none⟩ (.int .i64 ((sq1 : Int) + 1)) := ⟨_, rfl⟩
          rw [← hW12]
          have hp12 : W12.heap[pl]? = some (.cells #[.pointer (some ⟨pd, 0, none⟩), .int .i64 (gn1 : Int), .int .i64 (ar1 : Int), .int .i64 ((sq1 : Int) + 1), .int .i64 (us1 : Int), .int .i64 bn, .int .i64 bb, .int .i64 bl, .slice gq lv.length gc, .bool false] 80 (0, 0)) := by rw [hW12]; exact blk_set HL10.out.blk 3 _
          have hm12 : Mod [pl] w10 W12 := by rw [hW12]; exact (Mod.refl _ _).setCell (fun _ => by simp) _
          clear C10 F10 hW12
          refine pB 10 (TS pl #[.pointer (some ⟨pd, 0, none⟩), .int .i64 (gn1 : Int), .int .i64 (ar1 : Int), .int .i64 ((sq1 : Int) + 1), .int .i64 (us1 : Int), .int .i64 bn, .int .i64 bb, .int .i64 bl, .slice gq lv.length gc, .bool false]) ((Mod.refl [] W12).drew.at_ hp12 (by simp)) ?_
          refine pP 0 ?_; refine pP 1 ?_; refine pP 2 ?_
          refine pT 3 rfl [10] (fun w hSw => by have C0 := blk_cell hSw; go_simp; try with_reducible rfl) ?_
          refine pP 4 ?_; refine pP 5 ?_
          refine pX 6 fun hT K HK => ?_
          refine step_call rfl 49 #[.tmp 86] #[3] rfl (enters_of Tryz.func49 (by kernel_rfl) rfl) #[.int .i64 (nE : Int)] (by simp [Act.eval]) ?_
          refine (width_any nE (by omega) _).mono ?_
          rintro e wz ⟨rfl, hwz⟩
          rw [hwz]
          refine ⟨_, rfl, ?_⟩
          rw [HWD.out]
          have hT2 : TS pl #[.pointer (some ⟨pd, 0, none⟩), .int .i64 (gn1 : Int), .int .i64 (ar1 : Int), .int .i64 ((sq1 : Int) + 1), .int .i64 (us1 : Int), .int .i64 bn, .int .i64 bb, .int .i64 bl, .slice gq lv.length gc, .bool false] W12.drew := hT
          clear hwz
          refine HK.out _ _ _ hT2 ?_
          clear HK K hT hT2
          refine pP 7 ?_; refine pP 8 ?_; refine pP 9 ?_
          refine pY 10 fun hT K HK => ?_
          have C3 := blk_cell (w := W12) hp12
          have F3 := blk_free (w := W12) hp12
          go_simp
          clear C3 F3
          refine HK.out _ _ _ ?_
          clear HK K hT
          refine pD ?_
          obtain ⟨W13, hW13⟩ : ∃ W13, W13 = W12.setCell ⟨pl, 4, none⟩ (.int .i64 ((us1 : Int) + (WE : Int))) := ⟨_, rfl⟩
          have hp13 : W13.heap[pl]? = some (.cells #[.pointer (some ⟨pd, 0, none⟩), .int .i64 (gn1 : Int), .int .i64 (ar1 : Int), .int .i64 ((sq1 : Int) + 1), .int .i64 ((us1 : Int) + (WE : Int)), .int .i64 bn, .int .i64 bb, .int .i64 bl, .slice gq lv.length gc, .bool false] 80 (0, 0)) := by rw [hW13]; exact blk_set hp12 4 _
          have hm13 : Mod [pl] w10 W13 := by rw [hW13]; exact hm12.setCell (fun _ => by simp) _
          rw [← hW13]
          have hbx13 : W13.heap[bx]? = some (.cells #[.int .i64 cn, .int .i64 cb, .int .i64 cl, .slice q8 n8 c8] 34 (0, 0)) := hm13.at_ (H10.out.2.at_ HBX.out (by have := HB8.out.2.2.2; simp; omega)) (by have := HB8.out.2.2.2; simp; omega)
          have C13 := blk_cell (w := W13) hp13
          have F13 := blk_free (w := W13) hp13
          have Cbx := blk_cell (w := W13) hbx13
          have hnbx : bx ≠ pl := by have := HB8.out.2.2.2; omega
          have HM13 := hide (And.intro hp13 hm13)
          clear hp12 hm12 hW13 hp13 hm13 hbx13
          go_wp2_with fail
          go_ret
          obtain ⟨hp13, hm13⟩ := HM13.out
          obtain ⟨W14, hW14⟩ : ∃ W14, W14 = (((W13.setCell ⟨pl, 5, none⟩ (.int .i64 cn)).setCell ⟨pl, 6, none⟩ (.int .i64 cb)).setCell ⟨pl, 7, none⟩ (.int .i64 cl)).setCell ⟨pl, 8, none⟩ (.slice q8 n8 c8) := ⟨_, rfl⟩
          rw [← hW14]
          have hb14 : W14.heap[pl]? = some (.cells #[.pointer (some ⟨pd, 0, none⟩), .int .i64 (gn1 : Int), .int .i64 (ar1 : Int), .int .i64 ((sq1 : Int) + 1), .int .i64 ((us1 : Int) + (WE : Int)), .int .i64 cn, .int .i64 cb, .int .i64 cl, .slice q8 n8 c8, .bool false] 80 (0, 0)) := by rw [hW14]; exact blk_set (blk_set (blk_set (blk_set (w := W13) hp13 5 _) 6 _) 7 _) 8 _
          have hm14 : Mod [pl] w10 W14 := by rw [hW14]; exact (((hm13.setCell (fun _ => by simp) _).setCell (fun _ => by simp) _).setCell (fun _ => by simp) _).setCell (fun _ => by simp) _
          have hm14 := hm14.drew
          have hb14 : W14.drew.heap[pl]? = _ := hb14
          have hz1 := HM7.out.2.2.size
          have hmB14 : Mod [pl, pd, bs] wB W14.drew := H10.out.2.then (hm14.mono (T := [pl, pd, bs]) (by simp))
          have hm814 : Mod [pl, pd, bs] W8 W14.drew := ((HX9.out.mono (by simp)).then ((Mod.refl [pl, pd, bs] w9).drew.then HB.out.2.2.2)).then hmB14
          have hq := HQ2.out
          rw [if_neg (by simp)] at hq
          rw [hq]
          refine ⟨rfl, .slice q8 n8 c8, lv8, ?_, HB.out.2.1.then hmB14, .inr ((HB8.out.2.1.gr.mod hm814 (fun k hk => by simp at hk; omega)).base (by omega))⟩
          exact HL10.out.cells (l' := ⟨gn1, ar1, sq1 + 1, us1 + WE, ⟨cn, cb, cl, cg⟩, false⟩) (by rw [show lgCells pd (.slice q8 n8 c8) ⟨gn1, ar1, sq1 + 1, us1 + WE, ⟨cn, cb, cl, cg⟩, false⟩ = #[.pointer (some ⟨pd, 0, none⟩), .int .i64 (gn1 : Int), .int .i64 (ar1 : Int), .int .i64 ((sq1 : Int) + 1), .int .i64 ((us1 : Int) + (WE : Int)), .int .i64 cn, .int .i64 cb, .int .i64 cl, .slice q8 n8 c8, .bool false] from by simp [lgCells]]; exact hb14) hm14 ⟨(HB8.out.2.1.gr.mod hm814 (fun k hk => by simp at hk; omega)).base (by omega), HB8.out.2.1.eq⟩
        · subst hte
          have hlg10 : LgM w10 pl pd bs (.slice gq lv.length gc) lv td (deadL ⟨gn1, ar1, sq1, us1, ⟨bn, bb, bl, bg⟩, false⟩) := by simpa using H10.out.1
          have HL10 := hide hlg10
          clear hlg10
          go_wp2_with fail
          go_ret
          have hq := HQ2.out
          rw [if_pos (by simp)] at hq
          rw [hq]
          exact ⟨rfl, _, _, HL10.out, HB.out.2.1.then H10.out.2, .inl ⟨rfl, rfl⟩⟩

      · have hcb : (CE != 0) = true := by simpa using hce
        go_wp2_with (go_at_call 21; refine hcp.mono ?_; rintro e wB ⟨rfl, hlgB, hmB⟩
                     have HB := hide (And.intro hlgB ((H9.out.2.drew.mono (by simp)).then hmB))
                     clear hlgB hmB hcp)
        go_ret
        rw [← HR.out, if_neg (by simp), if_neg (by simp), if_pos hov, if_pos hce]
        exact ⟨rfl, _, _, HB.out.1, HB.out.2, .inl ⟨rfl, rfl⟩⟩
    · have hov2 : ¬ (24 : Int) < (us : Int) + (WE : Int) := by omega
      refine pB 8 (TS pl #[.pointer (some ⟨pd, 0, none⟩), .int .i64 (gn : Int), .int .i64 (ar : Int), .int .i64 (sq : Int), .int .i64 (us : Int), .int .i64 bn, .int .i64 bb, .int .i64 bl, .slice gq lv.length gc, .bool false]) ((Mod.refl [] w9).drew.at_ hp12 (by simp)) ?_
      refine pP 0 ?_; refine pP 1 ?_; refine pP 2 ?_
      refine pT 3 rfl [7, 8] (fun w hSw => by have C0 := blk_cell hSw; go_simp; try with_reducible rfl) ?_
      refine pP 4 ?_; refine pP 5 ?_
      refine pX 6 fun hT K HK => ?_
      refine step_call rfl 49 #[.tmp 41] #[3] rfl (enters_of Tryz.func49 (by kernel_rfl) rfl) #[.int .i64 (nE : Int)] (by simp [Act.eval]) ?_
      refine (hwid _ hw2).mono ?_
      rintro e wz ⟨rfl, hwz⟩
      rw [hwz]
      refine ⟨_, rfl, ?_⟩
      rw [HWD.out]
      have hT2 : TS pl #[.pointer (some ⟨pd, 0, none⟩), .int .i64 (gn : Int), .int .i64 (ar : Int), .int .i64 (sq : Int), .int .i64 (us : Int), .int .i64 bn, .int .i64 bb, .int .i64 bl, .slice gq lv.length gc, .bool false] w9.drew := hT
      clear hwz
      refine HK.out _ _ _ hT2 ?_
      clear HK K hT hT2
      refine pP 7 ?_
      refine pY 8 fun hT K HK => ?_
      go_simp
      refine HK.out _ _ _ ?_
      clear HK K hT
      refine pD ?_
      clear hp12 HCP HCZ hcl
      obtain ⟨wB, hwB⟩ : ∃ wB, wB = w9.drew := ⟨_, rfl⟩
      have HB : Hid (LgM wB pl pd bs (.slice gq lv.length gc) lv d ⟨gn, ar, sq, us, ⟨bn, bb, bl, bg⟩, false⟩ ∧ Mod [pl, pd, bs] w wB ∧ Mod [] W8 wB ∧ Mod [pl, pd, bs] w9.drew wB) := hide (by
        rw [hwB]
        exact ⟨HH.out.1.quiet H9.out.2.drew, H9.out.2.drew.mono (by simp), HX9.out.drew, Mod.refl _ _⟩)
      rw [← hwB]
      have HQ : Hid (R = addD d ⟨gn, ar, sq, us, ⟨bn, bb, bl, bg⟩, false⟩ ⟨cn, cb, cl, cg⟩ EB) := hide (by
        rw [← HR.out, if_neg (by simp), if_neg (by simp), if_neg hov])
      have hfit : us + WE ≤ 24 := by omega
      have hbxB : wB.heap[bx]? = some (.cells #[.int .i64 cn, .int .i64 cb, .int .i64 cl, .slice q8 n8 c8] 34 (0, 0)) := (HB.out.2.2.1).at_ HB8.out.1 (by simp)
      clear hwB
      go_upto_region 13 with fail
      have hrow : RowY wB W8.heap.size (.slice p9 nE c9) EB := H9.out.1.mod ((Mod.refl [pl, pd, bs] w9).drew.then HB.out.2.2.2) (fun x hx e => by have := (H9.out.1.blk x hx).1; simp at e; omega)
      obtain ⟨F1, hF1⟩ : ∃ F, 1 + ar * 24 = F := ⟨_, rfl⟩
      have hFle : F1 ≤ 25 := by omega
      have hput0 := fun (W : World) (m : Mod [] wB W) => lput_any (HB.out.1.quiet m) (F1 + us) gn sq (hrow.mod m (by simp)).rd (by omega) (by omega) (by rw [HNE.out]; omega) (fun k hk => Nat.lt_of_lt_of_le (hrow.blk k hk).2 m.size) (by omega)
      have herr0 := writes_err d (F1 + us) (packL gn sq EB) (by rw [packL_len, HNE.out, HWD.out]; omega) pack_64
      have herr : (putD d (F1 + us) gn sq EB).1 = 0 ∨ (putD d (F1 + us) gn sq EB).1 = 40 := herr0
      have hQ2 := HQ.out
      unfold addD at hQ2
      simp only at hQ2
      rw [hF1] at hQ2
      obtain ⟨⟨te, td⟩, hPt⟩ : ∃ t, putD d (F1 + us) gn sq EB = t := ⟨_, rfl⟩
      rw [hPt] at hput0 herr hQ2
      simp only at herr hQ2
      rw [HNE.out, HWD.out] at hQ2
      have HPut := hide hput0
      have HF1 := hide hF1
      have HQ2 := hide hQ2
      have HErr := hide herr
      have hwf : IntKind.i64.wrap ((F1 : Int) + (us : Int)) = (F1 : Int) + (us : Int) := by rw [IntKind.wrap_i64]; omega
      have hwu : IntKind.i64.wrap ((us : Int) + (WE : Int)) = (us : Int) + (WE : Int) := by rw [IntKind.wrap_i64]; omega
      have hws : IntKind.i64.wrap ((sq : Int) + 1) = (sq : Int) + 1 := by rw [IntKind.wrap_i64]; omega
      have HBX := hide hbxB
      clear hrow hput0 herr0 herr hQ2 hPt hF1 HQ hbxB
      refine pB 21 (TG pl gn ar sq us) (((HB.out.1).quiet (Mod.refl [] wB).drew).tg) ?_
      refine pP 0 ?_; refine pP 1 ?_; refine pP 2 ?_; refine pP 3 ?_
      refine pT 4 rfl [21] (fun w hSw => by have C1 := hSw.1; have C2 := hSw.2.1; have C3 := hSw.2.2.1; have C4 := hSw.2.2.2; go_simp; try with_reducible rfl) ?_
      refine pP 6 ?_; refine pP 7 ?_; refine pP 8 ?_
      refine pT 9 rfl [21] (fun w hSw => by have C1 := hSw.1; have C2 := hSw.2.1; have C3 := hSw.2.2.1; have C4 := hSw.2.2.2; go_simp; try with_reducible rfl) ?_
      refine pP 11 ?_; refine pP 12 ?_; refine pP 13 ?_
      refine pT 14 rfl [21] (fun w hSw => by have C1 := hSw.1; have C2 := hSw.2.1; have C3 := hSw.2.2.1; have C4 := hSw.2.2.2; go_simp; try with_reducible rfl) ?_
      refine pP 15 ?_; refine pP 16 ?_; refine pP 17 ?_
      refine pT 18 rfl [21] (fun w hSw => by have C1 := hSw.1; have C2 := hSw.2.1; have C3 := hSw.2.2.1; have C4 := hSw.2.2.2; go_simp; try with_reducible rfl) ?_
      refine pP 19 ?_
      refine pX 5 fun hT K HK => ?_
      refine step_call rfl 51 #[.tmp 54] #[3] rfl (enters_of Tryz.func51 (by kernel_rfl) rfl) #[.int .i64 (ar : Int)] (by simp [Act.eval]) ?_
      refine (first_any ar (by omega) _).mono ?_
      rintro e wz ⟨rfl, hwz⟩
      rw [hwz]
      refine ⟨_, rfl, ?_⟩
      rw [HF1.out]
      have hT2 : TG pl gn ar sq us wB.drew := hT
      clear hwz
      refine HK.out _ _ _ hT2 ?_
      clear HK K hT hT2
      refine pP 10 ?_
      refine pX 20 fun hT K HK => ?_
      refine step_call rfl 50 #[.tmp 50, .tmp 60, .tmp 64, .tmp 68, .tmp 69] #[26, 3, 3, 3, 71] rfl (enters_of Tryz.func50 (by kernel_rfl) rfl) #[.pointer (some ⟨pl, 0, none⟩), .int .i64 ((F1 : Int) + (us : Int)), .int .i64 (gn : Int), .int .i64 (sq : Int), .slice p9 nE c9] (by simp [Act.eval]) ?_
      refine (HPut.out _ (Mod.refl [] wB).drew).mono ?_
      rintro e w10 ⟨rfl, hlg10, hm10⟩
      refine ⟨_, rfl, ?_⟩
      have hT2 : TG pl gn ar sq us w10 := by
        by_cases h4 : te = 40
        · rw [if_pos h4] at hlg10; exact hlg10.tg
        · rw [if_neg h4] at hlg10; exact hlg10.tg
      have H10 := hide (And.intro hlg10 ((Mod.refl [pl, pd, bs] wB).drew.then hm10))
      clear hlg10 hm10
      refine HK.out _ _ _ hT2 ?_
      clear HK K hT hT2
      refine pY 21 fun hT K HK => ?_
      go_simp
      refine HK.out _ _ _ ?_
      clear HK K hT
      refine pD ?_
      rcases HErr.out with hte | hte
      · subst hte
        have hlg10 : LgM w10 pl pd bs (.slice gq lv.length gc) lv td ⟨gn, ar, sq, us, ⟨bn, bb, bl, bg⟩, false⟩ := by simpa using H10.out.1
        have C10 := blk_cell hlg10.blk
        have F10 := blk_free hlg10.blk
        unfold lgCells at C10
        have HL10 := hide hlg10
        clear hlg10
        go_upto_region 17 with fail
        obtain ⟨W12, hW12⟩ : ∃ W12, W12 = w10.setCell ⟨pl, 3, none⟩ (.int .i64 ((sq : Int) + 1)) := ⟨_, rfl⟩
        rw [← hW12]
        have hp12 : W12.heap[pl]? = some (.cells #[.pointer (some ⟨pd, 0, none⟩), .int .i64 (gn : Int), .int .i64 (ar : Int), .int .i64 ((sq : Int) + 1), .int .i64 (us : Int), .int .i64 bn, .int .i64 bb, .int .i64 bl, .slice gq lv.length gc, .bool false] 80 (0, 0)) := by rw [hW12]; exact blk_set HL10.out.blk 3 _
        have hm12 : Mod [pl] w10 W12 := by rw [hW12]; exact (Mod.refl _ _).setCell (fun _ => by simp) _
        clear C10 F10 hW12
        refine pB 10 (TS pl #[.pointer (some ⟨pd, 0, none⟩), .int .i64 (gn : Int), .int .i64 (ar : Int), .int .i64 ((sq : Int) + 1), .int .i64 (us : Int), .int .i64 bn, .int .i64 bb, .int .i64 bl, .slice gq lv.length gc, .bool false]) ((Mod.refl [] W12).drew.at_ hp12 (by simp)) ?_
        refine pP 0 ?_; refine pP 1 ?_; refine pP 2 ?_
        refine pT 3 rfl [10] (fun w hSw => by have C0 := blk_cell hSw; go_simp; try with_reducible rfl) ?_
        refine pP 4 ?_; refine pP 5 ?_
        refine pX 6 fun hT K HK => ?_
        refine step_call rfl 49 #[.tmp 86] #[3] rfl (enters_of Tryz.func49 (by kernel_rfl) rfl) #[.int .i64 (nE : Int)] (by simp [Act.eval]) ?_
        refine (width_any nE (by omega) _).mono ?_
        rintro e wz ⟨rfl, hwz⟩
        rw [hwz]
        refine ⟨_, rfl, ?_⟩
        rw [HWD.out]
        have hT2 : TS pl #[.pointer (some ⟨pd, 0, none⟩), .int .i64 (gn : Int), .int .i64 (ar : Int), .int .i64 ((sq : Int) + 1), .int .i64 (us : Int), .int .i64 bn, .int .i64 bb, .int .i64 bl, .slice gq lv.length gc, .bool false] W12.drew := hT
        clear hwz
        refine HK.out _ _ _ hT2 ?_
        clear HK K hT hT2
        refine pP 7 ?_; refine pP 8 ?_; refine pP 9 ?_
        refine pY 10 fun hT K HK => ?_
        have C3 := blk_cell (w := W12) hp12
        have F3 := blk_free (w := W12) hp12
        go_simp
        clear C3 F3
        refine HK.out _ _ _ ?_
        clear HK K hT
        refine pD ?_
        obtain ⟨W13, hW13⟩ : ∃ W13, W13 = W12.setCell ⟨pl, 4, none⟩ (.int .i64 ((us : Int) + (WE : Int))) := ⟨_, rfl⟩
        have hp13 : W13.heap[pl]? = some (.cells #[.pointer (some ⟨pd, 0, none⟩), .int .i64 (gn : Int), .int .i64 (ar : Int), .int .i64 ((sq : Int) + 1), .int .i64 ((us : Int) + (WE : Int)), .int .i64 bn, .int .i64 bb, .int .i64 bl, .slice gq lv.length gc, .bool false] 80 (0, 0)) := by rw [hW13]; exact blk_set hp12 4 _
        have hm13 : Mod [pl] w10 W13 := by rw [hW13]; exact hm12.setCell (fun _ => by simp) _
        rw [← hW13]
        have hbx13 : W13.heap[bx]? = some (.cells #[.int .i64 cn, .int .i64 cb, .int .i64 cl, .slice q8 n8 c8] 34 (0, 0)) := hm13.at_ (H10.out.2.at_ HBX.out (by have := HB8.out.2.2.2; simp; omega)) (by have := HB8.out.2.2.2; simp; omega)
        have C13 := blk_cell (w := W13) hp13
        have F13 := blk_free (w := W13) hp13
        have Cbx := blk_cell (w := W13) hbx13
        have hnbx : bx ≠ pl := by have := HB8.out.2.2.2; omega
        have HM13 := hide (And.intro hp13 hm13)
        clear hp12 hm12 hW13 hp13 hm13 hbx13
        go_wp2_with fail
        go_ret
        obtain ⟨hp13, hm13⟩ := HM13.out
        obtain ⟨W14, hW14⟩ : ∃ W14, W14 = (((W13.setCell ⟨pl, 5, none⟩ (.int .i64 cn)).setCell ⟨pl, 6, none⟩ (.int .i64 cb)).setCell ⟨pl, 7, none⟩ (.int .i64 cl)).setCell ⟨pl, 8, none⟩ (.slice q8 n8 c8) := ⟨_, rfl⟩
        rw [← hW14]
        have hb14 : W14.heap[pl]? = some (.cells #[.pointer (some ⟨pd, 0, none⟩), .int .i64 (gn : Int), .int .i64 (ar : Int), .int .i64 ((sq : Int) + 1), .int .i64 ((us : Int) + (WE : Int)), .int .i64 cn, .int .i64 cb, .int .i64 cl, .slice q8 n8 c8, .bool false] 80 (0, 0)) := by rw [hW14]; exact blk_set (blk_set (blk_set (blk_set (w := W13) hp13 5 _) 6 _) 7 _) 8 _
        have hm14 : Mod [pl] w10 W14 := by rw [hW14]; exact (((hm13.setCell (fun _ => by simp) _).setCell (fun _ => by simp) _).setCell (fun _ => by simp) _).setCell (fun _ => by simp) _
        have hm14 := hm14.drew
        have hb14 : W14.drew.heap[pl]? = _ := hb14
        have hz1 := HM7.out.2.2.size
        have hmB14 : Mod [pl, pd, bs] wB W14.drew := H10.out.2.then (hm14.mono (T := [pl, pd, bs]) (by simp))
        have hm814 : Mod [pl, pd, bs] W8 W14.drew := ((HX9.out.mono (by simp)).then ((Mod.refl [pl, pd, bs] w9).drew.then HB.out.2.2.2)).then hmB14
        have hq := HQ2.out
        rw [if_neg (by simp)] at hq
        rw [hq]
        refine ⟨rfl, .slice q8 n8 c8, lv8, ?_, HB.out.2.1.then hmB14, .inr ((HB8.out.2.1.gr.mod hm814 (fun k hk => by simp at hk; omega)).base (by omega))⟩
        exact HL10.out.cells (l' := ⟨gn, ar, sq + 1, us + WE, ⟨cn, cb, cl, cg⟩, false⟩) (by rw [show lgCells pd (.slice q8 n8 c8) ⟨gn, ar, sq + 1, us + WE, ⟨cn, cb, cl, cg⟩, false⟩ = #[.pointer (some ⟨pd, 0, none⟩), .int .i64 (gn : Int), .int .i64 (ar : Int), .int .i64 ((sq : Int) + 1), .int .i64 ((us : Int) + (WE : Int)), .int .i64 cn, .int .i64 cb, .int .i64 cl, .slice q8 n8 c8, .bool false] from by simp [lgCells]]; exact hb14) hm14 ⟨(HB8.out.2.1.gr.mod hm814 (fun k hk => by simp at hk; omega)).base (by omega), HB8.out.2.1.eq⟩
      · subst hte
        have hlg10 : LgM w10 pl pd bs (.slice gq lv.length gc) lv td (deadL ⟨gn, ar, sq, us, ⟨bn, bb, bl, bg⟩, false⟩) := by simpa using H10.out.1
        have HL10 := hide hlg10
        clear hlg10
        go_wp2_with fail
        go_ret
        have hq := HQ2.out
        rw [if_pos (by simp)] at hq
        rw [hq]
        exact ⟨rfl, _, _, HL10.out, HB.out.2.1.then H10.out.2, .inl ⟨rfl, rfl⟩⟩

  · have hcb : (ce != 0) = true := by simpa using hce
    have HM := hide hm78
    clear hm78 hbk8 hm8 hbx hTV hC9
    go_wp2_with fail
    go_ret
    rw [← HR.out, if_neg (by simp), if_pos hce]
    exact ⟨rfl, _, _, HH.out.1.quiet HM.out, HM.out.mono (by simp), .inl ⟨rfl, rfl⟩⟩
end Go.Proofs.YtpphoeimakjjdaaGreatDoor
/-
  WALKS: layer 12: Open.
-/
namespace Go.Proofs.YtpphoeimakjjdaaGreatDoor
open Go.RowKit Go.Shelf

/-- what Open leaves: a ledger in new memory, or none -/
def OpTo (w : World) (pd bs : Nat) (t : Int × Dk × Option Lg) (e : Ending) (w' : World) : Prop :=
  Mod [pd, bs] w w' ∧ match t.2.2 with
    | none => e = .returned (.tuple #[.pointer none, .int .i64 t.1]) ∧ DkM w' pd bs t.2.1
    | some l => ∃ pl gv lv, e = .returned (.tuple #[.pointer (some ⟨pl, 0, none⟩), .int .i64 0]) ∧ LgM w' pl pd bs gv lv t.2.1 l ∧ w.heap.size ≤ pl
theorem head_area {b : B8} {g k : Nat} (h : headS b = some (g, k)) : k ≤ 1 ∧ 1 ≤ g ∧ g ≤ 1073741824 := by
  unfold headS at h
  cases hl : lookS b with
  | none => rw [hl] at h; cases h
  | some p =>
    rw [hl, Option.bind_some] at h
    by_cases hc : p.seq = 0 ∧ p.parts = 1 ∧ p.data.length = 1 ∧ (p.data.getD 0 0).toNat ≤ 1
    · rw [if_pos hc] at h
      cases h
      have := (look_fits hl).2.1
      exact ⟨hc.2.2.2, this.1, this.2.1⟩
    · rw [if_neg hc] at h; cases h
theorem mod_fresh2 {w W W' : World} {pl : Nat} {S : List Nat} (m : Mod [] w W) (m2 : Mod [pl] W W') (h : w.heap.size ≤ pl) : Mod S w W' := (mod_fresh m m2 (by simp; exact h)).mono (by simp)
theorem mod_fresh3 {w W W' W2 : World} {pl : Nat} {S : List Nat} (m : Mod [] w W) (m2 : Mod S W W') (m3 : Mod [pl] W' W2) (h : w.heap.size ≤ pl) : Mod S w W2 :=
  ((m.mono (T := S) (by simp)).then m2).trans m3 (fun _ x _ => x) (fun x hx hlt => by simp at hx; omega)
set_option maxHeartbeats 4000000 in
set_option maxRecDepth 100000 in
theorem open_any {w : World} {pd bs : Nat} {d : Dk} (h : DkM w pd bs d) :
    Calls Tryz.prog 11 #[.pointer (some ⟨pd, 0, none⟩)] w fun e w' => OpTo w pd bs (openD d) e w' := by
  obtain ⟨R, hR⟩ : ∃ R, openD d = R := ⟨_, rfl⟩
  rw [hR]
  unfold openD at hR
  have hpdw : pd < w.heap.size ∧ bs < w.heap.size := by
    obtain ⟨c, hb, hr⟩ := h.blk
    exact ⟨lt_of_block hb, (hr.lt bs rfl).2⟩
  have hln := fun (W : World) (m : Mod [] w W) => dlen_any (h.mod m (by simp) (by simp))
  have h512 := h.ok.most
  by_cases h49 : d.secs.length < 49
  · rw [if_pos h49] at hR
    have hi : (d.secs.length : Int) < 49 := by omega
    have HH := hide h
    clear h
    go_enter Tryz.func11, Tryz.ntmps11
    go_wp2_with (go_at_call 41; refine (hln _ (Mod.refl _ _)).mono ?_; rintro e w1 ⟨rfl, hx⟩; rw [hx]; clear hx)
    go_ret2
    subst hR
    exact ⟨Mod.refl _ _, rfl, HH.out⟩
  rw [if_neg h49] at hR
  have hi : ¬ (d.secs.length : Int) < 49 := by omega
  have hlg0 : ∀ (W : World) (pl : Nat), Mod [] w W → w.heap.size ≤ pl → W.heap[pl]? = some (.cells (lgCells pd (.slice none 0 0) ⟨0, 0, 0, 0, Bk.new, false⟩) 80 (0, 0)) → LgM W pl pd bs (.slice none 0 0) [] d ⟨0, 0, 0, 0, Bk.new, false⟩ := fun W pl m hp hb => ⟨hb, h.mod m (by simp) (by simp), ⟨GrM.nil _ _, rfl⟩, by omega⟩
  have HL := hide hlg0
  have hN := fun (W : World) => (bnew_any W).mono (R' := fun e w' => e = .returned (.agg #[.int .i64 1, .int .i64 0, .int .i64 0, .slice none 0 0]) ∧ Mod [] W w') (fun e w' hx => hx)
  have hw1 : IntKind.i64.wrap 1 = 1 := rfl
  have hw0 : IntKind.i64.wrap 0 = 0 := rfl
  have H49 := hide h49
  have HR := hide hR
  clear h hlg0 h49 hR
  go_enter Tryz.func11, Tryz.ntmps11
  go_upto_region 6 with (first
    | (go_at_call 41; refine (hln _ (Mod.refl _ _)).mono ?_; rintro e w1 ⟨rfl, hx⟩; rw [hx]; clear hx)
    | (go_at_call 42; refine (hN _).mono ?_; rintro e w2 ⟨rfl, hm2⟩; have H2 := hide hm2; clear hm2)
    | fail)
  obtain ⟨W3, hW3⟩ : ∃ W3, W3 = w2.alloc (.cells #[.pointer (some ⟨pd, 0, none⟩), .int .i64 0, .int .i64 0, .int .i64 0, .int .i64 0, .int .i64 1, .int .i64 0, .int .i64 0, .slice none 0 0, .bool false] 80 (0, 0)) := ⟨_, rfl⟩
  rw [← hW3]
  have hb3 : W3.heap[w2.heap.size]? = some (.cells (lgCells pd (.slice none 0 0) ⟨0, 0, 0, 0, Bk.new, false⟩) 80 (0, 0)) := by rw [hW3]; exact heap_alloc_new w2 _
  have hm3 : Mod [] w W3 := by rw [hW3]; exact H2.out.alloc _
  have hlg3 := HL.out W3 w2.heap.size hm3 H2.out.size hb3
  obtain ⟨pl, hpl⟩ : ∃ pl, w2.heap.size = pl := ⟨_, rfl⟩
  have hple := H2.out.size
  rw [hpl] at hlg3 hple ⊢
  have hnm := named_any hlg3
  have HM3 := hide (And.intro hm3 hlg3)
  clear hW3 hb3 hm3 hlg3 hpl H2 hln hN hi
  cases hoff : d.off with
  | true =>
    have hnm2 := hnm.mono (R' := fun e w' => e = .returned (.tuple #[.bool false, .int .i64 40]) ∧ Mod [] W3 w') (fun e w' hx => by
      rcases hx with ⟨_, h1, _, h2⟩ | ⟨h0, _⟩ | ⟨h0, _⟩
      · exact ⟨h1, h2⟩
      · rw [hoff] at h0; cases h0
      · rw [hoff] at h0; cases h0)
    have HO := hide hoff
    clear hnm hoff
    go_wp2_with (go_at_call 43; refine hnm2.mono ?_; rintro e w4 ⟨rfl, hm4⟩; have H4 := hide hm4; clear hm4 hnm2)
    go_ret2
    have hq := HR.out
    rw [if_pos HO.out] at hq
    subst hq
    exact ⟨(HM3.out.1.then H4.out).mono (by simp), rfl, (HM3.out.2.quiet H4.out).dk⟩
  | false =>
  have hq := HR.out
  rw [if_neg (by rw [hoff]; decide)] at hq
  unfold stateS at hq
  cases hhd : headS (d.secs.getD 0 []) with
  | some gk =>
    obtain ⟨g, k⟩ := gk
    obtain ⟨ha1, ha2, ha3⟩ := head_area hhd
    rw [hhd] at hq
    simp only [Option.map_some] at hq
    have hnm2 := hnm.mono (R' := fun e w' => e = .returned (.tuple #[.bool true, .int .i64 0]) ∧ LgM w' pl pd bs (.slice none 0 0) [] d ⟨g, k, 0, 0, Bk.new, false⟩ ∧ Mod [pl] W3 w') (fun e w' hx => by
      rcases hx with ⟨h0, _⟩ | ⟨_, h0, _⟩ | ⟨_, g', k', h0, h1, h2, h3⟩
      · rw [hoff] at h0; cases h0
      · rw [hhd] at h0; cases h0
      · rw [hhd] at h0; cases h0; exact ⟨h1, h2, h3⟩)
    have HO := hide hoff
    have HQ := hide hq
    clear hnm hoff hhd hq
    go_upto_region 11 with (go_at_call 43; refine hnm2.mono ?_; rintro e w4 ⟨rfl, hlg4, hm4⟩; have H4 := hide (And.intro hlg4 hm4); clear hlg4 hm4 hnm2)
    have hrc := (recover_any H4.out.1 new_valid ha1 (Nat.zero_le _) (Nat.zero_le _) (by have := H49.out; omega)).mono (R' := fun e w' => e = .returned (.int .i64 0) ∧ ∃ gv lv, LgM w' pl pd bs gv lv d (readL d.secs g k) ∧ Mod [pl] w4 w') (fun e w' hx => by
      rcases hx with ⟨h0, _⟩ | ⟨_, h1, gv, lv, h2, h3⟩
      · rw [HO.out] at h0; cases h0
      · refine ⟨h1, gv, lv, ?_, h3⟩
        simp only [Nat.zero_add] at h2
        exact h2)
    go_wp2_with (go_at_call 45; refine hrc.mono ?_; rintro e w5 ⟨rfl, gv5, lv5, hlg5, hm5⟩; have H5 := hide (And.intro hlg5 hm5); clear hlg5 hm5 hrc)
    go_ret2
    rw [← HQ.out]
    exact ⟨mod_fresh2 HM3.out.1 (H4.out.2.then H5.out.2) hple, pl, gv5, lv5, rfl, H5.out.1, hple⟩
  | none =>
    rw [hhd] at hq
    simp only [Option.map_none] at hq
    have hnm2 := hnm.mono (R' := fun e w' => e = .returned (.tuple #[.bool false, .int .i64 0]) ∧ LgM w' pl pd bs (.slice none 0 0) [] d ⟨0, 0, 0, 0, Bk.new, false⟩ ∧ Mod [] W3 w') (fun e w' hx => by
      rcases hx with ⟨h0, _⟩ | ⟨_, _, h1, h2, h3⟩ | ⟨_, g', k', h0, _⟩
      · rw [hoff] at h0; cases h0
      · exact ⟨h1, h2, h3⟩
      · rw [hhd] at h0; cases h0)
    have HQ := hide hq
    clear hnm hoff hhd hq
    go_upto_region 8 with (go_at_call 43; refine hnm2.mono ?_; rintro e w4 ⟨rfl, hlg4, hm4⟩; have H4 := hide (And.intro hlg4 hm4); clear hlg4 hm4 hnm2)
    have C4 := blk_cell H4.out.1.blk
    have F4 := blk_free H4.out.1.blk
    unfold lgCells at C4
    go_upto_region 9 with fail
    clear C4 F4
    obtain ⟨W5, hW5⟩ : ∃ W5, W5 = (w4.setCell ⟨pl, 1, none⟩ (.int .i64 1)).setCell ⟨pl, 2, none⟩ (.int .i64 0) := ⟨_, rfl⟩
    rw [← hW5]
    have hms : Mod [pl] w4 W5 := by rw [hW5]; exact ((Mod.refl _ _).setCell (fun _ => by simp) _).setCell (fun _ => by simp) _
    have hlg5 : LgM W5 pl pd bs (.slice none 0 0) [] d ⟨1, 0, 0, 0, Bk.new, false⟩ := H4.out.1.cells (l' := ⟨1, 0, 0, 0, Bk.new, false⟩) (by rw [hW5]; exact blk_set (blk_set H4.out.1.blk 1 _) 2 _) hms (H4.out.1.bkm hms)
    have hnn := name_any hlg5 1 0 (by omega) (by omega)
    obtain ⟨⟨ue, ud⟩, hU⟩ : ∃ t, nameD d 1 0 = t := ⟨_, rfl⟩
    have hlen := name_len d 1 0
    have hoff2 : (nameD d 1 0).1 = 0 → (nameD d 1 0).2.off = false := fun e => (write_zero e).2.2.1
    rw [hU] at hnn hlen hoff2
    have hq := HQ.out
    rw [hU] at hq
    simp only at hq hlen hoff2
    have HM5 := hide (H4.out.2.mono (T := [pl]) (by simp) |>.then hms)
    have HQ2 := hide hq
    have HO := hide hoff2
    clear hW5 hms hlg5 hU hq HQ hoff2
    by_cases hue : ue = 0
    · subst hue
      go_upto_region 11 with (go_at_call 44; refine hnn.mono ?_; rintro e w6 ⟨rfl, hlg6, hm6⟩; have H6 := hide (And.intro hlg6 hm6); clear hlg6 hm6 hnn)
      have hrc := (recover_any H6.out.1 new_valid (Nat.zero_le _) (Nat.zero_le _) (Nat.zero_le _) (by have := H49.out; omega)).mono (R' := fun e w' => e = .returned (.int .i64 0) ∧ ∃ gv lv, LgM w' pl pd bs gv lv ud (readL ud.secs 1 0) ∧ Mod [pl] w6 w') (fun e w' hx => by
        rcases hx with ⟨h0, _⟩ | ⟨_, h1, gv, lv, h2, h3⟩
        · rw [HO.out (by simp)] at h0; cases h0
        · refine ⟨h1, gv, lv, ?_, h3⟩
          simp only [Nat.zero_add] at h2
          exact h2)
      go_wp2_with (go_at_call 45; refine hrc.mono ?_; rintro e w7 ⟨rfl, gv7, lv7, hlg7, hm7⟩; have H7 := hide (And.intro hlg7 hm7); clear hlg7 hm7 hrc)
      go_ret2
      have hq := HQ2.out
      rw [if_pos (by simp)] at hq
      rw [← hq]
      exact ⟨mod_fresh3 (mod_fresh HM3.out.1 HM5.out (by simp; exact hple)) H6.out.2 H7.out.2 hple, pl, gv7, lv7, rfl, H7.out.1, hple⟩
    · have hub : (ue == 0) = false := by simpa using hue
      have hub2 : (ue != 0) = true := by simpa using hue
      have HUE := hide hue
      clear hue
      go_wp2_with (go_at_call 44; refine hnn.mono ?_; rintro e w6 ⟨rfl, hlg6, hm6⟩; have H6 := hide (And.intro hlg6 hm6); clear hlg6 hm6 hnn)
      go_ret2
      have hq := HQ2.out
      rw [if_neg HUE.out] at hq
      rw [← hq]
      exact ⟨((mod_fresh HM3.out.1 HM5.out (by simp; exact hple)).mono (by simp)).then H6.out.2, rfl, H6.out.1.dk⟩
end Go.Proofs.YtpphoeimakjjdaaGreatDoor
/-
  WALKS: layer 12: Book, Records, Gen, Used; the nil ledger.
-/
namespace Go.Proofs.YtpphoeimakjjdaaGreatDoor
open Go.RowKit Go.Shelf

theorem recs_any {w : World} {pl pd bs : Nat} {gv : Value} {lv : List (Grt × Value)} {d : Dk} {l : Lg} (h : LgM w pl pd bs gv lv d l) :
    Calls Tryz.prog 22 #[.pointer (some ⟨pl, 0, none⟩)] w fun e w' => e = .returned (.int .i64 (l.seq : Int)) ∧ w' = w := by
  have C := blk_cell h.blk 3
  unfold lgCells at C
  go_enter Tryz.func22, Tryz.ntmps22
  go_wp2_with fail
  go_ret
  exact ⟨rfl, rfl⟩
theorem gen_any {w : World} {pl pd bs : Nat} {gv : Value} {lv : List (Grt × Value)} {d : Dk} {l : Lg} (h : LgM w pl pd bs gv lv d l) :
    Calls Tryz.prog 23 #[.pointer (some ⟨pl, 0, none⟩)] w fun e w' => e = .returned (.int .i64 (l.gen : Int)) ∧ w' = w := by
  have C := blk_cell h.blk 1
  unfold lgCells at C
  go_enter Tryz.func23, Tryz.ntmps23
  go_wp2_with fail
  go_ret
  exact ⟨rfl, rfl⟩
theorem used_any {w : World} {pl pd bs : Nat} {gv : Value} {lv : List (Grt × Value)} {d : Dk} {l : Lg} (h : LgM w pl pd bs gv lv d l) :
    Calls Tryz.prog 24 #[.pointer (some ⟨pl, 0, none⟩)] w fun e w' => e = .returned (.int .i64 (l.used : Int)) ∧ w' = w := by
  have C := blk_cell h.blk 4
  unfold lgCells at C
  go_enter Tryz.func24, Tryz.ntmps24
  go_wp2_with fail
  go_ret
  exact ⟨rfl, rfl⟩
theorem recs_nil (w : World) : Calls Tryz.prog 22 #[.pointer none] w fun e w' => e = .returned (.int .i64 0) ∧ w' = w := by
  go_enter Tryz.func22, Tryz.ntmps22
  go_wp2_with fail
  go_ret
  exact ⟨rfl, rfl⟩
theorem gen_nil (w : World) : Calls Tryz.prog 23 #[.pointer none] w fun e w' => e = .returned (.int .i64 0) ∧ w' = w := by
  go_enter Tryz.func23, Tryz.ntmps23
  go_wp2_with fail
  go_ret
  exact ⟨rfl, rfl⟩
theorem used_nil (w : World) : Calls Tryz.prog 24 #[.pointer none] w fun e w' => e = .returned (.int .i64 0) ∧ w' = w := by
  go_enter Tryz.func24, Tryz.ntmps24
  go_wp2_with fail
  go_ret
  exact ⟨rfl, rfl⟩
theorem compact_nil (w : World) : Calls Tryz.prog 21 #[.pointer none] w fun e w' => e = .returned (.int .i64 1) ∧ w' = w := by
  go_enter Tryz.func21, Tryz.ntmps21
  go_wp2_with fail
  go_ret
  exact ⟨rfl, rfl⟩
theorem append_nil (w : World) (r : Rcd) (p1 p2 : Option Addr) (n1 c1 n2 c2 : Nat) : Calls Tryz.prog 16 #[.pointer none, aggR r (.slice p1 n1 c1) (.slice p2 n2 c2)] w fun e w' => e = .returned (.int .i64 1) ∧ Mod [] w w' := by
  obtain ⟨kd, ⟨gi, gh, gp, gm, gs, gt⟩, ri, rs, rn, rb, rl⟩ := r
  unfold aggR cellsR
  simp only
  go_enter Tryz.func16, Tryz.ntmps16
  go_wp2_with fail
  go_ret
  exact ⟨rfl, (Mod.refl _ _).alloc _⟩
theorem open_nil (w : World) : Calls Tryz.prog 11 #[.pointer none] w fun e w' => e = .returned (.tuple #[.pointer none, .int .i64 1]) ∧ w' = w := by
  go_enter Tryz.func11, Tryz.ntmps11
  go_wp2_with fail
  go_ret2
  exact ⟨rfl, rfl⟩
/-- the stamps lie apart from one another -/
def SepL (l : List (Grt × Value)) : Prop := l.Pairwise fun p q => ∀ k, k ∈ ob q.2 → k ∉ ob p.2
theorem SepL.snoc {l : List (Grt × Value)} (h : SepL l) {x : Grt × Value} (hx : ∀ p, p ∈ l → ∀ k, k ∈ ob x.2 → k ∉ ob p.2) : SepL (l ++ [x]) :=
  List.pairwise_append.2 ⟨h, List.pairwise_singleton _ _, fun p hp q hq => by rw [List.mem_singleton.1 hq]; exact hx p hp⟩
def BokRel (w W1 : World) (nx bo lo : Int) (lv : List (Grt × Value)) (i : Value) (wr : World) : Prop :=
  ∃ (k : Nat) (sl : List (Grt × Value)) (q : Option Addr) (c : Nat), i = .int .i64 (k : Int) ∧ k ≤ lv.length ∧ sl.map Prod.fst = (lv.take k).map Prod.fst ∧ GrM wr (w.heap.size + 2) (.slice q k c) sl ∧
    wr.heap[w.heap.size + 1]? = some (.cells #[.int .i64 nx, .int .i64 bo, .int .i64 lo, .slice q k c] 34 (0, 0)) ∧ Mod [w.heap.size + 1] W1 wr ∧ SepL sl
set_option maxHeartbeats 4000000 in
set_option maxRecDepth 100000 in
/-- the answer is a book in new memory -/
theorem book_sep {w : World} {pl pd bs : Nat} {gv : Value} {lv : List (Grt × Value)} {d : Dk} {l : Lg} (h : LgM w pl pd bs gv lv d l) (hv : validB l.book = true) :
    Calls Tryz.prog 19 #[.pointer (some ⟨pl, 0, none⟩)] w fun e w' => ∃ gv' lv', e = .returned (aggB l.book gv') ∧ BkM w' w.heap.size gv' l.book lv' ∧ Mod [] w w' ∧ SepL lv' := by
  obtain ⟨i0, hi0, hz0, hs0, hb0⟩ := info_parts info_int
  obtain ⟨gn, ar, sq, us, ⟨nx, bo, lo, gs⟩, dd⟩ := l
  simp only at hv ⊢
  have hsm := valid_small hv h.bk.eq
  have heq : gs = lv.map Prod.fst := h.bk.eq
  obtain ⟨q, c, rfl, hmx⟩ := h.bk.gr.shape
  have hmx' : lv.length ≤ 9223372036854775807 := hmx
  have hplw := lt_of_block h.blk
  obtain ⟨W1, hW1⟩ : ∃ W1, W1 = (w.alloc (.cells #[.int .i64 0, .int .i64 0, .int .i64 0, .slice none 0 0] 34 (0, 0))).alloc (.cells #[.int .i64 nx, .int .i64 bo, .int .i64 lo, .slice none 0 0] 34 (0, 0)) := ⟨_, rfl⟩
  have hm1 : Mod [] w W1 := by rw [hW1]; exact ((Mod.refl [] w).alloc _).alloc _
  have hb0' : W1.heap[w.heap.size]? = some (.cells #[.int .i64 0, .int .i64 0, .int .i64 0, .slice none 0 0] 34 (0, 0)) := by rw [hW1]; exact blk_alloc (heap_alloc_new w _) _
  have hb1 : W1.heap[w.heap.size + 1]? = some (.cells #[.int .i64 nx, .int .i64 bo, .int .i64 lo, .slice none 0 0] 34 (0, 0)) := by
    rw [hW1]
    have := heap_alloc_new (w.alloc (.cells #[.int .i64 0, .int .i64 0, .int .i64 0, .slice none 0 0] 34 (0, 0))) (.cells #[.int .i64 nx, .int .i64 bo, .int .i64 lo, .slice none 0 0] 34 (0, 0))
    simpa using this
  have hsz : W1.heap.size = w.heap.size + 2 := by rw [hW1]; simp
  have C0 := blk_cell (hm1.at_ h.blk (by simp))
  have C1 := blk_cell h.blk
  unfold lgCells at C0 C1
  have HH := hide (And.intro h (And.intro hsm heq))
  have HB := hide (And.intro hb0' (And.intro hb1 (And.intro hm1 hsz)))
  clear h hsm heq hb0' hb1 hm1 hsz hmx hv
  go_enter Tryz.func19, Tryz.ntmps19
  go_upto_region 5 with fail
  rw [← hW1]
  clear hW1 C1
  go_upto_region 6 with fail
  clear C0
  go_loopw [20] (fun i wr => BokRel w W1 nx bo lo lv i wr) (fun i _ => lv.length - (intOf i).toNat)
  case atStart => exact ⟨0, [], none, 0, rfl, Nat.zero_le _, rfl, GrM.nil _ _, HB.out.2.1, Mod.refl _ _, List.Pairwise.nil⟩
  case round =>
    obtain ⟨k, sl, bq, bc, rfl, hk, hmap, hgm, hbx, hm, hsep⟩ := hrel
    have HSep := hide hsep
    clear hsep
    have hsl : sl.length = k := by have := congrArg List.length hmap; simp at this; omega
    have hz2 := HB.out.2.2.2
    have hzr := hm.size
    have hmw : Mod [] w wr := mod_fresh HB.out.2.2.1 hm (by simp)
    by_cases hlt : k < lv.length
    · have hki : (k : Int) < (lv.length : Int) := by omega
      obtain ⟨bb, rfl, hbb, hb1, hc, hf, hrd⟩ := (HH.out.1.bk.gr.mod hmw (by simp)).at_ k hlt
      have hls := (HH.out.2.1.2 _ (show lv.getD k default ∈ lv by simp [hlt])).1
      have htk : (lv.take (k + 1)).map Prod.fst = (lv.take k).map Prod.fst ++ [(lv.getD k default).1] := by rw [List.take_add_one, List.map_append]; simp [hlt]
      generalize lv.getD k default = pr at hc hrd hls htk
      obtain ⟨⟨id, ho, pa, mo, st, te⟩, sv⟩ := pr
      simp only at hrd hls htk
      have c0 := hc 0 (by decide)
      have c1 := hc 1 (by decide)
      have c2 := hc 2 (by decide)
      have c3 := hc 3 (by decide)
      have c4 := hc 4 (by decide)
      have c5 := hc 5 (by decide)
      simp [encG, cellsG] at c0 c1 c2 c3 c4 c5
      obtain ⟨qs, cs, hsv⟩ := hrd.len
      obtain ⟨nst, hnst⟩ : ∃ n, st.length = n := ⟨_, rfl⟩
      rw [hnst] at hsv
      subst hsv
      obtain ⟨Wa, hWa⟩ : ∃ Wa, Wa = wr.alloc (.cells #[.int .i64 id, .int .i64 ho, .string pa, .int .i64 mo, .slice qs nst cs, .int .i64 te] 40 (0, 0)) := ⟨_, rfl⟩
      have hka : Wa.heap[wr.heap.size]? = some (.cells #[.int .i64 id, .int .i64 ho, .string pa, .int .i64 mo, .slice qs nst cs, .int .i64 te] 40 (0, 0)) := by rw [hWa]; exact heap_alloc_new wr _
      have hma : Mod [] wr Wa := by rw [hWa]; exact (Mod.refl _ _).alloc _
      have hza : Wa.heap.size = wr.heap.size + 1 := by rw [hWa]; simp
      have ca := blk_cell hka 4
      have hrda := hrd.mod hma (by simp)
      have HM := hide (And.intro hgm (And.intro hbx (And.intro hm (And.intro hmw (And.intro htk hmap)))))
      have HA := hide (And.intro hka (And.intro hma hza))
      have HS := hide (And.intro hsl hls)
      clear hc hrd hls htk hmap hgm hbx hm hmw hsl hka hma hza
      go_upto_region 8 with fail
      rw [← hWa]
      clear hWa c0 c1 c2 c3 c4 c5
      go_upto_region 9 with (
        at_builtin
        refine wpList_append_copy _ rfl _ _ 38 rfl 3 i0 Tryz.underlying38 hi0 hz0 hs0 hb0 rfl rfl hrda (by have := HS.out.2; omega) ?_
        intro v' w2 ho2 hm2
        obtain ⟨p', c', hv'⟩ := (rdN_of_row ho2).len
        rw [hnst] at hv'
        subst hv'
        have hk2 := hm2.at_ HA.out.1 (by simp)
        have C2 := blk_cell hk2
        have F2 := blk_free hk2
        have H2 := hide (And.intro ho2 (And.intro hm2 hk2))
        clear ho2 hm2 hk2 ca hrda)
      obtain ⟨W3, hW3⟩ : ∃ W3, W3 = w2.setCell ⟨wr.heap.size, 4, none⟩ (.slice p' nst c') := ⟨_, rfl⟩
      rw [← hW3]
      clear C2 F2
      obtain ⟨ho2, hm2, hk2⟩ := H2.out
      obtain ⟨hka, hma, hza⟩ := HA.out
      have hk3 : W3.heap[wr.heap.size]? = some (.cells #[.int .i64 id, .int .i64 ho, .string pa, .int .i64 mo, .slice p' nst c', .int .i64 te] 40 (0, 0)) := by rw [hW3]; exact blk_set hk2 4 _
      have hs3 : Mod [wr.heap.size] w2 W3 := by rw [hW3]; exact (Mod.refl _ _).setCell (fun _ => by simp) _
      have hm3 : Mod [] wr W3 := mod_fresh (hma.then hm2) hs3 (by simp)
      have hst3 : W3.ownsRow Wa.heap.size 3 1 (.slice p' nst c') st.length (st.map (Value.int .i64)) := hs3.row ho2 (fun x hx => by have := (ob_of_row ho2 x (by simpa [ob] using hx)).1; simp; omega)
      have hz3 := hm2.size
      have hz3' := hs3.size
      have D3 := blk_cell hk3
      have hbx3 := hm3.at_ HM.out.2.1 (by simp)
      have B3 := blk_cell hbx3
      obtain ⟨W4, hW4⟩ : ∃ W4, W4 = W3.alloc (.cells #[.int .i64 id, .int .i64 ho, .string pa, .int .i64 mo, .slice p' nst c', .int .i64 te] 40 (0, 0)) := ⟨_, rfl⟩
      have hk4 : W4.heap[W3.heap.size]? = some (.cells (cellsG ⟨id, ho, pa, mo, st, te⟩ (.slice p' nst c')).toArray 40 (0, 0)) := by rw [hW4]; exact heap_alloc_new W3 _
      have hm4 : Mod [] W3 W4 := by rw [hW4]; exact (Mod.refl _ _).alloc _
      have hgm4 := HM.out.1.mod (hm3.then hm4) (by simp)
      have hst4 := World.ownsRow.mono (hm4.row hst3 (by simp)) (show w.heap.size + 2 ≤ Wa.heap.size by omega)
      have hap : ∀ x, x ∈ ob (.slice p' nst c') → x ∉ ob (.slice bq k bc) := fun x hx hx2 => by
        have h1 := (ob_of_row ho2 x hx).1
        have h2 := (ob_of_row HM.out.1.row x hx2).2
        omega
      have HNS := hide (show ∀ p, p ∈ sl → ∀ x, x ∈ ob (.slice p' nst c') → x ∉ ob p.2 from fun p hp x hx hx2 => by
        have h1 := (ob_of_row ho2 x hx).1
        have h2 := (ob_of_row (HM.out.1.st p hp).1 x hx2).2
        omega)
      have hobu : ∀ x, x ∈ ob (.slice bq k bc) → w.heap.size + 2 ≤ x := fun x hx => (ob_of_row HM.out.1.row x hx).1
      have hz4 : w.heap.size + 2 ≤ W4.heap.size := by have := hm4.size; omega
      have HG := hide (And.intro hgm4 (And.intro hst4 (And.intro hap (And.intro hk4 (And.intro hobu (hm3.then hm4))))))
      have HX := hide (And.intro (hm4.at_ hbx3 (by simp)) hz4)
      clear ho2 hm2 hk2 hka hma hza hk3 hs3 hm3 hst3 hz3 hz3' hbx3 hk4 hm4 hgm4 hst4 hap hobu hz4 hW3 H2
      go_wp2_with (
        at_builtin
        rw [← hW4]
        refine wpList_app_gr (g := ⟨id, ho, pa, mo, st, te⟩) (sv := .slice p' nst c') (sl := sl) (base := w.heap.size + 2) W4 rfl _ _ rfl rfl HG.out.1 (by have := HS.out.1; have := HH.out.2.1.1; omega) HX.out.2 (k := W3.heap.size) rfl HG.out.2.2.2.1 HG.out.2.1 HG.out.2.2.1 ?_
        rintro u' w5 hgm5 hm5 ⟨p3, c3, hu5⟩ -
        rw [HS.out.1] at hu5
        subst hu5
        have hb5 := hm5.at_ HX.out.1 (fun e => by have := HG.out.2.2.2.2.1 _ e; omega)
        have B5 := blk_cell hb5
        have F5 := blk_free hb5
        have H5 := hide (And.intro hgm5 (And.intro hm5 hb5))
        clear hgm5 hm5 hb5 D3 B3)
      go_roundw
      case rel =>
        obtain ⟨hgm5, hm5, hb5⟩ := H5.out
        obtain ⟨hgm, hbx, hm, hmw, htk, hmap⟩ := HM.out
        have hms : Mod [w.heap.size + 1] w5 (w5.setCell ⟨w.heap.size + 1, 3, none⟩ (.slice p3 (k + 1) c3)) := (Mod.refl _ _).setCell (fun _ => by simp) _
        refine ⟨k + 1, sl ++ [(⟨id, ho, pa, mo, st, te⟩, .slice p' nst c')], p3, c3, by go_num, by omega, ?_, hgm5.mod hms (fun x hx => by simp at hx; omega), blk_set hb5 3 _, ?_, HSep.out.snoc HNS.out⟩
        · rw [htk, List.map_append, hmap]; rfl
        · refine ((hm.then (HG.out.2.2.2.2.2.mono (by simp))).trans hm5 (fun x hx _ => hx) (fun x hx hlt => ?_)).then hms
          have := HG.out.2.2.2.2.1 x hx
          omega
      case measure => simp [intOf]; omega
    · obtain rfl : k = lv.length := by omega
      have d0 := hm.at_ HB.out.1 (by simp)
      have C0 := blk_cell d0
      have F0 := blk_free d0
      have C1 := blk_cell hbx
      have HE := hide (And.intro d0 (And.intro hgm (And.intro hmw (And.intro hmap hm))))
      clear d0 hgm hmw hmap hm hsl
      go_wp2_with fail
      obtain ⟨d0, hgm, hmw, hmap, hm⟩ := HE.out
      have q' := stL_all d0 [.int .i64 nx, .int .i64 bo, .int .i64 lo, .slice bq lv.length bc] rfl
      have qm := stL_mod (S := [w.heap.size]) (w0 := wr) (r := w.heap.size) (fun _ => by simp) [.int .i64 nx, .int .i64 bo, .int .i64 lo, .slice bq lv.length bc] 0 _ (Mod.refl [w.heap.size] wr)
      refine bodyPost_ret (v := .agg #[.int .i64 nx, .int .i64 bo, .int .i64 lo, .slice bq lv.length bc]) (res_cell1 Tryz.results19 _ _ rfl q' Tryz.isAgg34 Tryz.sizeOf34) rfl ⟨_, sl, rfl, ⟨?_, ?_⟩, ?_, HSep.out⟩
      · exact (hgm.mod qm (fun k hk => by simp at hk; omega)).base (by omega)
      · have := HH.out.2.2
        simp only
        rw [this, hmap, List.take_length]
      · exact mod_fresh hmw qm (by simp)
/-- the nil ledger's book -/
theorem book_nil (w : World) : Calls Tryz.prog 19 #[.pointer none] w fun e w' => e = .returned (aggB Bk.new (.slice none 0 0)) ∧ Mod [] w w' := by
  have hN := fun (W : World) => (bnew_any W).mono (R' := fun e w' => e = .returned (.agg #[.int .i64 1, .int .i64 0, .int .i64 0, .slice none 0 0]) ∧ Mod [] W w') (fun e w' hx => hx)
  have hm1 : Mod [] w (w.alloc (.cells #[.int .i64 0, .int .i64 0, .int .i64 0, .slice none 0 0] 34 (0, 0))) := (Mod.refl _ _).alloc _
  have hb1 := heap_alloc_new w (.cells #[.int .i64 0, .int .i64 0, .int .i64 0, .slice none 0 0] 34 (0, 0))
  have HB := hide (And.intro hm1 hb1)
  clear hm1 hb1
  go_enter Tryz.func19, Tryz.ntmps19
  go_wp2_with (go_at_call 42; refine (hN _).mono ?_; rintro e w2 ⟨rfl, hm2⟩
               have hb2 := hm2.at_ HB.out.2 (by simp)
               have C2 := blk_cell hb2
               have F2 := blk_free hb2
               have H2 := hide (And.intro hb2 hm2)
               clear hb2 hm2)
  have q' := stL_all H2.out.1 [.int .i64 1, .int .i64 0, .int .i64 0, .slice none 0 0] rfl
  have qm := stL_mod (S := [w.heap.size]) (w0 := w2) (r := w.heap.size) (fun _ => by simp) [.int .i64 1, .int .i64 0, .int .i64 0, .slice none 0 0] 0 _ (Mod.refl [w.heap.size] w2)
  refine bodyPost_ret (v := .agg #[.int .i64 1, .int .i64 0, .int .i64 0, .slice none 0 0]) (res_cell1 Tryz.results19 _ _ rfl q' Tryz.isAgg34 Tryz.sizeOf34) rfl ⟨rfl, mod_fresh (HB.out.1.then H2.out.2) qm (by simp)⟩
theorem book_any {w : World} {pl pd bs : Nat} {gv : Value} {lv : List (Grt × Value)} {d : Dk} {l : Lg} (h : LgM w pl pd bs gv lv d l) (hv : validB l.book = true) :
    Calls Tryz.prog 19 #[.pointer (some ⟨pl, 0, none⟩)] w fun e w' => ∃ gv' lv', e = .returned (aggB l.book gv') ∧ BkM w' w.heap.size gv' l.book lv' ∧ Mod [] w w' := by
  refine (book_sep h hv).mono ?_
  rintro e w' ⟨gv', lv', h1, h2, h3, -⟩
  exact ⟨gv', lv', h1, h2, h3⟩
end Go.Proofs.YtpphoeimakjjdaaGreatDoor
/-
  WALKS: layer 12: contracts for the laws: a ledger and its disk in new memory; awake.
-/
namespace Go.Proofs.YtpphoeimakjjdaaGreatDoor
open Go.RowKit Go.Shelf

structure LS (w0 w : World) (pl pd bs : Nat) (d : Dk) (l : Lg) : Prop where
  mem : ∃ gv lv, LgM w pl pd bs gv lv d l
  lo : w0.heap.size ≤ pl ∧ w0.heap.size ≤ pd ∧ w0.heap.size ≤ bs
  md : Mod [] w0 w
section
variable {w0 w : World} {pl pd bs : Nat} {d : Dk} {l : Lg}
theorem LS.step (s : LS w0 w pl pd bs d l) {w' : World} {d' : Dk} {l' : Lg} (m : Mod [pl, pd, bs] w w') (h : ∃ gv lv, LgM w' pl pd bs gv lv d' l') : LS w0 w' pl pd bs d' l' :=
  ⟨h, s.lo, mod_fresh s.md m (by have := s.lo; simp; omega)⟩
theorem LS.quiet (s : LS w0 w pl pd bs d l) {w' : World} (m : Mod [] w w') : LS w0 w' pl pd bs d l := by
  obtain ⟨gv, lv, h⟩ := s.mem
  exact ⟨⟨gv, lv, h.quiet m⟩, s.lo, s.md.then m⟩
theorem LS.dk (s : LS w0 w pl pd bs d l) : DkM w pd bs d := by
  obtain ⟨gv, lv, h⟩ := s.mem
  exact h.dk
theorem LS.setd (s : LS w0 w pl pd bs d l) {w' : World} {d' : Dk} (m : Mod [pd] w w') (h : DkM w' pd bs d') : LS w0 w' pl pd bs d' l := by
  obtain ⟨gv, lv, hl⟩ := s.mem
  exact ⟨⟨gv, lv, hl.disk h (m.mono (by simp))⟩, s.lo, mod_fresh s.md m (by have := s.lo; simp; omega)⟩
theorem append_eq (s : LS w0 w pl pd bs d l) (hok : l.Ok) (h49 : 49 ≤ d.secs.length) {r : Rcd} {sv tv : Value} (hs : RdN w sv r.grant.stamp) (ht : RdN w tv r.stamp) (hp : r.grant.path.size ≤ 9223372036854775807) {t : Int × Dk × Lg} (ha : appendD d l r = t) :
    Calls Tryz.prog 16 #[.pointer (some ⟨pl, 0, none⟩), aggR r sv tv] w fun e w' => e = .returned (.int .i64 t.1) ∧ LS w0 w' pl pd bs t.2.1 t.2.2 ∧ Mod [pl, pd, bs] w w' := by
  obtain ⟨gv, lv, h⟩ := s.mem
  refine (append_any h hok h49 hs ht hp).mono ?_
  rintro e w' ⟨he, gv', lv', h', m, -⟩
  rw [ha] at he h'
  exact ⟨he, s.step m ⟨gv', lv', h'⟩, m⟩
/-- behind Append the ledger's memory holds nothing that was laid between wa and the call -/
theorem append_apart {wa : World} (s : LS w0 wa pl pd bs d l) (ma : Mod [] wa w) (hok : l.Ok) (h49 : 49 ≤ d.secs.length) {r : Rcd} {sv tv : Value} (hs : RdN w sv r.grant.stamp) (ht : RdN w tv r.stamp) (hp : r.grant.path.size ≤ 9223372036854775807) {t : Int × Dk × Lg} (ha : appendD d l r = t) :
    Calls Tryz.prog 16 #[.pointer (some ⟨pl, 0, none⟩), aggR r sv tv] w fun e w' => e = .returned (.int .i64 t.1) ∧ LS w0 w' pl pd bs t.2.1 t.2.2 ∧ Mod [pl, pd, bs] w w' ∧ ∃ gv lv, LgM w' pl pd bs gv lv t.2.1 t.2.2 ∧ ∀ x, wa.heap.size ≤ x → x < w.heap.size → x ∉ ob gv ∧ ∀ p, p ∈ lv → x ∉ ob p.2 := by
  have sw := s.quiet ma
  obtain ⟨gv, lv, h⟩ := s.mem
  refine (append_any (h.quiet ma) hok h49 hs ht hp).mono ?_
  rintro e w' ⟨he, gv', lv', h', m, hfr⟩
  rw [ha] at he h'
  refine ⟨he, sw.step m ⟨gv', lv', h'⟩, m, gv', lv', h', fun x hx1 hx2 => ?_⟩
  rcases hfr with ⟨rfl, rfl⟩ | hfr
  · exact ⟨fun e => by have := (ob_of_row h.bk.gr.row x e).2; omega, fun p hp e => by have := (ob_of_row (h.bk.gr.st p hp).1 x e).2; omega⟩
  · exact ⟨fun e => by have := (ob_of_row hfr.row x e).1; omega, fun p hp e => by have := (ob_of_row (hfr.st p hp).1 x e).1; omega⟩
theorem compact_eq (s : LS w0 w pl pd bs d l) (hok : l.Ok) (h49 : 49 ≤ d.secs.length) {t : Int × Dk × Lg} (ha : compactD d l = t) :
    Calls Tryz.prog 21 #[.pointer (some ⟨pl, 0, none⟩)] w fun e w' => e = .returned (.int .i64 t.1) ∧ LS w0 w' pl pd bs t.2.1 t.2.2 ∧ Mod [pl, pd, bs] w w' := by
  obtain ⟨gv, lv, h⟩ := s.mem
  refine (compact_any h hok.book hok.area ⟨hok.gen1, hok.genM⟩ h49).mono ?_
  rintro e w' ⟨he, h', m⟩
  rw [ha] at he h'
  exact ⟨he, s.step m ⟨gv, lv, h'⟩, m⟩
theorem book_eq (s : LS w0 w pl pd bs d l) (hv : validB l.book = true) :
    Calls Tryz.prog 19 #[.pointer (some ⟨pl, 0, none⟩)] w fun e w' => ∃ q n c lv, e = .returned (.agg #[.int .i64 l.book.next, .int .i64 l.book.boots, .int .i64 l.book.longest, .slice q n c]) ∧ BkM w' w.heap.size (.slice q n c) l.book lv ∧ Mod [] w w' ∧ LS w0 w' pl pd bs d l := by
  obtain ⟨gv, lv, h⟩ := s.mem
  refine (book_any h hv).mono ?_
  rintro e w' ⟨gv', lv', rfl, hb, m⟩
  obtain ⟨q, c, rfl, _⟩ := hb.gr.shape
  exact ⟨q, _, c, lv', rfl, hb, m, s.quiet m⟩
theorem book_sepq (s : LS w0 w pl pd bs d l) (hv : validB l.book = true) :
    Calls Tryz.prog 19 #[.pointer (some ⟨pl, 0, none⟩)] w fun e w' => ∃ q n c lv, e = .returned (.agg #[.int .i64 l.book.next, .int .i64 l.book.boots, .int .i64 l.book.longest, .slice q n c]) ∧ BkM w' w.heap.size (.slice q n c) l.book lv ∧ Mod [] w w' ∧ LS w0 w' pl pd bs d l ∧ SepL lv := by
  obtain ⟨gv, lv, h⟩ := s.mem
  refine (book_sep h hv).mono ?_
  rintro e w' ⟨gv', lv', rfl, hb, m, hs⟩
  obtain ⟨q, c, rfl, _⟩ := hb.gr.shape
  exact ⟨q, _, c, lv', rfl, hb, m, s.quiet m, hs⟩
theorem writes_eq (s : LS w0 w pl pd bs d l) {n : Int} (h : d.writes = n) : Calls Tryz.prog 13 #[.pointer (some ⟨pd, 0, none⟩)] w fun e w' => e = .returned (.int .i64 n) ∧ w' = w := by
  have := writes_any s.dk
  rw [h] at this
  exact this
theorem gen_eq (s : LS w0 w pl pd bs d l) {n : Int} (h : (l.gen : Int) = n) : Calls Tryz.prog 23 #[.pointer (some ⟨pl, 0, none⟩)] w fun e w' => e = .returned (.int .i64 n) ∧ w' = w := by
  obtain ⟨gv, lv, hl⟩ := s.mem
  have := gen_any hl
  rw [h] at this
  exact this
theorem recs_eq (s : LS w0 w pl pd bs d l) {n : Int} (h : (l.seq : Int) = n) : Calls Tryz.prog 22 #[.pointer (some ⟨pl, 0, none⟩)] w fun e w' => e = .returned (.int .i64 n) ∧ w' = w := by
  obtain ⟨gv, lv, hl⟩ := s.mem
  have := recs_any hl
  rw [h] at this
  exact this
theorem used_eq (s : LS w0 w pl pd bs d l) {n : Int} (h : (l.used : Int) = n) : Calls Tryz.prog 24 #[.pointer (some ⟨pl, 0, none⟩)] w fun e w' => e = .returned (.int .i64 n) ∧ w' = w := by
  obtain ⟨gv, lv, hl⟩ := s.mem
  have := used_any hl
  rw [h] at this
  exact this
end
theorem LS.lts {w0 w : World} {pl pd bs : Nat} {d : Dk} {l : Lg} (s : LS w0 w pl pd bs d l) : pl < w.heap.size ∧ pd < w.heap.size ∧ bs < w.heap.size := by
  obtain ⟨gv, lv, h⟩ := s.mem
  have h1 := lt_of_block h.blk
  have h2 := h.lt
  omega
/-- a ledger opened on a disk in new memory -/
theorem open_eq {w0 w : World} {pd bs : Nat} {d d' : Dk} {l : Lg} (h : DkM w pd bs d) (hlo : w0.heap.size ≤ pd ∧ w0.heap.size ≤ bs) (hm : Mod [] w0 w) (ho : openD d = (0, d', some l)) :
    Calls Tryz.prog 11 #[.pointer (some ⟨pd, 0, none⟩)] w fun e w' => ∃ pl, e = .returned (.tuple #[.pointer (some ⟨pl, 0, none⟩), .int .i64 0]) ∧ LS w0 w' pl pd bs d' l ∧ Mod [pd, bs] w w' := by
  refine (open_any h).mono ?_
  rintro e w' ⟨m, hr⟩
  rw [ho] at hr
  obtain ⟨pl, gv, lv, rfl, hl, hp⟩ := hr
  exact ⟨pl, rfl, ⟨⟨gv, lv, hl⟩, ⟨by have := hm.size; omega, hlo.1, hlo.2⟩, mod_fresh hm m (by simp; omega)⟩, m⟩
/-! ### awake -/
theorem field_book1 (a b c : Int) (p : Option Addr) (n k : Nat) (w : World) : (Instr.field 34 (.agg #[.int .i64 a, .int .i64 b, .int .i64 c, .slice p n k]) 1).run Tryz.prog w = .ok (.int .i64 b) w := by kernel_rfl
def recOf (k id : Int) : Rcd := ⟨k, ⟨0, 0, ⟨#[]⟩, 0, [], 0⟩, id, [], 0, 0, 0⟩
theorem boot_new : applyB Bk.new (recOf 7 0) = (⟨1, 1, 0, []⟩, 0) := by kernel_rfl
theorem end_boot : (applyB ⟨1, 1, 0, []⟩ (recOf 6 1)).2 = 43 := by kernel_rfl
theorem boot_width : widthN (encB (recOf 7 0)).length = 1 := by kernel_rfl
theorem dump_boot : sumW ((dumpB ⟨1, 1, 0, []⟩).map encB) = 1 := by kernel_rfl
/-- what awake sees -/
theorem awake_law {d : Dk} {n : Nat} (hn : 49 ≤ n) (h5 : n ≤ 512) (hs : d.secs = List.replicate n (List.replicate 64 0)) (ho : d.off = false) (hok : d.Ok) (ha : d.armed = false) (hw : d.writes = 0) :
    ∃ d1 d2 d3 l2 l3, openD d = (0, d1, some newL) ∧ Calm d1 newL ∧ d1.writes = 1 ∧ appendD d1 newL (recOf 7 0) = (0, d2, l2) ∧ Calm d2 l2 ∧ l2.seq = 1 ∧ l2.used = 1 ∧ compactD d2 l2 = (0, d3, l3) ∧ Calm d3 l3 ∧ l3.gen = 2 ∧ appendD d3 l3 (recOf 6 1) = (43, d3, l3) ∧ l3.book.boots = 1 ∧ d3.writes = 4 := by
  obtain ⟨d1, h1, h2, h3, _⟩ := calm_new hn h5 hs ho hok ha hw
  have hg1 : newL.gen = 1 := rfl
  have hu1 : newL.used = 0 := rfl
  have hb1 : newL.book = Bk.new := rfl
  rcases calm_append h2 (by rw [hg1]; omega) (recOf 7 0) with ⟨e1, _⟩ | ⟨_, d2, l2, e1, e2, e3, _, e5⟩
  · rw [hb1, boot_new] at e1
    exact absurd rfl e1
  obtain ⟨f1, f2, f3, f4⟩ := e5 (by rw [hu1, boot_width]; omega)
  rw [hb1, boot_new] at e3
  simp only at e3
  have hw2 := f4 (by rw [h3]; exact ⟨by omega, by omega⟩)
  rw [boot_width, h3] at hw2
  obtain ⟨d3, c1, c2, c3⟩ := calm_compact e2 (by rw [f1, hg1]; omega)
  have hw3 := c3 (by rw [hw2]; exact ⟨by omega, by omega⟩)
  rw [hw2, e3, dump_boot] at hw3
  have hb3 : (compL l2).book = ⟨1, 1, 0, []⟩ := e3
  have hg3 : (compL l2).gen = 2 := by show l2.gen + 1 = 2; rw [f1]; rfl
  rcases calm_append c2 (by rw [hg3]; omega) (recOf 6 1) with ⟨_, g2⟩ | ⟨g1, _⟩
  · rw [hb3, end_boot] at g2
    refine ⟨d1, d2, d3, l2, compL l2, h1, h2, h3, e1, e2, by rw [f2]; rfl, by rw [f3, hu1, boot_width], c1, c2, hg3, g2, by rw [hb3], ?_⟩
    rw [hw3]
    rfl
  · rw [hb3, end_boot] at g1
    cases g1
set_option maxHeartbeats 4000000 in
set_option maxRecDepth 100000 in
theorem awake_any (w : World) : Calls Tryz.prog 12 #[] w fun e w' => e = .returned (.bool true) ∧ Mod [] w w' := by
  obtain ⟨d1, d2, d3, l2, l3, a1, a2, a3, a4, a5, a6, a7, a8, a9, a10, a11, a12, a13⟩ := awake_law (d := newD 49) (n := 49) (by omega) (by omega) rfl rfl (newD_ok (by omega) (by omega)) rfl rfl
  have A2 := hide a2
  have A5 := hide a5
  have A9 := hide a9
  have AQ := hide (And.intro a1 (And.intro a4 (And.intro a8 a11)))
  have AW := hide (And.intro a3 (And.intro a13 (And.intro a6 (And.intro a7 (And.intro a10 a12)))))
  clear a1 a2 a3 a4 a5 a6 a7 a8 a9 a10 a11 a12 a13
  have hfl := field_book1
  have t1 : Hid True := hide trivial
  have t2 : Hid True := hide trivial
  have t3 : Hid True := hide trivial
  have t4 : Hid True := hide trivial
  have t5 : Hid True := hide trivial
  have t6 : Hid True := hide trivial
  have t7 : Hid True := hide trivial
  have t8 : Hid True := hide trivial
  go_enter Tryz.func12, Tryz.ntmps12
  go_wp2_with (first
    | (go_at_call 10
       refine (dnew_any 49 (by omega) (by omega) _).mono ?_
       rintro e w1 ⟨rfl, hd, hm⟩
       have H1 := hide (And.intro hd hm)
       clear hd hm)
    | (go_at_call 11
       refine (open_eq (w0 := w) H1.out.1 (by omega) H1.out.2 AQ.out.1).mono ?_
       rintro e w2 ⟨pl, rfl, s2, -⟩
       have H2 := hide s2
       clear s2 H1)
    | (go_at_call 13; have tk := t1; refine (writes_eq H2.out AW.out.1).mono ?_; rintro e wx ⟨rfl, hx⟩; rw [hx]; clear hx t1 tk)
    | (go_at_call 23; have tk := t2; refine (gen_eq H2.out (n := 1) rfl).mono ?_; rintro e wx ⟨rfl, hx⟩; rw [hx]; clear hx t2 tk)
    | (go_at_call 22; have tk := t3; refine (recs_eq H2.out (n := 0) rfl).mono ?_; rintro e wx ⟨rfl, hx⟩; rw [hx]; clear hx t3 tk)
    | (go_at_call 16; have tk := t4
       refine (append_eq (r := recOf 7 0) H2.out A2.out.inv.lok A2.out.inv.n49 (rdN_nil _) (rdN_nil _) (by show (ByteArray.mk #[]).size ≤ _; decide) AQ.out.2.1).mono ?_
       rintro e w3 ⟨rfl, s3, -⟩
       have H3 := hide s3
       clear s3 H2 t4 tk)
    | (go_at_call 22; have tk := t5; refine (recs_eq H3.out (n := 1) (by have := AW.out.2.2.1; omega)).mono ?_; rintro e wx ⟨rfl, hx⟩; rw [hx]; clear hx t5 tk)
    | (go_at_call 24; refine (used_eq H3.out (n := 1) (by have := AW.out.2.2.2.1; omega)).mono ?_; rintro e wx ⟨rfl, hx⟩; rw [hx]; clear hx)
    | (go_at_call 21
       refine (compact_eq H3.out A5.out.inv.lok A5.out.inv.n49 AQ.out.2.2.1).mono ?_
       rintro e w4 ⟨rfl, s4, -⟩
       have H4 := hide s4
       clear s4 H3)
    | (go_at_call 23; have tk := t6; refine (gen_eq H4.out (n := 2) (by have := AW.out.2.2.2.2.1; omega)).mono ?_; rintro e wx ⟨rfl, hx⟩; rw [hx]; clear hx t6 tk)
    | (go_at_call 16; have tk := t7
       refine (append_eq (r := recOf 6 1) H4.out A9.out.inv.lok A9.out.inv.n49 (rdN_nil _) (rdN_nil _) (by show (ByteArray.mk #[]).size ≤ _; decide) AQ.out.2.2.2).mono ?_
       rintro e w5 ⟨rfl, s5, -⟩
       have H5 := hide s5
       clear s5 H4 t7 tk)
    | (go_at_call 19
       refine (book_eq H5.out A9.out.inv.lok.book).mono ?_
       rintro e w6 ⟨q6, n6, c6, lv6, rfl, -, -, s6⟩
       rw [AW.out.2.2.2.2.2]
       have H6 := hide s6
       clear s6 H5)
    | (go_at_call 13; have tk := t8; refine (writes_eq H6.out AW.out.2.1).mono ?_; rintro e wx ⟨rfl, hx⟩; rw [hx]; clear hx t8 tk)
    | fail)
  go_ret
  exact ⟨rfl, H6.out.md⟩
/-! ### the law's names -/
theorem small_open : openD (newD 48) = (41, newD 48, none) := by
  unfold openD
  rw [if_pos (by simp [newD])]
set_option maxHeartbeats 4000000 in
set_option maxRecDepth 100000 in
theorem names_any (w : World) : Calls Tryz.prog 3 #[] w fun e w' => e = .returned (.bool true) ∧ Mod [] w w' := by
  have t1 : Hid True := hide trivial
  go_enter Tryz.func3, Tryz.ntmps3
  go_wp2_with (first
    | (go_at_call 10
       refine (dnew_any 48 (by omega) (by omega) _).mono ?_
       rintro e w1 ⟨rfl, hd, hm⟩
       have H1 := hide (And.intro hd hm)
       clear hd hm)
    | (go_at_call 11; have tk := t1
       refine (open_any H1.out.1).mono ?_
       rintro e w2 ⟨m, hr⟩
       rw [small_open] at hr
       obtain ⟨rfl, hd⟩ := hr
       have H2 := hide (And.intro hd (mod_fresh H1.out.2 m (by simp)))
       clear hd m t1 tk)
    | (go_at_call 11; refine (open_nil _).mono ?_; rintro e wx ⟨rfl, hx⟩; rw [hx]; clear hx)
    | (go_at_call 12
       refine (awake_any _).mono ?_
       rintro e w3 ⟨rfl, m⟩
       have H3 := hide (And.intro (H2.out.1.mod m (by simp) (by simp)) (H2.out.2.then m))
       clear m)
    | (go_at_call 13; refine (writes_any H3.out.1).mono ?_; rintro e wx ⟨rfl, hx⟩; rw [hx]; clear hx)
    | fail)
  go_ret
  exact ⟨rfl, H3.out.2⟩
end Go.Proofs.YtpphoeimakjjdaaGreatDoor
/-
  WALKS: the document's layer 11: grants, books compared; the new book.
-/
namespace Go.Proofs.YtpphoeimakjjdaaGreatDoor
open Go.RowKit

set_option maxHeartbeats 4000000 in
set_option maxRecDepth 100000 in
theorem rsameG_any {w : World} {x y : Grt} {sv tv : Value} (hx : RdN w sv x.stamp) (hy : RdN w tv y.stamp) :
    Calls Tryz.prog 52 #[aggG x sv, aggG y tv] w fun e w' => e = .returned (.bool (decide (x = y))) ∧ Mod [] w w' := by
  obtain ⟨i1, h1, p1, m1, s1, t1⟩ := x
  obtain ⟨i2, h2, p2, m2, s2, t2⟩ := y
  simp only at hx hy
  have he := fun {W : World} (g : Gr w W) => sameInts_any (hx.gr g) (hy.gr g)
  obtain ⟨q1, c1, rfl⟩ := hx.len
  obtain ⟨q2, c2, rfl⟩ := hy.len
  generalize hB : decide (s1 = s2) = B at he
  have HB := hide hB
  clear hx hy hB
  unfold aggG cellsG
  simp only
  go_enter Tryz.func52, Tryz.ntmps52
  go_wp2_with (go_at_call 53; refine (he (((Gr.refl w).alloc _).alloc _)).mono ?_; rintro e w1 ⟨rfl, hg⟩)
  all_goals
    go_ret
    refine ⟨?_, by first | exact (((Gr.refl w).alloc _).alloc _).mod [] | exact ((((Gr.refl w).alloc _).alloc _).trans hg).mod []⟩
    rw [grt_dec]
    simp only [HB.out]
    first | (simp [*]; done) | (simp [*]; rfl)
end Go.Proofs.YtpphoeimakjjdaaGreatDoor
/-
  WALKS: the document's layer 11: records compared.
-/
namespace Go.Proofs.YtpphoeimakjjdaaGreatDoor
open Go.RowKit

theorem rcd_dec (x y : Rcd) : decide (x = y) = (decide (x.kind = y.kind) && (decide (x.grant = y.grant) && (decide (x.id = y.id) && (decide (x.stamp = y.stamp) && (decide (x.next = y.next) && (decide (x.boots = y.boots) && decide (x.longest = y.longest))))))) := by
  rw [Bool.eq_iff_iff]
  simp only [Bool.and_eq_true, decide_eq_true_eq]
  constructor
  · rintro rfl
    exact ⟨rfl, rfl, rfl, rfl, rfl, rfl, rfl⟩
  · rintro ⟨h1, h2, h3, h4, h5, h6, h7⟩
    exact rcd_ext ⟨h1, h2, h3, h4, h5, h6, h7⟩
set_option maxHeartbeats 4000000 in
set_option maxRecDepth 100000 in
theorem rsameRec_any {w : World} {x y : Rcd} {s1 t1 s2 t2 : Value} (hx : RdN w s1 x.grant.stamp) (hx2 : RdN w t1 x.stamp) (hy : RdN w s2 y.grant.stamp) (hy2 : RdN w t2 y.stamp) :
    Calls Tryz.prog 17 #[aggR x s1 t1, aggR y s2 t2] w fun e w' => e = .returned (.bool (decide (x = y))) ∧ Mod [] w w' := by
  obtain ⟨R, hR⟩ : ∃ R, decide (x = y) = R := ⟨_, rfl⟩
  rw [hR]
  rw [rcd_dec] at hR
  obtain ⟨q1, d1, hs1⟩ := hx.len
  obtain ⟨q2, d2, ht1⟩ := hx2.len
  obtain ⟨q3, d3, hs2⟩ := hy.len
  obtain ⟨q4, d4, ht2⟩ := hy2.len
  obtain ⟨m1, e1⟩ : ∃ n, x.grant.stamp.length = n := ⟨_, rfl⟩
  obtain ⟨m2, e2⟩ : ∃ n, x.stamp.length = n := ⟨_, rfl⟩
  obtain ⟨m3, e3⟩ : ∃ n, y.grant.stamp.length = n := ⟨_, rfl⟩
  obtain ⟨m4, e4⟩ : ∃ n, y.stamp.length = n := ⟨_, rfl⟩
  rw [e1] at hs1
  rw [e2] at ht1
  rw [e3] at hs2
  rw [e4] at ht2
  subst hs1 ht1 hs2 ht2
  clear e1 e2 e3 e4
  obtain ⟨k1, ⟨i1, h1, p1, o1, g1, u1⟩, j1, r1, n1, b1, l1⟩ := x
  obtain ⟨k2, ⟨i2, h2, p2, o2, g2, u2⟩, j2, r2, n2, b2, l2⟩ := y
  simp only at hx hx2 hy hy2 hR
  obtain ⟨W0, hW0⟩ : ∃ W0, W0 = (w.alloc (.cells #[.int .i64 k1, .int .i64 i1, .int .i64 h1, .string p1, .int .i64 o1, .slice q1 m1 d1, .int .i64 u1, .int .i64 j1, .slice q2 m2 d2, .int .i64 n1, .int .i64 b1, .int .i64 l1] 42 (0, 0))).alloc (.cells #[.int .i64 k2, .int .i64 i2, .int .i64 h2, .string p2, .int .i64 o2, .slice q3 m3 d3, .int .i64 u2, .int .i64 j2, .slice q4 m4 d4, .int .i64 n2, .int .i64 b2, .int .i64 l2] 42 (0, 0)) := ⟨_, rfl⟩
  have hm0 : Mod [] w W0 := by rw [hW0]; exact ((Mod.refl _ _).alloc _).alloc _
  have ha : W0.heap[w.heap.size]? = some (.cells #[.int .i64 k1, .int .i64 i1, .int .i64 h1, .string p1, .int .i64 o1, .slice q1 m1 d1, .int .i64 u1, .int .i64 j1, .slice q2 m2 d2, .int .i64 n1, .int .i64 b1, .int .i64 l1] 42 (0, 0)) := by rw [hW0]; exact blk_alloc (heap_alloc_new w _) _
  have hb : W0.heap[w.heap.size + 1]? = some (.cells #[.int .i64 k2, .int .i64 i2, .int .i64 h2, .string p2, .int .i64 o2, .slice q3 m3 d3, .int .i64 u2, .int .i64 j2, .slice q4 m4 d4, .int .i64 n2, .int .i64 b2, .int .i64 l2] 42 (0, 0)) := by
    rw [hW0]
    have := heap_alloc_new (w.alloc (.cells #[.int .i64 k1, .int .i64 i1, .int .i64 h1, .string p1, .int .i64 o1, .slice q1 m1 d1, .int .i64 u1, .int .i64 j1, .slice q2 m2 d2, .int .i64 n1, .int .i64 b1, .int .i64 l1] 42 (0, 0))) (.cells #[.int .i64 k2, .int .i64 i2, .int .i64 h2, .string p2, .int .i64 o2, .slice q3 m3 d3, .int .i64 u2, .int .i64 j2, .slice q4 m4 d4, .int .i64 n2, .int .i64 b2, .int .i64 l2] 42 (0, 0))
    simpa using this
  have hsg := rsameG_any (w := W0) (x := ⟨i1, h1, p1, o1, g1, u1⟩) (y := ⟨i2, h2, p2, o2, g2, u2⟩) (sv := .slice q1 m1 d1) (tv := .slice q3 m3 d3) (hx.mod hm0 (by simp)) (hy.mod hm0 (by simp))
  have hsi := fun {W : World} (m : Mod [] W0 W) => sameInts_any (hx2.mod (hm0.then m) (by simp)) (hy2.mod (hm0.then m) (by simp))
  unfold aggG cellsG at hsg
  simp only at hsg
  generalize decide ((⟨i1, h1, p1, o1, g1, u1⟩ : Grt) = ⟨i2, h2, p2, o2, g2, u2⟩) = G at hsg hR
  generalize decide (r1 = r2) = S at hsi hR
  have A0 := blk_cell ha
  have B0 := blk_cell hb
  have HB := hide (And.intro ha (And.intro hb hm0))
  have HR := hide hR
  clear hx hx2 hy hy2 ha hb hm0 hR
  unfold aggR cellsR
  simp only
  cases G with
  | false =>
    cases S
    all_goals
      go_enter Tryz.func17, Tryz.ntmps17
      go_upto_region 1 with fail
      rw [← hW0]
      clear hW0
      go_wp2_with (first
        | (go_at_call 52; refine hsg.mono ?_; rintro e w1 ⟨rfl, m1'⟩; have hq : Mod [] w w1 := HB.out.2.2.then m1')
        | fail)
      all_goals
        go_ret
        refine ⟨?_, by first | exact HB.out.2.2 | exact hq⟩
        rw [← HR.out]
        simp
  | true =>
    cases S
    all_goals
      go_enter Tryz.func17, Tryz.ntmps17
      go_upto_region 1 with fail
      rw [← hW0]
      clear hW0
      go_wp2_with (first
        | (go_at_call 52; refine hsg.mono ?_; rintro e w1 ⟨rfl, m1'⟩; have HM := hide m1'; have A1 := blk_cell (m1'.at_ HB.out.1 (by simp)); have B1 := blk_cell (m1'.at_ HB.out.2.1 (by simp)); clear m1' A0 B0)
        | (go_at_call 53; refine (hsi HM.out).mono ?_; rintro e w2 ⟨rfl, hg⟩; have A2 := blk_cell ((hg.mod []).at_ (HM.out.at_ HB.out.1 (by simp)) (by simp)); have B2 := blk_cell ((hg.mod []).at_ (HM.out.at_ HB.out.2.1 (by simp)) (by simp)); have HM2 := hide (HM.out.then (hg.mod [])); clear hg A1 B1)
        | fail)
      all_goals
        go_ret
        refine ⟨?_, by first | exact HB.out.2.2 | exact HB.out.2.2.then HM2.out | exact HB.out.2.2.then HM.out⟩
        rw [← HR.out]
        first | (simp [*]; done) | (simp [*]; rfl) | simp
end Go.Proofs.YtpphoeimakjjdaaGreatDoor
/-
  WALKS: the document's layer 11: the record with nothing but what its kind uses.
-/
namespace Go.Proofs.YtpphoeimakjjdaaGreatDoor
open Go.RowKit

def usedR (r : Rcd) : Rcd :=
  if r.kind = 1 then { Rcd.zero with kind := r.kind, next := r.next, boots := r.boots }
  else if r.kind = 2 then { Rcd.zero with kind := r.kind, longest := r.longest }
  else if r.kind = 3 ∨ r.kind = 4 then { Rcd.zero with kind := r.kind, grant := r.grant }
  else if r.kind = 5 then { Rcd.zero with kind := r.kind, id := r.id, stamp := r.stamp }
  else if r.kind = 6 then { Rcd.zero with kind := r.kind, id := r.id }
  else { Rcd.zero with kind := r.kind }
def UsedTo (w : World) (r : Rcd) (e : Ending) (w' : World) : Prop :=
  ∃ sv tv, e = .returned (aggR (usedR r) sv tv) ∧ RdN w' sv (usedR r).grant.stamp ∧ RdN w' tv (usedR r).stamp ∧ Mod [] w w'
theorem mid_blk (w : World) (A C : Obj) (cs : Array Value) {T : TypeId} : (((w.alloc A).alloc (.cells cs T (0, 0))).alloc C).heap[w.heap.size + 1]? = some (.cells cs T (0, 0)) := by
  have := heap_alloc_new (w.alloc A) (.cells cs T (0, 0))
  exact blk_alloc (by simpa using this) _
theorem mid_mod (w : World) (A B C : Obj) : Mod [] w (((w.alloc A).alloc B).alloc C) := (((Mod.refl _ _).alloc _).alloc _).alloc _
set_option maxHeartbeats 4000000 in
set_option maxRecDepth 100000 in
theorem used1_any {w : World} {r : Rcd} {p1 p2 : Option Addr} {n1 n2 c1 c2 : Nat} (hs : RdN w (.slice p1 n1 c1) r.grant.stamp) (ht : RdN w (.slice p2 n2 c2) r.stamp) (hk : r.kind = 1) :
    Calls Tryz.prog 130 #[aggR r (.slice p1 n1 c1) (.slice p2 n2 c2)] w fun e w' => UsedTo w r e w' := by
  obtain ⟨kd, ⟨gi, gh, gp, gm, gs, gt⟩, ri, rs, rn, rb, rl⟩ := r
  simp only at hk hs ht
  subst hk
  unfold aggR cellsR
  simp only
  have HS := hide (And.intro hs ht)
  clear hs ht
  go_enter Tryz.func130, Tryz.ntmps130
  go_wp2_with fail
  obtain ⟨hs, ht⟩ := HS.out
  refine bodyPost_ret (res_cell1 Tryz.results130 _ _ rfl (mid_blk w _ _ _) Tryz.isAgg42 Tryz.sizeOf42) rfl ?_
  have mm := mid_mod w (.cells #[.int .i64 1, .int .i64 gi, .int .i64 gh, .string gp, .int .i64 gm, .slice p1 n1 c1, .int .i64 gt, .int .i64 ri, .slice p2 n2 c2, .int .i64 rn, .int .i64 rb, .int .i64 rl] 42 (0, 0))
  exact ⟨.slice none 0 0, .slice none 0 0, rfl, rdN_nil _, rdN_nil _, mm _ _⟩
set_option maxHeartbeats 4000000 in
set_option maxRecDepth 100000 in
theorem used2_any {w : World} {r : Rcd} {p1 p2 : Option Addr} {n1 n2 c1 c2 : Nat} (hs : RdN w (.slice p1 n1 c1) r.grant.stamp) (ht : RdN w (.slice p2 n2 c2) r.stamp) (hk : r.kind = 2) :
    Calls Tryz.prog 130 #[aggR r (.slice p1 n1 c1) (.slice p2 n2 c2)] w fun e w' => UsedTo w r e w' := by
  obtain ⟨kd, ⟨gi, gh, gp, gm, gs, gt⟩, ri, rs, rn, rb, rl⟩ := r
  simp only at hk hs ht
  subst hk
  unfold aggR cellsR
  simp only
  have HS := hide (And.intro hs ht)
  clear hs ht
  go_enter Tryz.func130, Tryz.ntmps130
  go_wp2_with fail
  obtain ⟨hs, ht⟩ := HS.out
  refine bodyPost_ret (res_cell1 Tryz.results130 _ _ rfl (mid_blk w _ _ _) Tryz.isAgg42 Tryz.sizeOf42) rfl ?_
  have mm := mid_mod w (.cells #[.int .i64 2, .int .i64 gi, .int .i64 gh, .string gp, .int .i64 gm, .slice p1 n1 c1, .int .i64 gt, .int .i64 ri, .slice p2 n2 c2, .int .i64 rn, .int .i64 rb, .int .i64 rl] 42 (0, 0))
  exact ⟨.slice none 0 0, .slice none 0 0, rfl, rdN_nil _, rdN_nil _, mm _ _⟩
set_option maxHeartbeats 4000000 in
set_option maxRecDepth 100000 in
theorem used3_any {w : World} {r : Rcd} {p1 p2 : Option Addr} {n1 n2 c1 c2 : Nat} (hs : RdN w (.slice p1 n1 c1) r.grant.stamp) (ht : RdN w (.slice p2 n2 c2) r.stamp) (hk : r.kind = 3) :
    Calls Tryz.prog 130 #[aggR r (.slice p1 n1 c1) (.slice p2 n2 c2)] w fun e w' => UsedTo w r e w' := by
  obtain ⟨kd, ⟨gi, gh, gp, gm, gs, gt⟩, ri, rs, rn, rb, rl⟩ := r
  simp only at hk hs ht
  subst hk
  unfold aggR cellsR
  simp only
  have HS := hide (And.intro hs ht)
  clear hs ht
  go_enter Tryz.func130, Tryz.ntmps130
  go_wp2_with fail
  obtain ⟨hs, ht⟩ := HS.out
  refine bodyPost_ret (res_cell1 Tryz.results130 _ _ rfl (mid_blk w _ _ _) Tryz.isAgg42 Tryz.sizeOf42) rfl ?_
  have mm := mid_mod w (.cells #[.int .i64 3, .int .i64 gi, .int .i64 gh, .string gp, .int .i64 gm, .slice p1 n1 c1, .int .i64 gt, .int .i64 ri, .slice p2 n2 c2, .int .i64 rn, .int .i64 rb, .int .i64 rl] 42 (0, 0))
  exact ⟨.slice p1 n1 c1, .slice none 0 0, rfl, hs.mod (mm _ _) (by simp), rdN_nil _, mm _ _⟩
set_option maxHeartbeats 4000000 in
set_option maxRecDepth 100000 in
theorem used4_any {w : World} {r : Rcd} {p1 p2 : Option Addr} {n1 n2 c1 c2 : Nat} (hs : RdN w (.slice p1 n1 c1) r.grant.stamp) (ht : RdN w (.slice p2 n2 c2) r.stamp) (hk : r.kind = 4) :
    Calls Tryz.prog 130 #[aggR r (.slice p1 n1 c1) (.slice p2 n2 c2)] w fun e w' => UsedTo w r e w' := by
  obtain ⟨kd, ⟨gi, gh, gp, gm, gs, gt⟩, ri, rs, rn, rb, rl⟩ := r
  simp only at hk hs ht
  subst hk
  unfold aggR cellsR
  simp only
  have HS := hide (And.intro hs ht)
  clear hs ht
  go_enter Tryz.func130, Tryz.ntmps130
  go_wp2_with fail
  obtain ⟨hs, ht⟩ := HS.out
  refine bodyPost_ret (res_cell1 Tryz.results130 _ _ rfl (mid_blk w _ _ _) Tryz.isAgg42 Tryz.sizeOf42) rfl ?_
  have mm := mid_mod w (.cells #[.int .i64 4, .int .i64 gi, .int .i64 gh, .string gp, .int .i64 gm, .slice p1 n1 c1, .int .i64 gt, .int .i64 ri, .slice p2 n2 c2, .int .i64 rn, .int .i64 rb, .int .i64 rl] 42 (0, 0))
  exact ⟨.slice p1 n1 c1, .slice none 0 0, rfl, hs.mod (mm _ _) (by simp), rdN_nil _, mm _ _⟩
set_option maxHeartbeats 4000000 in
set_option maxRecDepth 100000 in
theorem used5_any {w : World} {r : Rcd} {p1 p2 : Option Addr} {n1 n2 c1 c2 : Nat} (hs : RdN w (.slice p1 n1 c1) r.grant.stamp) (ht : RdN w (.slice p2 n2 c2) r.stamp) (hk : r.kind = 5) :
    Calls Tryz.prog 130 #[aggR r (.slice p1 n1 c1) (.slice p2 n2 c2)] w fun e w' => UsedTo w r e w' := by
  obtain ⟨kd, ⟨gi, gh, gp, gm, gs, gt⟩, ri, rs, rn, rb, rl⟩ := r
  simp only at hk hs ht
  subst hk
  unfold aggR cellsR
  simp only
  have HS := hide (And.intro hs ht)
  clear hs ht
  go_enter Tryz.func130, Tryz.ntmps130
  go_wp2_with fail
  obtain ⟨hs, ht⟩ := HS.out
  refine bodyPost_ret (res_cell1 Tryz.results130 _ _ rfl (mid_blk w _ _ _) Tryz.isAgg42 Tryz.sizeOf42) rfl ?_
  have mm := mid_mod w (.cells #[.int .i64 5, .int .i64 gi, .int .i64 gh, .string gp, .int .i64 gm, .slice p1 n1 c1, .int .i64 gt, .int .i64 ri, .slice p2 n2 c2, .int .i64 rn, .int .i64 rb, .int .i64 rl] 42 (0, 0))
  exact ⟨.slice none 0 0, .slice p2 n2 c2, rfl, rdN_nil _, ht.mod (mm _ _) (by simp), mm _ _⟩
set_option maxHeartbeats 4000000 in
set_option maxRecDepth 100000 in
theorem used6_any {w : World} {r : Rcd} {p1 p2 : Option Addr} {n1 n2 c1 c2 : Nat} (hs : RdN w (.slice p1 n1 c1) r.grant.stamp) (ht : RdN w (.slice p2 n2 c2) r.stamp) (hk : r.kind = 6) :
    Calls Tryz.prog 130 #[aggR r (.slice p1 n1 c1) (.slice p2 n2 c2)] w fun e w' => UsedTo w r e w' := by
  obtain ⟨kd, ⟨gi, gh, gp, gm, gs, gt⟩, ri, rs, rn, rb, rl⟩ := r
  simp only at hk hs ht
  subst hk
  unfold aggR cellsR
  simp only
  have HS := hide (And.intro hs ht)
  clear hs ht
  go_enter Tryz.func130, Tryz.ntmps130
  go_wp2_with fail
  obtain ⟨hs, ht⟩ := HS.out
  refine bodyPost_ret (res_cell1 Tryz.results130 _ _ rfl (mid_blk w _ _ _) Tryz.isAgg42 Tryz.sizeOf42) rfl ?_
  have mm := mid_mod w (.cells #[.int .i64 6, .int .i64 gi, .int .i64 gh, .string gp, .int .i64 gm, .slice p1 n1 c1, .int .i64 gt, .int .i64 ri, .slice p2 n2 c2, .int .i64 rn, .int .i64 rb, .int .i64 rl] 42 (0, 0))
  exact ⟨.slice none 0 0, .slice none 0 0, rfl, rdN_nil _, rdN_nil _, mm _ _⟩
set_option maxHeartbeats 4000000 in
set_option maxRecDepth 100000 in
theorem used7_any {w : World} {r : Rcd} {p1 p2 : Option Addr} {n1 n2 c1 c2 : Nat} (hs : RdN w (.slice p1 n1 c1) r.grant.stamp) (ht : RdN w (.slice p2 n2 c2) r.stamp) (hk : r.kind = 7) :
    Calls Tryz.prog 130 #[aggR r (.slice p1 n1 c1) (.slice p2 n2 c2)] w fun e w' => UsedTo w r e w' := by
  obtain ⟨kd, ⟨gi, gh, gp, gm, gs, gt⟩, ri, rs, rn, rb, rl⟩ := r
  simp only at hk hs ht
  subst hk
  unfold aggR cellsR
  simp only
  have HS := hide (And.intro hs ht)
  clear hs ht
  go_enter Tryz.func130, Tryz.ntmps130
  go_wp2_with fail
  obtain ⟨hs, ht⟩ := HS.out
  refine bodyPost_ret (res_cell1 Tryz.results130 _ _ rfl (mid_blk w _ _ _) Tryz.isAgg42 Tryz.sizeOf42) rfl ?_
  have mm := mid_mod w (.cells #[.int .i64 7, .int .i64 gi, .int .i64 gh, .string gp, .int .i64 gm, .slice p1 n1 c1, .int .i64 gt, .int .i64 ri, .slice p2 n2 c2, .int .i64 rn, .int .i64 rb, .int .i64 rl] 42 (0, 0))
  exact ⟨.slice none 0 0, .slice none 0 0, rfl, rdN_nil _, rdN_nil _, mm _ _⟩
set_option maxHeartbeats 4000000 in
set_option maxRecDepth 100000 in
theorem used0_any {w : World} {r : Rcd} {p1 p2 : Option Addr} {n1 n2 c1 c2 : Nat} (hk : r.kind ≠ 1 ∧ r.kind ≠ 2 ∧ r.kind ≠ 3 ∧ r.kind ≠ 4 ∧ r.kind ≠ 5 ∧ r.kind ≠ 6) :
    Calls Tryz.prog 130 #[aggR r (.slice p1 n1 c1) (.slice p2 n2 c2)] w fun e w' => UsedTo w r e w' := by
  obtain ⟨kd, ⟨gi, gh, gp, gm, gs, gt⟩, ri, rs, rn, rb, rl⟩ := r
  simp only at hk
  obtain ⟨h1, h2, h3, h4, h5, h6⟩ := hk
  have hu : usedR ⟨kd, ⟨gi, gh, gp, gm, gs, gt⟩, ri, rs, rn, rb, rl⟩ = { Rcd.zero with kind := kd } := by simp [usedR, h1, h2, h3, h4, h5, h6]
  have e1 : (kd == 1) = false := by simpa using h1
  have e2 : (kd == 2) = false := by simpa using h2
  have e3 : (kd == 3) = false := by simpa using h3
  have e4 : (kd == 4) = false := by simpa using h4
  have e5 : (kd == 5) = false := by simpa using h5
  have e6 : (kd == 6) = false := by simpa using h6
  have HU := hide hu
  clear hu h1 h2 h3 h4 h5 h6
  unfold aggR cellsR
  simp only
  go_enter Tryz.func130, Tryz.ntmps130
  go_wp2_with fail
  refine bodyPost_ret (res_cell1 Tryz.results130 _ _ rfl (mid_blk w _ _ _) Tryz.isAgg42 Tryz.sizeOf42) rfl ?_
  refine ⟨.slice none 0 0, .slice none 0 0, by rw [HU.out]; rfl, by rw [HU.out]; exact rdN_nil _, by rw [HU.out]; exact rdN_nil _, mid_mod _ _ _ _⟩
end Go.Proofs.YtpphoeimakjjdaaGreatDoor
/-
  PLAIN LAWS, NO WALK: a record may be just if it is the record with nothing but what its kind uses, and its kind's own test holds.
-/
namespace Go.Proofs.YtpphoeimakjjdaaGreatDoor
open Go.RowKit

def kindT (r : Rcd) : Bool :=
  if r.kind = 1 then headsB r.next r.boots
  else if r.kind = 2 then decide (legalT r.longest)
  else if r.kind = 3 then grantB r.grant
  else if r.kind = 4 then grantB r.grant && decide (lastI r.grant.stamp = r.grant.id)
  else if r.kind = 5 then decide (countOk r.id) && stmB r.stamp
  else if r.kind = 6 then decide (countOk r.id)
  else decide (r.kind = 7)
theorem may_used (r : Rcd) : mayB r = (decide (usedR r = r) && kindT r) := by
  obtain ⟨kd, g, ri, rs, rn, rb, rl⟩ := r
  rw [rcd_dec]
  unfold mayB kindT usedR noGrant noId bareB
  simp only
  by_cases h1 : kd = 1
  · subst h1
    rw [Bool.eq_iff_iff]
    simp [Rcd.zero]
    constructor
    · rintro ⟨a, rfl, rfl, rfl, rfl⟩; simp [a]
    · rintro ⟨⟨rfl, rfl, rfl, rfl⟩, a⟩; simp [a]
  by_cases h2 : kd = 2
  · subst h2
    rw [Bool.eq_iff_iff]
    simp [Rcd.zero]
    constructor
    · rintro ⟨a, ⟨rfl, rfl⟩, rfl, rfl, rfl⟩; simp [a]
    · rintro ⟨⟨rfl, rfl, rfl, rfl, rfl⟩, a⟩; simp [a]
  by_cases h3 : kd = 3
  · subst h3
    rw [Bool.eq_iff_iff]
    simp [Rcd.zero]
    constructor
    · rintro ⟨a, ⟨rfl, rfl, rfl⟩, rfl, rfl⟩; simp [a]
    · rintro ⟨⟨rfl, rfl, rfl, rfl, rfl⟩, a⟩; simp [a]
  by_cases h4 : kd = 4
  · subst h4
    rw [Bool.eq_iff_iff]
    simp [Rcd.zero]
    constructor
    · rintro ⟨b, a, ⟨rfl, rfl, rfl⟩, rfl, rfl⟩; simp [a, b]
    · rintro ⟨⟨rfl, rfl, rfl, rfl, rfl⟩, a, b⟩; simp [a, b]
  by_cases h5 : kd = 5
  · subst h5
    rw [Bool.eq_iff_iff]
    simp [Rcd.zero]
    constructor
    · rintro ⟨b, a, ⟨rfl, rfl, rfl⟩, rfl⟩; simp [a, b]
    · rintro ⟨⟨rfl, rfl, rfl, rfl⟩, a, b⟩; simp [a, b]
  by_cases h6 : kd = 6
  · subst h6
    rw [Bool.eq_iff_iff]
    simp [Rcd.zero]
    constructor
    · rintro ⟨b, rfl, ⟨rfl, rfl, rfl⟩, rfl⟩; simp [b]
    · rintro ⟨⟨rfl, rfl, rfl, rfl, rfl⟩, a⟩; simp [a]
  by_cases h7 : kd = 7
  · subst h7
    rw [Bool.eq_iff_iff]
    simp [Rcd.zero]
    constructor
    · rintro ⟨⟨rfl, rfl, rfl⟩, rfl, rfl, rfl⟩; simp
    · rintro ⟨rfl, rfl, rfl, rfl, rfl, rfl⟩; simp
  · simp [h1, h2, h3, h4, h5, h6, h7]
end Go.Proofs.YtpphoeimakjjdaaGreatDoor
