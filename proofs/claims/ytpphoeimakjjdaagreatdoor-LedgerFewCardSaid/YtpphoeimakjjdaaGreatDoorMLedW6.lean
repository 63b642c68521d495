/-
  WALKS: layer 12: Compact.
-/
import Derived.Test.YtpphoeimakjjdaaGreatDoorMLedW5
import Derived.Test.YtpphoeimakjjdaaGreatDoorMLedC
namespace Go.Proofs.YtpphoeimakjjdaaGreatDoor
open Go.RowKit Go.Shelf

/-- what a call on a ledger leaves that keeps the book's grants where they are -/
def CpTo (w : World) (pl pd bs : Nat) (gv : Value) (lv : List (Grt × Value)) (t : Int × Dk × Lg) (e : Ending) (w' : World) : Prop :=
  e = .returned (.int .i64 t.1) ∧ LgM w' pl pd bs gv lv t.2.1 t.2.2 ∧ Mod [pl, pd, bs] w w'
theorem compact_go {d : Dk} {l : Lg} {G : Nat} (hl : l.dead = false) (ho : d.off = false) (hw : ¬ 1073741824 ≤ maxGen l.gen (sideS d.secs (1 - l.area))) (hG : maxGen l.gen (sideS d.secs (1 - l.area)) + 1 = G) :
    compactD d l = if (layD d (1 + (1 - l.area) * 24) G 0 ((dumpB l.book).map encB)).1 ≠ 0 then ((layD d (1 + (1 - l.area) * 24) G 0 ((dumpB l.book).map encB)).1, (layD d (1 + (1 - l.area) * 24) G 0 ((dumpB l.book).map encB)).2, deadL l) else
      if (nameD (layD d (1 + (1 - l.area) * 24) G 0 ((dumpB l.book).map encB)).2 G (1 - l.area)).1 ≠ 0 then ((nameD (layD d (1 + (1 - l.area) * 24) G 0 ((dumpB l.book).map encB)).2 G (1 - l.area)).1, (nameD (layD d (1 + (1 - l.area) * 24) G 0 ((dumpB l.book).map encB)).2 G (1 - l.area)).2, deadL l)
      else (0, (nameD (layD d (1 + (1 - l.area) * 24) G 0 ((dumpB l.book).map encB)).2 G (1 - l.area)).2, ⟨G, 1 - l.area, (dumpB l.book).length, sumW ((dumpB l.book).map encB), l.book, l.dead⟩) := by
  subst hG
  unfold compactD
  rw [if_neg (by rw [hl]; decide), if_neg (by rw [ho]; decide), if_neg hw]
def CpRel (w2 : World) (pl pd bs : Nat) (gv : Value) (lv : List (Grt × Value)) (l : Lg) (DS : List B8) (F G N : Nat) (T : Int × Dk) (s5 i : Value) (wr : World) : Prop :=
  ∃ (j u : Nat) (di : Dk), i = .int .i64 (j : Int) ∧ s5 = .int .i64 (u : Int) ∧ j ≤ DS.length ∧ u + sumW (DS.drop j) = sumW DS ∧ di.secs.length = N ∧ LgM wr pl pd bs gv lv di l ∧ Hid (layD di (F + u) G j (DS.drop j) = T) ∧ Mod [pl, pd, bs] w2 wr
set_option maxHeartbeats 4000000 in
set_option maxRecDepth 100000 in
theorem compact_any {w : World} {pl pd bs : Nat} {gv : Value} {lv : List (Grt × Value)} {d : Dk} {l : Lg} (h : LgM w pl pd bs gv lv d l) (hv : validB l.book = true) (har : l.area ≤ 1) (hgn : 1 ≤ l.gen ∧ l.gen ≤ 1073741824) (h49 : 49 ≤ d.secs.length) :
    Calls Tryz.prog 21 #[.pointer (some ⟨pl, 0, none⟩)] w fun e w' => CpTo w pl pd bs gv lv (compactD d l) e w' := by
  have hlt := h.lt
  have hplw := lt_of_block h.blk
  have C9 : w.cell? ⟨pl, 9, none⟩ = some (.bool l.dead) := blk_cell h.blk 9
  have hng := nextGen_any h har hgn.2 h49
  cases hdd : l.dead with
  | true =>
    rw [hdd] at C9
    have HH := hide h
    have he : compactD d l = (40, d, l) := by unfold compactD; rw [if_pos hdd]
    clear h hng
    rw [he]
    go_enter Tryz.func21, Tryz.ntmps21
    go_wp2_with fail
    go_ret
    exact ⟨rfl, HH.out, Mod.refl _ _⟩
  | false =>
  rw [hdd] at C9
  cases hoff : d.off with
  | true =>
    have hn : ngD d l = (0, 40, deadL l) := by unfold ngD; rw [if_pos hoff]
    have he : compactD d l = (40, d, deadL l) := by unfold compactD; rw [if_neg (by rw [hdd]; decide), if_pos hoff]
    rw [hn] at hng
    rw [he]
    clear h he hn
    go_enter Tryz.func21, Tryz.ntmps21
    go_wp2_with (go_at_call 60; refine hng.mono ?_; rintro e w1 ⟨rfl, hlg1, hm1⟩; have H1 := hide (And.intro hlg1 hm1); clear hlg1 hm1 hng)
    go_ret
    exact ⟨rfl, H1.out.1, H1.out.2.mono (by simp)⟩
  | false =>
  by_cases hw : 1073741824 ≤ maxGen l.gen (sideS d.secs (1 - l.area))
  · have hn : ngD d l = (0, 42, l) := by unfold ngD; rw [if_neg (by rw [hoff]; decide), if_pos hw]
    have he : compactD d l = (42, d, l) := by unfold compactD; rw [if_neg (by rw [hdd]; decide), if_neg (by rw [hoff]; decide), if_pos hw]
    rw [hn] at hng
    rw [he]
    clear h he hn hw
    go_enter Tryz.func21, Tryz.ntmps21
    go_wp2_with (go_at_call 60; refine hng.mono ?_; rintro e w1 ⟨rfl, hlg1, hm1⟩; have H1 := hide (And.intro hlg1 hm1); clear hlg1 hm1 hng)
    go_ret
    exact ⟨rfl, H1.out.1, H1.out.2.mono (by simp)⟩
  have hn : ngD d l = (((maxGen l.gen (sideS d.secs (1 - l.area)) : Nat) : Int) + 1, 0, l) := by unfold ngD; rw [if_neg (by rw [hoff]; decide), if_neg hw]
  obtain ⟨G, hG⟩ : ∃ G, maxGen l.gen (sideS d.secs (1 - l.area)) + 1 = G := ⟨_, rfl⟩
  have hge := maxGen_ge (sideS d.secs (1 - l.area)) l.gen
  have hgo := compact_go hdd hoff hw hG
  rw [show ((maxGen l.gen (sideS d.secs (1 - l.area)) : Nat) : Int) + 1 = (G : Int) by rw [← hG]; rfl] at hn
  have hG1 : 1 ≤ G ∧ G ≤ 1073741824 := by omega
  rw [hn] at hng
  have hdw := dump_width hv
  have hdl := dump_len l.book hv
  have hmay := may_dump hv
  obtain ⟨DS, hDS⟩ : ∃ DS, (dumpB l.book).map encB = DS := ⟨_, rfl⟩
  have hDl : DS.length = (dumpB l.book).length := by rw [← hDS, List.length_map]
  obtain ⟨ko, hko⟩ : ∃ ko, 1 - l.area = ko := ⟨_, rfl⟩
  obtain ⟨F, hF⟩ : ∃ F, 1 + ko * 24 = F := ⟨_, rfl⟩
  have hkle : ko ≤ 1 := by omega
  have hfs := fun (W : World) => first_any ko hkle W
  rw [hDS, hko, hF, ← hDl] at hgo
  rw [hDS] at hdw
  rw [hF] at hfs
  obtain ⟨T, hT⟩ : ∃ T, layD d F G 0 DS = T := ⟨_, rfl⟩
  rw [hT] at hgo
  obtain ⟨R, hR⟩ : ∃ R, compactD d l = R := ⟨_, rfl⟩
  rw [hR] at hgo ⊢
  have HR := hide hgo
  clear hR
  have hF1 : F ≤ 25 := by omega
  have HD := hide (And.intro hDS (And.intro hDl (And.intro hmay (And.intro hT (And.intro hdw hv)))))
  have hwk : IntKind.i64.wrap (1 - (l.area : Int)) = (ko : Int) := by rw [IntKind.wrap_i64]; omega
  have hdl8 : DS.length ≤ 8 := by omega
  clear h hgo hn hw hG hge hDS hDl hT hmay hdl hdw hv hgn har
  obtain ⟨gn, ar, sq, us, ⟨bn, bb, bl, bg⟩, dd⟩ := l
  simp only at hdd hwk hko C9
  subst hdd
  go_enter Tryz.func21, Tryz.ntmps21
  go_upto_region 8 with (go_at_call 60; refine hng.mono ?_; rintro e w1 ⟨rfl, hlg1, hm1⟩; have H1 := hide (And.intro hlg1 hm1); clear hlg1 hm1 hng)
  obtain ⟨gq, gc, hgv, -⟩ := H1.out.1.bk.gr.shape
  subst hgv
  have C1 := blk_cell H1.out.1.blk
  unfold lgCells at C1
  have hdmp := dump_any H1.out.1.bk HD.out.2.2.2.2.2
  unfold aggB at hdmp
  simp only at hdmp
  go_upto_region 10 with (go_at_call 61; refine hdmp.mono ?_; rintro e w2 ⟨v2, lr, rfl, hl2, hd2, hm2⟩
                          obtain ⟨q2, c2, hv2, hn2⟩ := hd2.shape
                          subst hv2
                          have hlr : lr.length = DS.length := by rw [HD.out.2.1, ← hl2, List.length_map]
                          rw [hlr] at hd2 hn2 ⊢
                          have H2 := hide (And.intro hl2 (And.intro hd2 (And.intro hm2 hlr)))
                          clear hl2 hd2 hm2 hdmp hlr)
  have hlw2 := H1.out.1.quiet H2.out.2.2.1
  have hz2 : w.heap.size ≤ w1.heap.size := H1.out.2.size
  have hz3 := H2.out.2.2.1.size
  have HL2 := hide hlw2
  clear hlw2 C1
  go_loopw [5, 36] (fun s5 i wr => CpRel w2 pl pd bs (.slice gq lv.length gc) lv ⟨gn, ar, sq, us, ⟨bn, bb, bl, bg⟩, false⟩ DS F G d.secs.length T s5 i wr) (fun _ i _ => DS.length - (intOf i).toNat)
  case atStart => exact ⟨0, 0, d, rfl, rfl, Nat.zero_le _, by simp, rfl, HL2.out, hide (by rw [List.drop_zero]; exact HD.out.2.2.2.1), Mod.refl _ _⟩
  case round =>
    obtain ⟨j, u, di, rfl, rfl, hj, hsum, hlen, hlg, HY, hm⟩ := hrel
    have hdw := HD.out.2.2.2.2.1
    by_cases hlt2 : j < DS.length
    · have hjn : (j : Int) < (DS.length : Int) := by omega
      have hjr : j < lr.length := by rw [H2.out.2.2.2]; exact hlt2
      obtain ⟨rb0, rfl, hrb1, hrb2, hcs, hfz, hrs, hno⟩ := (H2.out.2.1.mod hm (fun k hk => by simp at hk; omega)).at_ j hjr
      have hdr : DS.drop j = DS.getD j [] :: DS.drop (j + 1) := by rw [List.drop_eq_getElem_cons hlt2]; simp [hlt2]
      have hEr : DS.getD j [] = encB (lr.getD j default).1 := by
        rw [← HD.out.1, ← H2.out.1]
        simp [hjr]
      have hmr : mayB (lr.getD j default).1 = true := HD.out.2.2.1 _ (by rw [← H2.out.1]; exact List.mem_map.2 ⟨_, by simp [hjr], rfl⟩)
      generalize lr.getD j default = rp at hcs hrs hno hEr hmr
      obtain ⟨r, sv⟩ := rp
      simp only at hrs hno hEr hmr
      rw [hEr] at hdr
      have hpth := may_path hmr
      have hwd := enc_width hmr
      have hel := enc_len hmr
      have hen0 := fun (W : World) (m : Mod [] wr W) => encode_any (w := W) (r := r) (sv := sv) (tv := .slice none 0 0) (hrs.mod m (by simp)) (by rw [hno]; exact rdN_nil _) (by omega)
      rw [hmr] at hen0
      generalize encB r = EB at hen0 hdr hwd hel
      obtain ⟨nE, hnE⟩ : ∃ n, EB.length = n := ⟨_, rfl⟩
      obtain ⟨WE, hWE⟩ : ∃ n, widthN nE = n := ⟨_, rfl⟩
      have hsE : sumW (DS.drop j) = WE + sumW (DS.drop (j + 1)) := by rw [hdr, ← hWE, ← hnE]; simp [sumW]
      rw [hnE, hWE] at hwd
      rw [hnE] at hel
      have hen := fun (W : World) (m : Mod [] wr W) => (hen0 W m).mono (R' := fun e w' => ∃ p c, e = .returned (.tuple #[.slice p nE c, .int .i64 0]) ∧ RowY w' W.heap.size (.slice p nE c) EB ∧ Mod [] W w') (fun e w' hx => by
        rcases hx with ⟨h0, _⟩ | ⟨_, h1⟩
        · cases h0
        · rw [hnE] at h1; exact h1)
      have hY := HY.out
      rw [hdr] at hY
      unfold layD at hY
      rw [hnE, hWE] at hY
      have hput0 := fun (W : World) (m : Mod [] wr W) (p : Option Addr) (c : Nat) (hu : RowY W wr.heap.size (.slice p nE c) EB) => lput_any (hlg.quiet m) (F + u) G j hu.rd hG1 (by omega) (by omega) (fun k hk => (hu.blk k hk).2) (by omega)
      have herr := writes_err di (F + u) (packL G j EB) (by rw [packL_len, hnE, hWE, hlen]; omega) pack_64
      have hlen2 : (putD di (F + u) G j EB).2.secs.length = d.secs.length := by unfold putD; rw [writes_len, hlen]
      have herr2 : (putD di (F + u) G j EB).1 = 0 ∨ (putD di (F + u) G j EB).1 = 40 := herr
      obtain ⟨⟨te, td⟩, hPt⟩ : ∃ t, putD di (F + u) G j EB = t := ⟨_, rfl⟩
      rw [hPt] at hY hput0 herr2 hlen2
      simp only at hY herr2 hlen2
      have hwf : IntKind.i64.wrap ((F : Int) + (u : Int)) = (F : Int) + (u : Int) := by rw [IntKind.wrap_i64]; omega
      have hwu : IntKind.i64.wrap ((u : Int) + (WE : Int)) = (u : Int) + (WE : Int) := by rw [IntKind.wrap_i64]; omega
      obtain ⟨q1, c1, hsv⟩ := hrs.len
      obtain ⟨kd, ⟨gi, gh, gp, gm, gs, gt⟩, ri, rs, rn, rb, rl⟩ := r
      simp only at hno hrs hsv
      obtain ⟨n1, hn1⟩ : ∃ n, gs.length = n := ⟨_, rfl⟩
      rw [hn1] at hsv
      subst hsv
      have y0 : wr.cell? ⟨rb0, j * 12, none⟩ = some (.int .i64 kd) := hcs 0 (by decide)
      have y1 : wr.cell? ⟨rb0, j * 12 + 1, none⟩ = some (.int .i64 gi) := hcs 1 (by decide)
      have y2 : wr.cell? ⟨rb0, j * 12 + 2, none⟩ = some (.int .i64 gh) := hcs 2 (by decide)
      have y3 : wr.cell? ⟨rb0, j * 12 + 3, none⟩ = some (.string gp) := hcs 3 (by decide)
      have y4 : wr.cell? ⟨rb0, j * 12 + 4, none⟩ = some (.int .i64 gm) := hcs 4 (by decide)
      have y5 : wr.cell? ⟨rb0, j * 12 + 5, none⟩ = some (.slice q1 n1 c1) := hcs 5 (by decide)
      have y6 : wr.cell? ⟨rb0, j * 12 + 6, none⟩ = some (.int .i64 gt) := hcs 6 (by decide)
      have y7 : wr.cell? ⟨rb0, j * 12 + 7, none⟩ = some (.int .i64 ri) := hcs 7 (by decide)
      have y8 : wr.cell? ⟨rb0, j * 12 + 8, none⟩ = some (.slice none 0 0) := hcs 8 (by decide)
      have y9 : wr.cell? ⟨rb0, j * 12 + 9, none⟩ = some (.int .i64 rn) := hcs 9 (by decide)
      have y10 : wr.cell? ⟨rb0, j * 12 + 10, none⟩ = some (.int .i64 rb) := hcs 10 (by decide)
      have y11 : wr.cell? ⟨rb0, j * 12 + 11, none⟩ = some (.int .i64 rl) := hcs 11 (by decide)
      have hwid := fun (W : World) => width_any nE (by omega) W
      rw [hWE] at hwid
      have C2 : ∀ W, Mod [] wr W → W.cell? ⟨pl, 2, none⟩ = some (.int .i64 (ar : Int)) := fun W m => m.kept (blk_cell hlg.blk 2) (by simp)
      have HC2 := hide C2
      have HM := hide (And.intro hlg (And.intro hm (And.intro hsE (And.intro hY hlen2))))
      unfold aggR cellsR at hen hen0
      simp only at hen hen0
      have HEn := hide hen
      have HPu := hide hput0
      clear hY hlg hm hsE hcs hrs hno hEr hmr hdr hen0 hen hput0 herr hPt hpth hn1 hnE hWE HY C2 hfz hlen hlen2
      rcases herr2 with rfl | rfl
      all_goals
        go_upto_region 12 with fail
        clear y0 y1 y2 y3 y4 y5 y6 y7 y8 y9 y10 y11
        go_wp2_with (first
          | (go_at_call 48; refine (HEn.out _ ((Mod.refl _ _).alloc _)).mono ?_; rintro e w4 ⟨p4, c4, rfl, hr4, hm4⟩
             have H4 := hide (And.intro (hr4.base (Mod.size ((Mod.refl [] wr).alloc _))) (((Mod.refl [] wr).alloc _).then hm4))
             have K2 := HC2.out w4 H4.out.2
             clear hr4 hm4 HEn)
          | (go_at_call 51; refine (hfs _).mono ?_; rintro e w5 ⟨rfl, hx⟩; rw [hx]; clear hx)
          | (go_at_call 50; refine (HPu.out _ H4.out.2 _ _ H4.out.1).mono ?_; rintro e w6 ⟨rfl, hlg6, hm6⟩
             have H6 := hide (And.intro hlg6 hm6)
             clear hlg6 hm6 HPu K2)
          | (go_at_call 49; refine (hwid _).mono ?_; rintro e w7 ⟨rfl, hx⟩; rw [hx]; clear hx)
          | fail)
      · go_roundw
        case rel =>
          obtain ⟨hlg, hm, hsE, hY, hlen2⟩ := HM.out
          have hY : layD td (F + u + WE) G (j + 1) (DS.drop (j + 1)) = T := by simpa using hY
          obtain ⟨hlg6, hm6⟩ := H6.out
          have hlg6 : LgM w6 pl pd bs (.slice gq lv.length gc) lv td ⟨gn, ar, sq, us, ⟨bn, bb, bl, bg⟩, false⟩ := by simpa using hlg6
          exact ⟨j + 1, u + WE, td, by go_num, by go_num, by omega, by omega, hlen2, hlg6, hide (by rw [← Nat.add_assoc]; exact hY), (hm.then (H4.out.2.mono (by simp))).then hm6⟩
        case measure => simp [intOf]; omega
      · go_ret
        obtain ⟨hlg, hm, hsE, hY, hlen2⟩ := HM.out
        have hY : ((40 : Int), td) = T := by simpa using hY
        obtain ⟨hlg6, hm6⟩ := H6.out
        have hlg6 : LgM w6 pl pd bs (.slice gq lv.length gc) lv td (deadL ⟨gn, ar, sq, us, ⟨bn, bb, bl, bg⟩, false⟩) := by simpa using hlg6
        rw [HR.out, ← hY, if_pos (by simp)]
        exact ⟨rfl, hlg6, ((((H1.out.2.mono (by simp)).then (H2.out.2.2.1.mono (by simp))).then hm).then (H4.out.2.mono (by simp))).then hm6⟩
    · obtain rfl : j = DS.length := by omega
      rw [List.drop_length] at hsum
      simp only [sumW, List.map_nil, List.sum_nil, Nat.add_zero] at hsum
      have hY := HY.out
      rw [List.drop_length] at hY
      unfold layD at hY
      subst hY
      have hnm := name_any hlg G ko hG1 hkle
      have C2 := blk_cell hlg.blk 2
      unfold lgCells at C2
      have herr : (nameD di G ko).1 = 0 ∨ (nameD di G ko).1 ≠ 0 := by omega
      obtain ⟨⟨ue, ud⟩, hU⟩ : ∃ t, nameD di G ko = t := ⟨_, rfl⟩
      rw [hU] at hnm herr
      simp only at herr
      have HU := hide hU
      have hsz := hm.size
      have HM := hide (And.intro hsum hm)
      clear hlg hsum HY hU hm herr
      by_cases hue : ue = 0
      · subst hue
        go_upto_region 22 with (go_at_call 44; refine hnm.mono ?_; rintro e w4 ⟨rfl, hlg4, hm4⟩
                                have H4 := hide (And.intro hlg4 hm4)
                                clear hlg4 hm4 hnm C2)
        have C4 := blk_cell H4.out.1.blk
        have F4 := blk_free H4.out.1.blk
        unfold lgCells at C4
        go_wp2_with fail
        go_ret
        obtain ⟨hsum, hm⟩ := HM.out
        rw [HR.out, if_neg (by simp), HU.out, if_neg (by simp)]
        obtain ⟨hlg4, hm4⟩ := H4.out
        obtain ⟨W5, hW5⟩ : ∃ W5, W5 = (((w4.setCell ⟨pl, 1, none⟩ (.int .i64 (G : Int))).setCell ⟨pl, 2, none⟩ (.int .i64 (ko : Int))).setCell ⟨pl, 3, none⟩ (.int .i64 (DS.length : Int))).setCell ⟨pl, 4, none⟩ (.int .i64 (u : Int)) := ⟨_, rfl⟩
        have hb5 := blk_set (blk_set (blk_set (blk_set hlg4.blk 1 (.int .i64 (G : Int))) 2 (.int .i64 (ko : Int))) 3 (.int .i64 (DS.length : Int))) 4 (.int .i64 (u : Int))
        have hms : Mod [pl] w4 W5 := by rw [hW5]; exact ((((Mod.refl _ _).setCell (fun _ => by simp) _).setCell (fun _ => by simp) _).setCell (fun _ => by simp) _).setCell (fun _ => by simp) _
        rw [← hW5] at hb5 ⊢
        rw [show sumW DS = u from hsum.symm]
        exact ⟨rfl, hlg4.cells (l' := ⟨G, ko, DS.length, u, ⟨bn, bb, bl, bg⟩, false⟩) hb5 hms (hlg4.bkm hms), ((((H1.out.2.mono (by simp)).then (H2.out.2.2.1.mono (by simp))).then hm).then (hm4.mono (by simp))).then (hms.mono (by simp))⟩
      · have hub : (ue != 0) = true := by simpa using hue
        go_upto_region 20 with (go_at_call 44; refine hnm.mono ?_; rintro e w4 ⟨rfl, hlg4, hm4⟩
                                have H4 := hide (And.intro hlg4 hm4)
                                clear hlg4 hm4 hnm C2)
        have C4 := blk_cell H4.out.1.blk
        have F4 := blk_free H4.out.1.blk
        unfold lgCells at C4
        go_wp2_with fail
        go_ret
        obtain ⟨hsum, hm⟩ := HM.out
        obtain ⟨hlg4, hm4⟩ := H4.out
        rw [HR.out, if_neg (by simp), HU.out, if_pos hue]
        have hms : Mod [pl] w4 (w4.setCell ⟨pl, 9, none⟩ (.bool true)) := (Mod.refl _ _).setCell (fun _ => by simp) _
        exact ⟨rfl, hlg4.cells (l' := deadL _) (blk_set hlg4.blk 9 _) hms (hlg4.bkm hms), ((((H1.out.2.mono (by simp)).then (H2.out.2.2.1.mono (by simp))).then hm).then (hm4.mono (by simp))).then (hms.mono (by simp))⟩
end Go.Proofs.YtpphoeimakjjdaaGreatDoor
