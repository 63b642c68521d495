/-
  WALKS: layer 17: fault, behind the look-up.
-/
import Derived.Test.YtifllaeldcimgaaGreatHoldF
import Derived.Deep.DeepCutAuto
namespace Go.Proofs.YtifllaeldcimgaaGreat
open Go.RowKit
theorem hk_alloc {w : World} {b : Nat} {x : Option Obj} (h : b < w.heap.size) (k : w.heap[b]? = x) (o : Obj) : (w.alloc o).heap[b]? = x := (((Gr.refl w).alloc o).heap h).trans k
theorem hk_set {w : World} {b : Nat} {x : Option Obj} {a : Addr} (h : a.block ≠ b) (k : w.heap[b]? = x) (v : Value) : (w.setCell a v).heap[b]? = x := (Below.heap_setCell w a v b (Ne.symm h)).trans k
section
variable {w : World} {ph pm : Nat} {fs : List Nat} {rho : Int} {l : List Lease} (f i m t s e : Int) (p : ByteArray) (a : List Int) (r : Bool) (q : Option Addr) (c : Nat) (now sent : Int)
def restS (rho : Int) (l : List Lease) (now sent t : Int) (k : Key) : Int := if (getL l k).isSome = true then 50 else if sent + shrinkI t rho ≤ now then 62 else if 8 ≤ (sweepL now l).length then 51 else 0
theorem lv_slice {lv : List (Lease × Value)} (hr : ∀ p, p ∈ lv → LsV w fs p) {p : Lease × Value} (hp : p ∈ lv) : ∃ q n c, p.2 = .slice q n c := by
  obtain ⟨q, c, h⟩ := (hr p hp).rd.len
  exact ⟨q, _, c, h⟩
def CountRel (w : World) (pm r : Nat) (now : Int) (lv : List (Lease × Value)) (g : Nat) (u : Value) (wr : World) : Prop :=
  ∃ (lf : List (Key × Value)) (lr : List (Lease × Value)) (n : Nat), lf = lr.map ent ∧ lr.length = g ∧ lr.Sublist lv ∧ RangeL nameT wr pm r (lv.map ent) lf ∧ u = .int .i64 n ∧ n + (lr.filter (keepP now)).length = (lv.filter (keepP now)).length ∧ Mod [] w wr
set_option maxHeartbeats 2000000 in
set_option maxRecDepth 100000 in
theorem fault_rest (h : Hd w ph pm fs rho l) (h0 : rangeOk now sent ⟨f, i, p, m, a, t, s, e, r⟩) (hp : p.size ≤ 9223372036854775807) (h1 : pathOk p.data.toList = true) (h2 : modeOk m) (hv : RdN w (.slice q a.length c) a) (h3 : decide (stampedOk a) = true) (h4 : decide (legalT t) = true) :
    Calls Tryz.prog 58 #[.pointer (some ⟨ph, 0, none⟩), .int .i64 now, .int .i64 sent, .agg #[.int .i64 f, .int .i64 i, .string p, .int .i64 m, .slice q a.length c, .int .i64 t, .int .i64 s, .int .i64 e, .bool r]] w fun en w' => CodeM w (restS rho l now sent t (f, i)) en w' := by
  have d4 := hide h4
  have hok : nameT.ok (f, i) := ⟨i64w_of (by have := h0.2.1; simp only at this; omega) (by have := h0.2.2.1; simp only at this; omega), i64w_of (by have := h0.2.2.2.1; simp only at this; omega) (by have := h0.2.2.2.2; simp only at this; omega)⟩
  have hB := heap_alloc_new w (objL f i p m (.slice q a.length c) t s e r)
  have hd1 := h.gr ((Gr.refl w).alloc (objL f i p m (.slice q a.length c) t s e r))
  obtain ⟨lv, xf, xi, xp, xm, v, xa, xt, xs, xe, xr, b, hm, hxv, _, _, _, e2, e3⟩ := look_lease hd1 (f, i)
  obtain ⟨q0, c0, hv0⟩ := hxv.rd.len
  simp only at hv0
  subst hv0
  have HE2 := hide e2
  have HH := hide h
  have HT := hide (of_decide_eq_true h4)
  have HM := hide h0.1
  have hm1 : Mod [] w (w.alloc (objL f i p m (.slice q a.length c) t s e r)) := ((Gr.refl w).alloc _).mod []
  have hlt := h.lt.1
  have HE := hide e3
  have HB := hide (And.intro hB (And.intro hd1 hm))
  obtain ⟨h0, r1, r2, r3, r4⟩ := h0
  simp only at r1 r2 r3 r4
  have d0 : decide (momOk now sent) = true := decide_eq_true h0
  have D0 := hide d0
  have D1 := hide h1
  have d3 := hide h3
  have hv1 := hv.gr ((Gr.refl w).alloc (objL f i p m (.slice q a.length c) t s e r))
  clear h0 d0 h1 hv h3 h4 h hd1 hm hB e3 hxv e2
  rcases h2 with rfl | rfl
  all_goals
    go_enter Tryz.func58, Tryz.ntmps58
    go_wp2_with fail
    refine (mom_any _ _ _).mono ?_
    rintro en w' ⟨rfl, rfl⟩
    rw [D0.out]
    clear D0
    go_wp2_with fail
    refine (pvalid_any p hp _).mono ?_
    rintro en w' ⟨rfl, rfl⟩
    rw [D1.out]
    clear D1
    go_wp2_with fail
    refine (stp_any hv1).mono ?_
    rintro en w' ⟨rfl, rfl⟩
    rw [d3.out]
    clear d3
    go_wp2_with fail
    refine (lgl_any _ _).mono ?_
    rintro en w' ⟨rfl, rfl⟩
    rw [d4.out]
    clear d4
    go_upto_region 11 with fail
    obtain ⟨hB, hd1, hm⟩ := HB.out
    generalize hW : w.alloc (objL f i p _ (.slice q a.length c) t s e r) = W at hB hd1 hm hm1 ⊢
    clear hW hv1
    have hC := blk_cell hB
    have hc : W.cell? ⟨ph, 1, none⟩ = _ := hd1.cell1
    have hlm := hm.lt
    have HK : ∀ w', w'.heap[pm]? = W.heap[pm]? → (Instr.lookup 62 (.map (some pm)) (.agg #[.int .i64 f, .int .i64 i]) true).run Tryz.prog w' = .ok (.tuple #[.agg #[.int .i64 xf, .int .i64 xi, .string xp, .int .i64 xm, .slice q0 xa.length c0, .int .i64 xt, .int .i64 xs, .int .i64 xe, .bool xr], .bool b]) w' := by
      intro w' hw'
      have hlook := (hm.at_ hw').look (t := 62) Tryz.underlying62 (zero_lease w') true hok
      change _ = Result.ok (lookV true _ _) _ at hlook
      rw [HE.out] at hlook
      exact hlook
    have hlk := HK W rfl
    have HK' := hide HK
    have hsz := lt_of_block hB
    have hlW := hd1.lt.1
    have c0' : W.cell? ⟨w.heap.size, 0, none⟩ = some (.int .i64 f) := blk_cell hB 0
    have c1' : W.cell? ⟨w.heap.size, 1, none⟩ = some (.int .i64 i) := blk_cell hB 1
    have c5' : W.cell? ⟨w.heap.size, 5, none⟩ = some (.int .i64 t) := blk_cell hB 5
    have hd1' := hd1
    clear HB hB hd1 hm HE HK hC
    go_cut [10] (fun s10 wx => s10 = .bool b ∧ Hd wx ph pm fs rho l ∧ Mod [] w wx ∧ wx.cell? ⟨w.heap.size, 5, none⟩ = some (.int .i64 t))
    case first =>
      go_region_held3 (fun w' => w'.cell? ⟨ph, 1, none⟩ = some (.map (some pm)) ∧ w'.cell? ⟨w.heap.size, 0, none⟩ = some (.int .i64 f) ∧ w'.cell? ⟨w.heap.size, 1, none⟩ = some (.int .i64 i) ∧ (Instr.lookup 62 (.map (some pm)) (.agg #[.int .i64 f, .int .i64 i]) true).run Tryz.prog w' = .ok (.tuple #[.agg #[.int .i64 xf, .int .i64 xi, .string xp, .int .i64 xm, .slice q0 xa.length c0, .int .i64 xt, .int .i64 xs, .int .i64 xe, .bool xr], .bool b]) w')
        (first | (go_split_ands; refine ⟨?_, ?_, ?_, HK'.out _ ?_⟩ <;> (first | rfl | (exact hk_alloc hlm rfl _) | (exact hk_set (by simp; omega) rfl _) | go_keep)))
        (fail)
      all_goals
        go_wp2_with fail
        go_meet
        case rel =>
          exact ⟨rfl, hd1'.gr ((Gr.refl W).alloc (objL xf xi xp xm (.slice q0 xa.length c0) xt xs xe xr)).drew, (hm1.alloc (objL xf xi xp xm (.slice q0 xa.length c0) xt xs xe xr)).drew, ((Gr.refl W).alloc (objL xf xi xp xm (.slice q0 xa.length c0) xt xs xe xr)).drew.kept c5'⟩
    case rest =>
      obtain ⟨rfl, hd2, hm2, hcb⟩ := hcut
      clear hlk c0' c1' c5' hlW hc hlm HK' hm1 hd1'
      cases b
      · have hto : termOk t rho := by
          have h1 := HT.out
          have h2 := hd2.rhoOk
          unfold legalT at h1
          exact ⟨by omega, h1.2, h2.1, h2.2⟩
        have hmo : momOk now sent := HM.out
        have hc00 := hd2.cell0
        go_wp2_with fail
        refine (until_any hc00 sent t hto hmo.1 (by have := hmo.2; omega)).mono ?_
        rintro en w' ⟨rfl, rfl⟩
        have hbd := shrinkI_bound hto
        obtain ⟨u, hu⟩ : ∃ u, sent + shrinkI t rho = u := ⟨_, rfl⟩
        rw [hu]
        have HU := hide hu
        clear hu hc00 hto hmo hbd
        by_cases hle : u ≤ now
        · go_wp2_with fail
          go_ret
          exact ⟨by unfold restS; rw [if_neg (by rw [HE2.out]; decide), if_pos (by rw [HU.out]; exact hle)]; rfl, hm2⟩
        · have HLE := hide hle
          obtain ⟨lv2, hmL, hpL, hrL⟩ := hd2.rep
          have HRL := hide hrL
          clear hrL
          have hc1 := hd2.cell1
          have HPL := hide hpL
          clear hpL
          go_wp2_with (
            at_range
            refine wpList_range_L (T := nameT) _ rfl _ rfl Tryz.underlying62 rfl hmL ?_
            intro w3 hR0 hm3 hs3)
          go_frame
          go_loopg [11] lv2.length (fun g u wr => CountRel w' pm w'.heap.size now lv2 g u wr)
          case atStart => exact ⟨lv2.map ent, lv2, 0, rfl, rfl, List.Sublist.refl _, hR0, rfl, by simp, hm3⟩
          case round =>
            clear hR0 hm3 hs3 hc1
            obtain ⟨lf, lr, n, hlf, hg, hsub, hR, rfl, hn, hmw⟩ := hrel
            have HLF := hide hlf
            have HG := hide hg
            have HN := hide hn
            clear hlf hg hn
            go_wp2_with (
              at_next
              refine wpList_next_L (T := nameT) _ rfl _ rfl rfl hR ?_ ?_)
            · intro h0
              have hlr : lr = [] := by
                have := HLF.out
                rw [h0] at this
                exact List.map_eq_nil_iff.1 this.symm
              have hn : n = (sweepL now l).length := by
                have h1 := HN.out
                rw [hlr] at h1
                have h2 : (lv2.filter (keepP now)).length = (sweepL now l).length := by
                  have e : (lv2.filter (keepP now)).map Prod.fst = (lv2.map Prod.fst).filter fun y => decide (now < y.expiry) := by
                    rw [List.filter_map]
                    rfl
                  have := congrArg List.length e
                  rw [List.length_map, ((HPL.out.filter _).length_eq)] at this
                  exact this
                rw [← h2, ← h1]
                simp
              have hfin : restS rho l now sent t (f, i) = if 8 ≤ n then 51 else 0 := by
                unfold restS
                rw [if_neg (by rw [HE2.out]; decide), if_neg (by rw [HU.out]; exact Int.not_le.2 HLE.out), hn]
              have HFI := hide hfin
              clear hlr hn hfin h0 hR HLE hle
              by_cases h8 : 8 ≤ n
              · have h9 : (8 : Int) ≤ (n : Int) := by omega
                go_wp2_with fail
                go_ret
                exact ⟨by rw [HFI.out, if_pos h8]; rfl, hm2.then hmw⟩
              · have h9 : ¬ (8 : Int) ≤ (n : Int) := by omega
                go_wp2_with fail
                go_ret
                exact ⟨by rw [HFI.out, if_neg h8]; rfl, hm2.then hmw⟩
            · intro k1 k2 v w4 hx hR2 hm4 hen
              rw [HLF.out] at hx hR2
              obtain ⟨pp, hp', ep⟩ := List.mem_map.1 hx
              have h1 := hmL.one
              rw [List.pairwise_map] at h1
              have hpk := pick_perm (List.Pairwise.sublist hsub h1) hp'
              obtain ⟨⟨yf, yi, yp, ym, ya, yt, ys, ye, yr⟩, v0⟩ := pp
              have hvs := lv_slice HRL.out (hsub.subset hp')
              obtain ⟨q9, n9, c9, hv9⟩ := hvs
              simp only at hv9
              subst hv9
              have ek : (k1, k2) = (yf, yi) := (congrArg Prod.fst ep).symm
              have ev : v = .agg #[.int .i64 yf, .int .i64 yi, .string yp, .int .i64 ym, .slice q9 n9 c9, .int .i64 yt, .int .i64 ys, .int .i64 ye, .bool yr] := (congrArg Prod.snd ep).symm
              simp only [Prod.mk.injEq] at ek
              obtain ⟨rfl, rfl⟩ := ek
              subst ev
              have hmw4 := hmw.trans hm4 (U := []) (by simp) (fun x hx hlt => by simp at hx; omega)
              have hlen := hpk.length_eq
              simp only [List.length_cons] at hlen
              have hf2 : (lr.filter (keepP now)).length = (if now < ye then 1 else 0) + ((lr.filter fun q => decide ((ent q).1 ≠ (k1, k2))).filter (keepP now)).length := by
                have h2 := (hpk.filter (keepP now)).length_eq
                rw [h2, List.filter_cons]
                by_cases hy : now < ye
                · rw [if_pos (by simp [keepP, hy]), if_pos hy, List.length_cons, Nat.add_comm]
                  rfl
                · rw [if_neg (by simp [keepP, hy]), if_neg hy, Nat.zero_add]
                  rfl
              have hkk : delM lf (k1, k2) = (lr.filter fun q => decide ((ent q).1 ≠ (k1, k2))).map ent := by
                rw [HLF.out]
                unfold delM
                rw [List.filter_map]
                rfl
              have hgk : gk - 1 < gk := by have := HG.out; omega
              have hnn : n ≤ lv2.length := by
                have h2 := HN.out
                have h3 : (lv2.filter (keepP now)).length ≤ lv2.length := List.length_filter_le _ _
                omega
              have hl8 : lv2.length ≤ 8 := by
                have h2 := HPL.out.length_eq
                have h3 := hd2.small
                simp at h2
                omega
              have hrel : ∀ w6 (n' : Nat), Mod [] w4 w6 → n' = n + (if now < ye then 1 else 0) → CountRel w' pm w'.heap.size now lv2 (gk - 1) (.int .i64 n') w6 := by
                intro w6 n' hm6 hn'
                refine ⟨_, _, n', hkk, ?_, (List.filter_sublist (p := fun q => decide ((ent q).1 ≠ (k1, k2)))).trans hsub, ?_, rfl, ?_, hmw4.then hm6⟩
                · have := HG.out
                  have e : (lr.filter fun q => decide ((ent q).1 ≠ (k1, k2))).length + 1 = lr.length := hlen.symm
                  omega
                · have := hR2.mod _ hm6 (by simp) (by simp)
                  rw [HLF.out]; exact this
                · have h2 := HN.out
                  rw [hf2] at h2
                  omega
              have HREL := hide hrel
              have hma := ((Gr.refl w4).alloc (objL k1 k2 yp ym (.slice q9 n9 c9) yt ys ye yr)).mod []
              simp only [nameT] at hen
              clear hrel hR2 hx hpk hlen hf2 hkk hR hp' ep h1 hmw hm4
              by_cases hy : now < ye
              · go_wp2_with fail
                go_roundg (gk - 1)
                case measure => exact hgk
                case rel =>
                  have := HREL.out _ (n + 1) hma (by rw [if_pos hy])
                  exact this
              · go_wp2_with fail
                go_roundg (gk - 1)
                case measure => exact hgk
                case rel => exact HREL.out _ n hma (by rw [if_neg (Int.not_lt.2 hy)]; rfl)
      · go_wp2_with fail
        go_ret
        exact ⟨by unfold restS; rw [if_pos HE2.out]; rfl, hm2⟩
end
end Go.Proofs.YtifllaeldcimgaaGreat
