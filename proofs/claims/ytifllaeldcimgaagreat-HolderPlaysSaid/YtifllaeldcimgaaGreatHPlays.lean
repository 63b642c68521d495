/-
  WALK: the law HolderPlays. (The great seat alone.)
-/
import Derived.Test.YtifllaeldcimgaaGreatHDoc
import Derived.Deep.DeepCutAuto
import Derived.Deep.CutBlock
import Derived.Deep.LoopGhost
import Derived.Deep.RegionHeld3
namespace Go.Proofs.YtifllaeldcimgaaGreat
open Go.RowKit

abbrev objO (kd nw st f i : Int) (p : ByteArray) (m : Int) (v : Value) (t s e : Int) (r : Bool) : Obj := .cells #[.int .i64 kd, .int .i64 nw, .int .i64 st, .int .i64 f, .int .i64 i, .string p, .int .i64 m, v, .int .i64 t, .int .i64 s, .int .i64 e, .bool r] 38 (0, 0)
def PLRel (W : World) (mb ph pm : Nat) (rho : Int) (n g : Nat) (i : Value) (wr : World) : Prop :=
  ∃ (k : Nat) (fs f : List Nat) (l : List Lease) (v : Value), k + g = n ∧ i = .int .i64 k ∧ DS W wr mb ph pm fs f rho l l v
/-- behind the switch -/
def SwR (W : World) (mb ph pm : Nat) (rho : Int) (lb : Nat) (o : Obj) (s11 : Value) (wx : World) : Prop :=
  s11 = .bool true ∧ ∃ (fs f : List Nat) (l : List Lease) (v : Value), DS W wx mb ph pm fs f rho l l v ∧ wx.heap[lb]? = some o
set_option maxHeartbeats 8000000 in
set_option maxRecDepth 100000 in
theorem plays_any {W : World} {p0 : Option Addr} {c0 : Nat} {sc : List OpL} (h : RdOp W (.slice p0 sc.length c0) sc) (rho : Int) :
    Calls Tryz.prog 3 #[.int .i64 rho, .slice p0 sc.length c0] W fun e w' => e = .returned (.bool true) ∧ Mod [] W w' := by
  have hll : sc.length ≤ 9223372036854775807 := h.1
  obtain ⟨i0, hi0, hz0, hs0, hb0⟩ := info_parts info_int
  go_enter Tryz.func3, Tryz.ntmps3
  go_wp2_with fail
  refine (awake_any _).mono ?_
  rintro en w1 ⟨rfl, hm1⟩
  by_cases hr : 0 ≤ rho ∧ rho ≤ 999
  · go_wp2_with fail
    refine (hnew_ok rho hr w1).mono ?_
    rintro en w2 ⟨rfl, hd2, hg2⟩
    have hs1 := hm1.size
    have hz2 := hg2.size
    have hlt2 := hd2.lt
    go_wp2_with fail
    refine (rnew_ok rho hr w2).mono ?_
    rintro en w3 ⟨rfl, hg3⟩
    have hz3 := hg3.size
    have g4 := (Gr.refl w3).alloc (objD rho (.slice none 0 0))
    have D : DS W (w3.alloc (objD rho (.slice none 0 0))) w3.heap.size (w1.heap.size + 1) w1.heap.size [] [] rho [] [] (.slice none 0 0) :=
      ⟨⟨(hd2.gr hg3).gr g4, ((hm1.gr hg2).gr hg3).gr g4, by omega, by omega⟩, ⟨⟨by simp, [], rfl, by simp, .inl ⟨none, 0, rfl, rfl⟩⟩, by simp⟩, heap_alloc_new w3 _, by omega, by omega, by omega, by simp, by simp, by simp⟩
    have HD := hide D
    clear D hd2 hg2 hg3 g4 hm1
    generalize w1.heap.size + 1 = ph at HD hlt2 ⊢
    generalize w1.heap.size = pm at HD hlt2 hs1 hz2
    go_wp2_with fail
    generalize w3.heap.size = mb at HD hz3 ⊢
    go_loopg [10, 11, 12, 56] sc.length (fun g _ _ _ ii wr => PLRel W mb ph pm rho sc.length g ii wr)
    case atStart => exact ⟨0, [], [], [], _, Nat.zero_add _, rfl, HD.out⟩
    case round =>
      clear HD hs1 hz2 hlt2 hz3
      obtain ⟨k, fs, f, l, v, hk, rfl, hD⟩ := hrel
      by_cases hlt : k < sc.length
      · obtain ⟨gg, rfl⟩ : ∃ g, gk = g + 1 := ⟨gk - 1, by omega⟩
        obtain ⟨b, off, kd, nw, st, xf, xi, xp, xm, xa, xt, xs, xe, xr, xq, xc, rfl, hb, -, c0, c1, c2, c3, c4, c5, c6, c7, c8, c9, c10, c11, hrdW, hin⟩ := h.at_ k hlt
        obtain ⟨-, -, -, ⟨wf, wi, -, -, -, -⟩, hxp, hxs⟩ := hin
        simp only at wf wi hxp hxs
        replace c0 := hD.hs.mod.kept c0 (by simp)
        replace c1 := hD.hs.mod.kept c1 (by simp)
        replace c2 := hD.hs.mod.kept c2 (by simp)
        replace c3 := hD.hs.mod.kept c3 (by simp)
        replace c4 := hD.hs.mod.kept c4 (by simp)
        replace c5 := hD.hs.mod.kept c5 (by simp)
        replace c6 := hD.hs.mod.kept c6 (by simp)
        replace c7 := hD.hs.mod.kept c7 (by simp)
        replace c8 := hD.hs.mod.kept c8 (by simp)
        replace c9 := hD.hs.mod.kept c9 (by simp)
        replace c10 := hD.hs.mod.kept c10 (by simp)
        replace c11 := hD.hs.mod.kept c11 (by simp)
        have i1 : (0 : Int) ≤ (k : Int) := by omega
        have i2 : (k : Int) < (sc.length : Int) := by omega
        obtain ⟨pv, cv, rfl⟩ := hD.dc.rd.len
        have g0 := ((Gr.refl wr).alloc (objO kd nw st xf xi xp xm (.slice xq xa.length xc) xt xs xe xr)).alloc (objL xf xi xp xm (.slice xq xa.length xc) xt xs xe xr)
        have bO := blk_alloc (heap_alloc_new wr (objO kd nw st xf xi xp xm (.slice xq xa.length xc) xt xs xe xr)) (objL xf xi xp xm (.slice xq xa.length xc) xt xs xe xr)
        have bL := heap_alloc_new (wr.alloc (objO kd nw st xf xi xp xm (.slice xq xa.length xc) xt xs xe xr)) (objL xf xi xp xm (.slice xq xa.length xc) xt xs xe xr)
        have e0 : (wr.alloc (objO kd nw st xf xi xp xm (.slice xq xa.length xc) xt xs xe xr)).heap.size = wr.heap.size + 1 := by simp
        rw [e0] at bL
        have CO := blk_cell bO
        have CL := blk_cell bL
        have hD0 := hD.gr g0
        have hmbl := hD.lt
        have HX := hide (And.intro hD0 (And.intro bO bL))
        have HR := hide (And.intro hrdW h)
        have HW := hide (And.intro wf (And.intro wi (And.intro hxp hxs)))
        clear hD g0 bO bL e0 hD0 hrdW h wf wi hxp hxs
        go_upto_block 2 with fail
        clear c0 c1 c2 c3 c4 c5 c6 c7 c8 c9 c10 c11
        obtain ⟨lb, hlb⟩ : ∃ lb, wr.heap.size + 1 = lb := ⟨_, rfl⟩
        generalize (wr.alloc (objO kd nw st xf xi xp xm (.slice xq xa.length xc) xt xs xe xr)).alloc (objL xf xi xp xm (.slice xq xa.length xc) xt xs xe xr) = w0 at HX CO CL ⊢
        go_cut [11] (fun s11 wx => SwR W mb ph pm rho lb (objL xf xi xp xm (.slice xq xa.length xc) xt xs xe xr) s11 wx)
        case first =>
          subst hlb
          obtain ⟨hD0, bO, bL⟩ := HX.out
          obtain ⟨wf, wi, hxp, hxs⟩ := HW.out
          have CM := blk_cell hD0.bx
          have FM := blk_free hD0.bx
          clear HX HW
          by_cases k1 : kd = 1
          · subst k1
            as_aux_lemma =>
              obtain ⟨⟨L', bb⟩, hsp⟩ : ∃ sp, renewedS rho l nw st (xf, xi) xa xt = sp := ⟨_, rfl⟩
              have hrd0 := HR.out.1.mod hD0.hs.mod (by simp)
              go_wp2_with fail
              refine (rrenewed_any hD0.dc hD0.hs.hd.srt hD0.hs.hd.small hD0.hs.hd.ok hD0.hs.hd.rhoOk nw st xf xi xt xa xq xc hrd0).mono ?_
              rintro en w1 ⟨v1, rfl, hd1⟩
              rw [hsp] at hd1 ⊢
              simp only at hd1 ⊢
              obtain ⟨p1, c1', rfl⟩ := hd1.shape
              have CM1 := blk_cell (hd1.md.at_ hD0.bx (by simp))
              have FM1 := blk_free (hd1.md.at_ hD0.bx (by simp))
              have CL1 := blk_cell (hd1.md.at_ bL (by simp))
              have CO1 := blk_cell (hd1.md.at_ bO (by simp))
              have hl1 := lt_of_block (hd1.md.at_ bL (by simp))
              have hmb1 := lt_of_block (hd1.md.at_ hD0.bx (by simp))
              have hlo1 := lt_of_block (hd1.md.at_ bO (by simp))
              obtain ⟨f1, hD1, hm1⟩ := hD0.doc hd1 (Mod.refl [] w1)
              replace hD1 := hD1.gr ((Gr.refl _).alloc (objD rho (.slice p1 L'.length c1')))
              replace hm1 := hm1.gr ((Gr.refl _).alloc (objD rho (.slice p1 L'.length c1')))
              have bL1 := hm1.at_ bL (by simp; omega)
              have bO1 := hm1.at_ bO (by simp; omega)
              have HY := hide (And.intro hD1 (And.intro bL1 bO1))
              clear hD0 hd1 hD1 hm1 CM FM bL1 bO1 bL bO CO CL
              go_upto_region 21 with fail
              clear CM1 FM1 CL1 CO1 hl1 hmb1 hlo1
              generalize ((w1.setCell ⟨mb, 0, none⟩ (.int .i64 rho)).setCell ⟨mb, 1, none⟩ (.slice p1 L'.length c1')).alloc (objD rho (.slice p1 L'.length c1')) = wc at HY ⊢
              obtain ⟨hD', bL', bO'⟩ := HY.out
              have hrd := HR.out.1.mod hD'.hs.mod (by simp)
              have hlb2 := lt_of_block bL'
              have hob2 := lt_of_block bO'
              have hpm2 := hD'.lt.2.2
              have S0 : ∀ w' : World, w'.heap[wr.heap.size + 1]? = wc.heap[wr.heap.size + 1]? → w'.heap[wr.heap.size]? = wc.heap[wr.heap.size]? → w'.cell? ⟨wr.heap.size, 1, none⟩ = some (.int .i64 nw) ∧ w'.cell? ⟨wr.heap.size, 2, none⟩ = some (.int .i64 st) ∧ w'.cell? ⟨wr.heap.size + 1, 0, none⟩ = some (.int .i64 xf) ∧ w'.cell? ⟨wr.heap.size + 1, 1, none⟩ = some (.int .i64 xi) ∧ w'.cell? ⟨wr.heap.size + 1, 4, none⟩ = some (.slice xq xa.length xc) ∧ w'.cell? ⟨wr.heap.size + 1, 5, none⟩ = some (.int .i64 xt) := by
                intro w' e1 e2
                have C1 := blk_cell (e1.trans bL')
                have C2 := blk_cell (e2.trans bO')
                exact ⟨C2 1, C2 2, C1 0, C1 1, C1 4, C1 5⟩
              obtain ⟨k0, k1, k2, k3, k4, k5⟩ := S0 wc rfl rfl
              have HS := hide S0
              have HD2 := hide (And.intro hD' (And.intro bL' hrd))
              clear S0 hD' bL' bO' hrd HY
              go_region_held3 (fun w' => w'.cell? ⟨wr.heap.size, 1, none⟩ = some (.int .i64 nw) ∧ w'.cell? ⟨wr.heap.size, 2, none⟩ = some (.int .i64 st) ∧ w'.cell? ⟨wr.heap.size + 1, 0, none⟩ = some (.int .i64 xf) ∧ w'.cell? ⟨wr.heap.size + 1, 1, none⟩ = some (.int .i64 xi) ∧ w'.cell? ⟨wr.heap.size + 1, 4, none⟩ = some (.slice xq xa.length xc) ∧ w'.cell? ⟨wr.heap.size + 1, 5, none⟩ = some (.int .i64 xt))
                (first | go_keep | fail)
                (first
                  | (refine step_append_empty _ (by rfl) _ _ 34 (by rfl) 3 i0 Tryz.underlying34 hi0 hz0 hs0 hb0 (g := wc.heap.size) (by rfl) (heap_alloc_new wc _) (by rfl) (HD2.out.2.2.gr (by repeat (first | exact Gr.refl _ | apply Gr.drew | apply Gr.alloc | fail))) hxs ?_; intro q2 c2 w2 hr2 ho2 hm2; have hM2 : Mod [] wc w2 := Mod.trans (S := []) (U := []) (by repeat (first  | exact Mod.refl _ _ | apply Mod.alloc | apply Mod.drew | fail)) hm2 (by simp) (fun x hx hlt => by simp at hx; omega); obtain ⟨j0, j1, j2, j3, j4, j5⟩ := HS.out w2 (hM2.block _ hlb2 (by simp)) (hM2.block _ hob2 (by simp)))
                  | (go_at_call 8; refine (renewed_eq (HD2.out.1.same (by repeat (first | exact hM2 | exact Mod.refl _ _ | apply Mod.alloc | apply Mod.drew | fail))).hs.hd nw st xf xi xt xa q2 c2 wf wi (hr2.gr (by repeat (first | exact Gr.refl _ | apply Gr.drew | apply Gr.alloc | fail))) hsp).mono ?_; rintro en w3 ⟨rfl, fs3, hh3, ht3⟩; have hM3 : Mod [pm] wc w3 := Mod.then (Mod.mono (by repeat (first | exact hM2 | exact Mod.refl _ _ | apply Mod.alloc | apply Mod.drew | fail)) (by simp)) ht3.mod; obtain ⟨j0, j1, j2, j3, j4, j5⟩ := HS.out w3 (hM3.block _ hlb2 (by simp; omega)) (hM3.block _ hob2 (by simp; omega)))
                  | fail)
              have HF := hide (And.intro ((HD2.out.1.same (by repeat (first | exact hM2 | exact Mod.refl _ _ | apply Mod.alloc | apply Mod.drew | fail))).hold hh3 ht3) (hM3.at_ HD2.out.2.1 (by simp; omega)))
              clear HD2 HS k0 k1 k2 k3 k4 k5 hM2 hM3 hh3 ht3 hr2 hm2 ho2
              cases bb
              all_goals
                go_wp2_with fail
                go_meet
                case rel => exact ⟨rfl, _, _, _, _, HF.out.1, HF.out.2⟩
          · have b1 : (kd == 1) = false := by simpa using k1
            by_cases k2 : kd = 2
            · subst k2
              as_aux_lemma =>
                obtain ⟨⟨L', bb⟩, hsp⟩ : ∃ sp, recallS l (xf, xi) = sp := ⟨_, rfl⟩
                go_wp2_with fail
                refine (rrecall_any hD0.dc hD0.hs.hd.srt hD0.hs.hd.small rho xf xi).mono ?_
                rintro en w1 ⟨v1, rfl, hd1⟩
                rw [hsp] at hd1 ⊢
                simp only at hd1 ⊢
                obtain ⟨p1, c1', rfl⟩ := hd1.shape
                have CM1 := blk_cell (hd1.md.at_ hD0.bx (by simp))
                have FM1 := blk_free (hd1.md.at_ hD0.bx (by simp))
                have CL1 := blk_cell (hd1.md.at_ bL (by simp))
                have CO1 := blk_cell (hd1.md.at_ bO (by simp))
                have hl1 := lt_of_block (hd1.md.at_ bL (by simp))
                have hmb1 := lt_of_block (hd1.md.at_ hD0.bx (by simp))
                have hlo1 := lt_of_block (hd1.md.at_ bO (by simp))
                obtain ⟨f1, hD1, hm1⟩ := hD0.doc hd1 (Mod.refl [] w1)
                replace hD1 := hD1.gr ((Gr.refl _).alloc (objD rho (.slice p1 L'.length c1')))
                replace hm1 := hm1.gr ((Gr.refl _).alloc (objD rho (.slice p1 L'.length c1')))
                have HY := hide (And.intro hD1 hm1)
                clear hD0 hd1 hD1 hm1 CM FM
                go_wp2_with fail
                obtain ⟨hD1, hm1⟩ := HY.out
                refine (recall_eq hD1.hs.hd xf xi wf wi hsp).mono ?_
                rintro en w2 ⟨rfl, fs2, hh2, ht2⟩
                have hD2 := hD1.hold hh2 ht2
                have bL2 := ht2.mod.at_ (hm1.at_ bL (by simp; omega)) (by simp; omega)
                have HF := hide (And.intro hD2 bL2)
                clear HY hD1 hm1 hh2 ht2 hD2 bL2 bL bO CM1 FM1 CL1 CO1 CO CL
                try cases bb
                all_goals
                  go_wp2_with fail
                  go_meet
                  case rel => exact ⟨rfl, _, _, _, _, HF.out.1, HF.out.2⟩
            · have b2 : (kd == 2) = false := by simpa using k2
              by_cases k3 : kd = 3
              · subst k3
                as_aux_lemma =>
                  obtain ⟨⟨L', bb⟩, hsp⟩ : ∃ sp, dropS l (xf, xi) = sp := ⟨_, rfl⟩
                  go_wp2_with fail
                  refine (rdropd_any hD0.dc (by have := hD0.hs.hd.small; omega) rho xf xi).mono ?_
                  rintro en w1 ⟨v1, rfl, hd1⟩
                  have hsp1 : delL l (xf, xi) = L' := congrArg Prod.fst hsp
                  have hsp2 : decide ((delL l (xf, xi)).length < l.length) = bb := by rw [← del_isSome]; exact congrArg Prod.snd hsp
                  rw [hsp1] at hd1
                  rw [hsp2]
                  obtain ⟨p1, c1', rfl⟩ := hd1.shape
                  have CM1 := blk_cell (hd1.md.at_ hD0.bx (by simp))
                  have FM1 := blk_free (hd1.md.at_ hD0.bx (by simp))
                  have CL1 := blk_cell (hd1.md.at_ bL (by simp))
                  have CO1 := blk_cell (hd1.md.at_ bO (by simp))
                  have hl1 := lt_of_block (hd1.md.at_ bL (by simp))
                  have hmb1 := lt_of_block (hd1.md.at_ hD0.bx (by simp))
                  have hlo1 := lt_of_block (hd1.md.at_ bO (by simp))
                  obtain ⟨f1, hD1, hm1⟩ := hD0.doc hd1 (Mod.refl [] w1)
                  replace hD1 := hD1.gr ((Gr.refl _).alloc (objD rho (.slice p1 L'.length c1')))
                  replace hm1 := hm1.gr ((Gr.refl _).alloc (objD rho (.slice p1 L'.length c1')))
                  have HY := hide (And.intro hD1 hm1)
                  clear hD0 hd1 hD1 hm1 CM FM
                  go_wp2_with fail
                  obtain ⟨hD1, hm1⟩ := HY.out
                  refine (drop_eq hD1.hs.hd xf xi wf wi hsp).mono ?_
                  rintro en w2 ⟨rfl, fs2, hh2, ht2⟩
                  have hD2 := hD1.hold hh2 ht2
                  have bL2 := ht2.mod.at_ (hm1.at_ bL (by simp; omega)) (by simp; omega)
                  have HF := hide (And.intro hD2 bL2)
                  clear HY hD1 hm1 hh2 ht2 hD2 bL2 bL bO CM1 FM1 CL1 CO1 CO CL
                  try cases bb
                  all_goals
                    go_wp2_with fail
                    go_meet
                    case rel => exact ⟨rfl, _, _, _, _, HF.out.1, HF.out.2⟩
              · have b3 : (kd == 3) = false := by simpa using k3
                by_cases k4 : kd = 4
                · subst k4
                  as_aux_lemma =>
                    obtain ⟨o, ho⟩ : ∃ o, useS l nw xp.data.toList xm = o := ⟨_, rfl⟩
                    obtain ⟨y, hy⟩ : ∃ y, o.1.getD Lease.zero = y := ⟨_, rfl⟩
                    obtain ⟨yf, yi, yp, ym, ya, yt, ys, ye, yr⟩ := y
                    go_wp2_with fail
                    refine (huse_any hD0.hs.hd nw xp xm (by omega)).mono ?_
                    rintro en w1 hu1
                    rw [ho] at hu1
                    obtain ⟨v1, f1, rfl, hr1, hf1, hm1⟩ := hu1
                    rw [hy] at hr1 ⊢
                    obtain ⟨q1, c1', hv1⟩ := hr1.rd.len
                    simp only at hv1
                    subst hv1
                    simp only [aggL, cellsL]
                    have g5 := (Gr.refl w1).alloc (objL yf yi yp ym (.slice q1 ya.length c1') yt ys ye yr)
                    have hD1 := (hD0.same hm1).gr g5
                    have bL1 := blk_alloc (hm1.at_ bL (by simp)) (objL yf yi yp ym (.slice q1 ya.length c1') yt ys ye yr)
                    have bO1 := blk_alloc (hm1.at_ bO (by simp)) (objL yf yi yp ym (.slice q1 ya.length c1') yt ys ye yr)
                    have bB1 := heap_alloc_new w1 (objL yf yi yp ym (.slice q1 ya.length c1') yt ys ye yr)
                    have CL1 := blk_cell bL1
                    have CO1 := blk_cell bO1
                    have CM1 := blk_cell hD1.bx
                    have hl1 := lt_of_block (hm1.at_ bL (by simp))
                    have hlo1 := lt_of_block (hm1.at_ bO (by simp))
                    have hmb1 := lt_of_block (hm1.at_ hD0.bx (by simp))
                    have hrr1 : RdN w1 (.slice q1 ya.length c1') ya := hr1.rd
                    have HY := hide (And.intro hD1 (And.intro bL1 (And.intro bB1 (hrr1.gr g5))))
                    clear hD0 hD1 bL1 bO1 bB1 hr1 hrr1 hf1 hm1 bL bO CM FM CO CL g5
                    go_wp2_with fail
                    refine (ruse_any HY.out.1.dc HY.out.1.hs.hd.srt (fun x hx => okL_path (HY.out.1.hs.hd.ok x hx)) (by have := HY.out.1.hs.hd.small; omega) rho nw xp hxp xm).mono ?_
                    rintro en w2 hu2
                    rw [ho] at hu2
                    obtain ⟨v2, rfl, hr2, hm2⟩ := hu2
                    rw [hy] at hr2 ⊢
                    obtain ⟨q2, c2', hv2⟩ := hr2.rd.len
                    simp only at hv2
                    subst hv2
                    simp only [aggL, cellsL]
                    obtain ⟨hD1, bL1, bB1, hrr1⟩ := HY.out
                    have g6 := (Gr.refl w2).alloc (objL yf yi yp ym (.slice q2 ya.length c2') yt ys ye yr)
                    have hrr2 : RdN w2 (.slice q2 ya.length c2') ya := hr2.rd
                    have HY2 := hide (And.intro ((hD1.same hm2).gr g6) (And.intro (blk_alloc (hm2.at_ bL1 (by simp)) (objL yf yi yp ym (.slice q2 ya.length c2') yt ys ye yr)) (And.intro ((hrr1.mod hm2 (by simp)).gr g6) (hrr2.gr g6))))
                    have bB2 := blk_alloc (hm2.at_ bB1 (by simp)) (objL yf yi yp ym (.slice q2 ya.length c2') yt ys ye yr)
                    have bC2 := heap_alloc_new w2 (objL yf yi yp ym (.slice q2 ya.length c2') yt ys ye yr)
                    obtain ⟨kk, hkk⟩ : ∃ kk, o.2 = kk := ⟨_, rfl⟩
                    rw [hkk]
                    clear hD1 bL1 bB1 hrr1 hrr2 hr2 hm2 g6 HY CL1 CO1 CM1 hl1 hlo1 hmb1 ho hy hkk
                    go_upto_region 33 with fail
                    obtain ⟨wc, hwc⟩ : ∃ wc, w2.alloc (objL yf yi yp ym (.slice q2 ya.length c2') yt ys ye yr) = wc := ⟨_, rfl⟩
                    rw [hwc] at HY2 bB2 bC2 ⊢
                    have hB2 := lt_of_block bB2
                    have hC2 := lt_of_block bC2
                    have hbne : True := trivial
                    have S0 : ∀ w' : World, w'.heap[w1.heap.size]? = wc.heap[w1.heap.size]? → w'.heap[w2.heap.size]? = wc.heap[w2.heap.size]? → w'.cell? ⟨w1.heap.size, 0, none⟩ = some (.int .i64 yf) ∧ w'.cell? ⟨w1.heap.size, 1, none⟩ = some (.int .i64 yi) ∧ w'.cell? ⟨w1.heap.size, 2, none⟩ = some (.string yp) ∧ w'.cell? ⟨w1.heap.size, 3, none⟩ = some (.int .i64 ym) ∧ w'.cell? ⟨w1.heap.size, 4, none⟩ = some (.slice q1 ya.length c1') ∧ w'.cell? ⟨w1.heap.size, 5, none⟩ = some (.int .i64 yt) ∧ w'.cell? ⟨w1.heap.size, 6, none⟩ = some (.int .i64 ys) ∧ w'.cell? ⟨w1.heap.size, 7, none⟩ = some (.int .i64 ye) ∧ w'.cell? ⟨w1.heap.size, 8, none⟩ = some (.bool yr) ∧ w'.cell? ⟨w2.heap.size, 0, none⟩ = some (.int .i64 yf) ∧ w'.cell? ⟨w2.heap.size, 1, none⟩ = some (.int .i64 yi) ∧ w'.cell? ⟨w2.heap.size, 2, none⟩ = some (.string yp) ∧ w'.cell? ⟨w2.heap.size, 3, none⟩ = some (.int .i64 ym) ∧ w'.cell? ⟨w2.heap.size, 4, none⟩ = some (.slice q2 ya.length c2') ∧ w'.cell? ⟨w2.heap.size, 5, none⟩ = some (.int .i64 yt) ∧ w'.cell? ⟨w2.heap.size, 6, none⟩ = some (.int .i64 ys) ∧ w'.cell? ⟨w2.heap.size, 7, none⟩ = some (.int .i64 ye) ∧ w'.cell? ⟨w2.heap.size, 8, none⟩ = some (.bool yr) := by
                      intro w' e1 e2
                      have C1 := blk_cell (e1.trans bB2)
                      have C2 := blk_cell (e2.trans bC2)
                      exact ⟨C1 0, C1 1, C1 2, C1 3, C1 4, C1 5, C1 6, C1 7, C1 8, C2 0, C2 1, C2 2, C2 3, C2 4, C2 5, C2 6, C2 7, C2 8⟩
                    obtain ⟨k0, k1, k2, k3, k4, k5, k6, k7, k8, k9, k10, k11, k12, k13, k14, k15, k16, k17⟩ := S0 wc rfl rfl
                    have HS := hide S0
                    have hkb : (kk == kk) = true := by simp
                    have hdd : (dueI ys ye == dueI ys ye) = true := by simp
                    clear S0 hbne bB2 bC2
                    go_region_held3 (fun w' => w'.cell? ⟨w1.heap.size, 0, none⟩ = some (.int .i64 yf) ∧ w'.cell? ⟨w1.heap.size, 1, none⟩ = some (.int .i64 yi) ∧ w'.cell? ⟨w1.heap.size, 2, none⟩ = some (.string yp) ∧ w'.cell? ⟨w1.heap.size, 3, none⟩ = some (.int .i64 ym) ∧ w'.cell? ⟨w1.heap.size, 4, none⟩ = some (.slice q1 ya.length c1') ∧ w'.cell? ⟨w1.heap.size, 5, none⟩ = some (.int .i64 yt) ∧ w'.cell? ⟨w1.heap.size, 6, none⟩ = some (.int .i64 ys) ∧ w'.cell? ⟨w1.heap.size, 7, none⟩ = some (.int .i64 ye) ∧ w'.cell? ⟨w1.heap.size, 8, none⟩ = some (.bool yr) ∧ w'.cell? ⟨w2.heap.size, 0, none⟩ = some (.int .i64 yf) ∧ w'.cell? ⟨w2.heap.size, 1, none⟩ = some (.int .i64 yi) ∧ w'.cell? ⟨w2.heap.size, 2, none⟩ = some (.string yp) ∧ w'.cell? ⟨w2.heap.size, 3, none⟩ = some (.int .i64 ym) ∧ w'.cell? ⟨w2.heap.size, 4, none⟩ = some (.slice q2 ya.length c2') ∧ w'.cell? ⟨w2.heap.size, 5, none⟩ = some (.int .i64 yt) ∧ w'.cell? ⟨w2.heap.size, 6, none⟩ = some (.int .i64 ys) ∧ w'.cell? ⟨w2.heap.size, 7, none⟩ = some (.int .i64 ye) ∧ w'.cell? ⟨w2.heap.size, 8, none⟩ = some (.bool yr))
                      (first | go_keep | fail)
                      (first
                        | (go_at_call 15; refine (sameLease_eq (HY2.out.2.2.1.gr (by repeat (first | exact Gr.refl _ | apply Gr.drew | apply Gr.alloc | fail))) (HY2.out.2.2.2.gr (by repeat (first | exact Gr.refl _ | apply Gr.drew | apply Gr.alloc | fail))) yf yi ym yt ys ye yp yr).mono ?_; rintro en w4 ⟨rfl, hg4⟩; have hM2 : Mod [] wc w4 := Mod.then (by repeat (first  | exact Mod.refl _ _ | apply Mod.alloc | apply Mod.drew | fail)) (hg4.mod []); obtain ⟨j0, j1, j2, j3, j4, j5, j6, j7, j8, j9, j10, j11, j12, j13, j14, j15, j16, j17⟩ := HS.out w4 (hM2.block _ hB2 (by simp)) (hM2.block _ hC2 (by simp)))
                        | (go_at_call 16; refine (due_any _ _ _ _ _ _ _ _ _ _).mono ?_; rintro en w5 ⟨rfl, hg5⟩; have hM3 : Mod [] wc w5 := Mod.then (by repeat (first | exact hM2 | exact Mod.refl _ _ | apply Mod.alloc | apply Mod.drew | fail)) (hg5.mod []); obtain ⟨j0, j1, j2, j3, j4, j5, j6, j7, j8, j9, j10, j11, j12, j13, j14, j15, j16, j17⟩ := HS.out w5 (hM3.block _ hB2 (by simp)) (hM3.block _ hC2 (by simp)))
                        | (go_at_call 17; refine (rdue_any _ _ _ _ _ _ _ _ _ _).mono ?_; rintro en w6 ⟨rfl, hg6⟩; have hM4 : Mod [] wc w6 := Mod.then (by repeat (first | exact hM3 | exact hM2 | exact Mod.refl _ _ | apply Mod.alloc | apply Mod.drew | fail)) (hg6.mod []); obtain ⟨j0, j1, j2, j3, j4, j5, j6, j7, j8, j9, j10, j11, j12, j13, j14, j15, j16, j17⟩ := HS.out w6 (hM4.block _ hB2 (by simp)) (hM4.block _ hC2 (by simp)))
                        | fail)
                    have HF := hide (And.intro (HY2.out.1.same hM4) (hM4.at_ HY2.out.2.1 (by simp)))
                    clear HY2 HS k0 k1 k2 k3 k4 k5 k6 k7 k8 k9 k10 k11 k12 k13 k14 k15 k16 k17 hM2 hM3 hM4
                    go_wp2_with fail
                    go_meet
                    case rel => exact ⟨rfl, _, _, _, _, HF.out.1, HF.out.2⟩
                · have b4 : (kd == 4) = false := by simpa using k4
                  by_cases k5 : kd = 5
                  · subst k5
                    as_aux_lemma =>
                      rcases find_get l (xf, xi) with ⟨g1, g2⟩ | ⟨j, hj, g1, g2, -⟩
                      · go_wp2_with fail
                        refine (get_none hD0.hs.hd xf xi wf wi g1).mono ?_
                        rintro en w1 ⟨q1, c1', rfl, hr1, ho1, hm1⟩
                        have hD1 := (hD0.same hm1).gr ((Gr.refl w1).alloc (objL 0 0 ByteArray.empty 0 (.slice q1 0 c1') 0 0 0 false))
                        have bL1 := blk_alloc (hm1.at_ bL (by simp)) (objL 0 0 ByteArray.empty 0 (.slice q1 0 c1') 0 0 0 false)
                        have CL1 := blk_cell bL1
                        have CM1 := blk_cell hD1.bx
                        have HY := hide (And.intro hD1 bL1)
                        have hl1 := lt_of_block (hm1.at_ bL (by simp))
                        have hmb1 := lt_of_block (hm1.at_ hD0.bx (by simp))
                        clear hD0 hD1 bL1 hr1 ho1 hm1 bL bO CM FM CO CL g1
                        go_wp2_with fail
                        refine (rfind_any HY.out.1.dc.rd xf xi).mono ?_
                        rintro en w2 ⟨rfl, rfl⟩
                        rw [g2]
                        clear CL1 CM1 g2
                        go_wp2_with fail
                        go_quiet (fail)
                        go_wp2_with fail
                        go_meet
                        case rel => exact ⟨rfl, _, _, _, _, HY.out.1.gr ((Gr.refl _).drewN _), (((Gr.refl _).drewN _).mod []).at_ HY.out.2 (by simp)⟩
                      · obtain ⟨y, hy⟩ : ∃ y, l.getD j default = y := ⟨_, rfl⟩
                        rw [hy] at g1
                        obtain ⟨yf, yi, yp, ym, ya, yt, ys, ye, yr⟩ := y
                        go_wp2_with fail
                        refine (get_some hD0.hs.hd xf xi wf wi g1).mono ?_
                        rintro en w1 ⟨q1, c1', rfl, hr1, ho1, hm1⟩
                        have g5 := (Gr.refl w1).alloc (objL yf yi yp ym (.slice q1 ya.length c1') yt ys ye yr)
                        have hD1 := (hD0.same hm1).gr g5
                        have bL1 := blk_alloc (hm1.at_ bL (by simp)) (objL yf yi yp ym (.slice q1 ya.length c1') yt ys ye yr)
                        have CL1 := blk_cell bL1
                        have CM1 := blk_cell hD1.bx
                        have hl1 := lt_of_block (hm1.at_ bL (by simp))
                        have hmb1 := lt_of_block (hm1.at_ hD0.bx (by simp))
                        have CB1 := blk_cell (heap_alloc_new w1 (objL yf yi yp ym (.slice q1 ya.length c1') yt ys ye yr))
                        have HY := hide (And.intro hD1 (And.intro bL1 (hr1.gr g5)))
                        clear hD0 hD1 bL1 hr1 ho1 hm1 bL bO CM FM CO CL g1 g5
                        go_wp2_with fail
                        refine (rfind_any HY.out.1.dc.rd xf xi).mono ?_
                        rintro en w2 ⟨rfl, rfl⟩
                        rw [g2]
                        obtain ⟨wz, hwz⟩ : ∃ wz, w1.alloc (objL yf yi yp ym (.slice q1 ya.length c1') yt ys ye yr) = wz := ⟨_, rfl⟩
                        rw [hwz] at HY CB1 CM1 ⊢
                        clear hwz
                        obtain ⟨hD1, bL1, hr1⟩ := HY.out
                        obtain ⟨bz, oz, vz, rfl, -, -, hlz, c0, c1, c2, c3, c4, c5, c6, c7, c8⟩ := hD1.dc.rd.at_ j hj
                        rw [hy] at hlz c0 c1 c2 c3 c5 c6 c7 c8
                        obtain ⟨qz, cz, hvz⟩ := hlz.rd.len
                        simp only at hvz
                        subst hvz
                        simp only at c0 c1 c2 c3 c4 c5 c6 c7 c8
                        have hj0 := hD1.hs.hd.small
                        have hj1 : (0 : Int) ≤ (j : Int) := by omega
                        have hj2 : (j : Int) < (l.length : Int) := by omega
                        have hj3 : decide ((j : Int) < 0) = false := by simp
                        have hj4 : ¬ (j : Int) < 0 := by omega
                        have hj5 : decide ((0 : Int) ≤ (j : Int)) = true := decide_eq_true hj1
                        have hj6 : (true == decide ((0 : Int) ≤ (j : Int))) = true := by rw [hj5]; rfl
                        have hrz : RdN _ (.slice qz ya.length cz) ya := hlz.rd
                        have HY2 := hide (And.intro (hr1.gr (Gr.refl _).drew) (hrz.gr (Gr.refl _).drew))
                        clear hD1 bL1 hr1 hlz hrz g2 hy CL1
                        go_wp2_with fail
                        go_still_tail 14, (by kernel_rfl)
                        go_wp2_with fail
                        refine (sameLease_eq HY2.out.1 HY2.out.2 yf yi ym yt ys ye yp yr).mono ?_
                        rintro en w3 ⟨rfl, hg3⟩
                        have HF := hide (And.intro (HY.out.1.gr ((Gr.refl _).drew.trans hg3)) ((((Gr.refl _).drew.trans hg3).mod []).at_ HY.out.2.1 (by simp)))
                        clear HY HY2 hg3 c0 c1 c2 c3 c4 c5 c6 c7 c8 CB1 CM1
                        go_wp2_with fail
                        go_meet
                        case rel => exact ⟨rfl, _, _, _, _, HF.out.1, HF.out.2⟩
                  · have b5 : (kd == 5) = false := by simpa using k5
                    by_cases k6 : kd = 6
                    · subst k6
                      as_aux_lemma =>
                        obtain ⟨⟨L', bb⟩, hsp⟩ : ∃ sp, ((sweepL nw l, (l.length : Int) - (sweepL nw l).length) : List Lease × Int) = sp := ⟨_, rfl⟩
                        go_wp2_with fail
                        refine (rsweep_any hD0.dc (by have := hD0.hs.hd.small; omega) rho nw).mono ?_
                        rintro en w1 ⟨v1, rfl, hd1⟩
                        have hsp1 : sweepL nw l = L' := congrArg Prod.fst hsp
                        have hsp2 : (l.length : Int) - (sweepL nw l).length = bb := congrArg Prod.snd hsp
                        rw [hsp2]
                        rw [hsp1] at hd1
                        obtain ⟨p1, c1', rfl⟩ := hd1.shape
                        have CM1 := blk_cell (hd1.md.at_ hD0.bx (by simp))
                        have FM1 := blk_free (hd1.md.at_ hD0.bx (by simp))
                        have CL1 := blk_cell (hd1.md.at_ bL (by simp))
                        have CO1 := blk_cell (hd1.md.at_ bO (by simp))
                        have hl1 := lt_of_block (hd1.md.at_ bL (by simp))
                        have hmb1 := lt_of_block (hd1.md.at_ hD0.bx (by simp))
                        have hlo1 := lt_of_block (hd1.md.at_ bO (by simp))
                        obtain ⟨f1, hD1, hm1⟩ := hD0.doc hd1 (Mod.refl [] w1)
                        replace hD1 := hD1.gr ((Gr.refl _).alloc (objD rho (.slice p1 L'.length c1')))
                        replace hm1 := hm1.gr ((Gr.refl _).alloc (objD rho (.slice p1 L'.length c1')))
                        have HY := hide (And.intro hD1 hm1)
                        clear hD0 hd1 hD1 hm1 CM FM
                        go_wp2_with fail
                        obtain ⟨hD1, hm1⟩ := HY.out
                        refine (sweep_eq hD1.hs.hd nw (congrArg Prod.fst hsp) (n := bb) (by rw [← hsp1]; exact hsp2)).mono ?_
                        rintro en w2 ⟨rfl, fs2, hh2, ht2⟩
                        have hD2 := hD1.hold hh2 ht2
                        have bL2 := ht2.mod.at_ (hm1.at_ bL (by simp; omega)) (by simp; omega)
                        have HF := hide (And.intro hD2 bL2)
                        clear HY hD1 hm1 hh2 ht2 hD2 bL2 bL bO CM1 FM1 CL1 CO1 CO CL
                        all_goals
                          go_wp2_with fail
                          go_meet
                          case rel => exact ⟨rfl, _, _, _, _, HF.out.1, HF.out.2⟩
                    · have b6 : (kd == 6) = false := by simpa using k6
                      as_aux_lemma =>
                        obtain ⟨⟨L', bb⟩, hsp⟩ : ∃ sp, addS rho l nw st ⟨xf, xi, xp, xm, xa, xt, xs, xe, xr⟩ = sp := ⟨_, rfl⟩
                        have hrd0 := HR.out.1.mod hD0.hs.mod (by simp)
                        go_wp2_with fail
                        refine (radd_any hD0.dc hD0.hs.hd.srt hD0.hs.hd.small hD0.hs.hd.rhoOk xf xi xm xt xs xe xp xa xr xq xc nw st hxp hrd0).mono ?_
                        rintro en w1 ⟨v1, rfl, hd1⟩
                        rw [hsp] at hd1 ⊢
                        simp only at hd1 ⊢
                        obtain ⟨p1, c1', rfl⟩ := hd1.shape
                        have CM1 := blk_cell (hd1.md.at_ hD0.bx (by simp))
                        have FM1 := blk_free (hd1.md.at_ hD0.bx (by simp))
                        have CL1 := blk_cell (hd1.md.at_ bL (by simp))
                        have CO1 := blk_cell (hd1.md.at_ bO (by simp))
                        have hl1 := lt_of_block (hd1.md.at_ bL (by simp))
                        have hmb1 := lt_of_block (hd1.md.at_ hD0.bx (by simp))
                        have hlo1 := lt_of_block (hd1.md.at_ bO (by simp))
                        obtain ⟨f1, hD1, hm1⟩ := hD0.doc hd1 (Mod.refl [] w1)
                        replace hD1 := hD1.gr ((Gr.refl _).alloc (objD rho (.slice p1 L'.length c1')))
                        replace hm1 := hm1.gr ((Gr.refl _).alloc (objD rho (.slice p1 L'.length c1')))
                        have bL1 := hm1.at_ bL (by simp; omega)
                        have bO1 := hm1.at_ bO (by simp; omega)
                        have HY := hide (And.intro hD1 (And.intro bL1 bO1))
                        clear hD0 hd1 hD1 hm1 CM FM bL1 bO1 bL bO CO CL
                        go_upto_region 17 with fail
                        clear CM1 FM1 CL1 CO1 hl1 hmb1 hlo1
                        generalize ((w1.setCell ⟨mb, 0, none⟩ (.int .i64 rho)).setCell ⟨mb, 1, none⟩ (.slice p1 L'.length c1')).alloc (objD rho (.slice p1 L'.length c1')) = wc at HY ⊢
                        obtain ⟨hD', bL', bO'⟩ := HY.out
                        have hrd := HR.out.1.mod hD'.hs.mod (by simp)
                        have hlb2 := lt_of_block bL'
                        have hob2 := lt_of_block bO'
                        have hpm2 := hD'.lt.2.2
                        have S0 : ∀ w' : World, w'.heap[wr.heap.size + 1]? = wc.heap[wr.heap.size + 1]? → w'.heap[wr.heap.size]? = wc.heap[wr.heap.size]? → w'.cell? ⟨wr.heap.size, 1, none⟩ = some (.int .i64 nw) ∧ w'.cell? ⟨wr.heap.size, 2, none⟩ = some (.int .i64 st) ∧ w'.cell? ⟨wr.heap.size + 1, 0, none⟩ = some (.int .i64 xf) ∧ w'.cell? ⟨wr.heap.size + 1, 1, none⟩ = some (.int .i64 xi) ∧ w'.cell? ⟨wr.heap.size + 1, 2, none⟩ = some (.string xp) ∧ w'.cell? ⟨wr.heap.size + 1, 3, none⟩ = some (.int .i64 xm) ∧ w'.cell? ⟨wr.heap.size + 1, 4, none⟩ = some (.slice xq xa.length xc) ∧ w'.cell? ⟨wr.heap.size + 1, 5, none⟩ = some (.int .i64 xt) ∧ w'.cell? ⟨wr.heap.size + 1, 6, none⟩ = some (.int .i64 xs) ∧ w'.cell? ⟨wr.heap.size + 1, 7, none⟩ = some (.int .i64 xe) ∧ w'.cell? ⟨wr.heap.size + 1, 8, none⟩ = some (.bool xr) := by
                          intro w' e1 e2
                          have C1 := blk_cell (e1.trans bL')
                          have C2 := blk_cell (e2.trans bO')
                          exact ⟨C2 1, C2 2, C1 0, C1 1, C1 2, C1 3, C1 4, C1 5, C1 6, C1 7, C1 8⟩
                        obtain ⟨k0, k1, k2, k3, k4, k5, k6, k7, k8, k9, k10⟩ := S0 wc rfl rfl
                        have HS := hide S0
                        have HD2 := hide (And.intro hD' (And.intro bL' hrd))
                        clear S0 hD' bL' bO' hrd HY
                        have hbb : (bb == bb) = true := by simp
                        go_region_held3 (fun w' => w'.cell? ⟨wr.heap.size, 1, none⟩ = some (.int .i64 nw) ∧ w'.cell? ⟨wr.heap.size, 2, none⟩ = some (.int .i64 st) ∧ w'.cell? ⟨wr.heap.size + 1, 0, none⟩ = some (.int .i64 xf) ∧ w'.cell? ⟨wr.heap.size + 1, 1, none⟩ = some (.int .i64 xi) ∧ w'.cell? ⟨wr.heap.size + 1, 2, none⟩ = some (.string xp) ∧ w'.cell? ⟨wr.heap.size + 1, 3, none⟩ = some (.int .i64 xm) ∧ w'.cell? ⟨wr.heap.size + 1, 4, none⟩ = some (.slice xq xa.length xc) ∧ w'.cell? ⟨wr.heap.size + 1, 5, none⟩ = some (.int .i64 xt) ∧ w'.cell? ⟨wr.heap.size + 1, 6, none⟩ = some (.int .i64 xs) ∧ w'.cell? ⟨wr.heap.size + 1, 7, none⟩ = some (.int .i64 xe) ∧ w'.cell? ⟨wr.heap.size + 1, 8, none⟩ = some (.bool xr))
                          (first | go_keep | fail)
                          (first
                            | (go_at_call 24; refine (own_any (HD2.out.2.2.mod (S := []) (by repeat (first  | exact Mod.refl _ _ | apply Mod.alloc | apply Mod.drew | fail)) (by simp)) hxs _ _ _ _ _ _ _ _).mono ?_; rintro en w2 ⟨q2, c2, rfl, hr2, ho2, hm2⟩; have hM2 : Mod [] wc w2 := Mod.then (by repeat (first  | exact Mod.refl _ _ | apply Mod.alloc | apply Mod.drew | fail)) hm2; obtain ⟨j0, j1, j2, j3, j4, j5, j6, j7, j8, j9, j10⟩ := HS.out w2 (hM2.block _ hlb2 (by simp)) (hM2.block _ hob2 (by simp)))
                            | (go_at_call 23; refine (add_eq (HD2.out.1.same (by repeat (first | exact hM2 | exact Mod.refl _ _ | apply Mod.alloc | apply Mod.drew | fail))).hs.hd xf xi xm xt xs xe xp xa xr q2 c2 nw st (by omega) (hr2.gr (by repeat (first | exact Gr.refl _ | apply Gr.drew | apply Gr.alloc | fail))) (fun x => by have hx := ho2 _ x; have hy : wc.heap.size ≤ pm := hx.1; omega) hsp).mono ?_; rintro en w3 ⟨rfl, fs3, hh3, ht3⟩; have hM3 : Mod [pm] wc w3 := Mod.then (Mod.mono (by repeat (first | exact hM2 | exact Mod.refl _ _ | apply Mod.alloc | apply Mod.drew | fail)) (by simp)) ht3.mod; obtain ⟨j0, j1, j2, j3, j4, j5, j6, j7, j8, j9, j10⟩ := HS.out w3 (hM3.block _ hlb2 (by simp; omega)) (hM3.block _ hob2 (by simp; omega)))
                            | fail)
                        have HF := hide (And.intro ((HD2.out.1.same (by repeat (first | exact hM2 | exact Mod.refl _ _ | apply Mod.alloc | apply Mod.drew | fail))).hold hh3 ht3) (hM3.at_ HD2.out.2.1 (by simp; omega)))
                        clear HD2 HS k0 k1 k2 k3 k4 k5 k6 k7 k8 k9 k10 hM2 hM3 hh3 ht3 hr2 hm2 ho2
                        go_wp2_with fail
                        go_meet
                        case rel => exact ⟨rfl, _, _, _, _, HF.out.1, HF.out.2⟩
        case rest =>
          obtain ⟨rfl, fs', f', l', v', hD', bL'⟩ := hcut
          clear HX CO CL
          as_aux_lemma =>
            have hrd := HR.out.1
            obtain ⟨pv', cv', rfl⟩ := hD'.dc.rd.len
            have hlb2 := lt_of_block bL'
            have hmb2 := hD'.lt
            have S0 : ∀ w' : World, w'.heap[lb]? = wc.heap[lb]? → w'.heap[mb]? = wc.heap[mb]? → w'.cell? ⟨mb, 1, none⟩ = some (.slice pv' l'.length cv') ∧ w'.cell? ⟨lb, 0, none⟩ = some (.int .i64 xf) ∧ w'.cell? ⟨lb, 1, none⟩ = some (.int .i64 xi) ∧ w'.cell? ⟨lb, 2, none⟩ = some (.string xp) ∧ w'.cell? ⟨lb, 3, none⟩ = some (.int .i64 xm) ∧ w'.cell? ⟨lb, 4, none⟩ = some (.slice xq xa.length xc) ∧ w'.cell? ⟨lb, 5, none⟩ = some (.int .i64 xt) ∧ w'.cell? ⟨lb, 6, none⟩ = some (.int .i64 xs) ∧ w'.cell? ⟨lb, 7, none⟩ = some (.int .i64 xe) ∧ w'.cell? ⟨lb, 8, none⟩ = some (.bool xr) := by
              intro w' e1 e2
              have C1 := blk_cell (e1.trans bL')
              have C2 := blk_cell (e2.trans hD'.bx)
              exact ⟨C2 1, C1 0, C1 1, C1 2, C1 3, C1 4, C1 5, C1 6, C1 7, C1 8⟩
            obtain ⟨k0, k1, k2, k3, k4, k5, k6, k7, k8, k9⟩ := S0 wc rfl rfl
            have HS := hide S0
            have hxs2 := HW.out.2.2.2
            have HD2 := hide (And.intro hD' (And.intro bL' (hrd.mod hD'.hs.mod (by simp))))
            have hdd : (dueI xs xe != dueI xs xe) = false := by simp
            clear S0 hD' bL' hrd HW HR
            go_wp2_with fail
            go_region_held3 (fun w' => w'.cell? ⟨mb, 1, none⟩ = some (.slice pv' l'.length cv') ∧ w'.cell? ⟨lb, 0, none⟩ = some (.int .i64 xf) ∧ w'.cell? ⟨lb, 1, none⟩ = some (.int .i64 xi) ∧ w'.cell? ⟨lb, 2, none⟩ = some (.string xp) ∧ w'.cell? ⟨lb, 3, none⟩ = some (.int .i64 xm) ∧ w'.cell? ⟨lb, 4, none⟩ = some (.slice xq xa.length xc) ∧ w'.cell? ⟨lb, 5, none⟩ = some (.int .i64 xt) ∧ w'.cell? ⟨lb, 6, none⟩ = some (.int .i64 xs) ∧ w'.cell? ⟨lb, 7, none⟩ = some (.int .i64 xe) ∧ w'.cell? ⟨lb, 8, none⟩ = some (.bool xr))
              (first | go_keep | fail)
              (first
                | (go_at_call 26; refine (hlist_any (HD2.out.1.same (by repeat (first  | exact Mod.refl _ _ | apply Mod.alloc | apply Mod.drew | fail))).hs.hd).mono ?_; rintro en w2 hL2; obtain ⟨v2, f2, rfl, hr2, hm2⟩ := list_rd' hL2; obtain ⟨p2, c2, rfl⟩ := hr2.len; have hM2 : Mod [] wc w2 := Mod.then (by repeat (first  | exact Mod.refl _ _ | apply Mod.alloc | apply Mod.drew | fail)) hm2; obtain ⟨j0, j1, j2, j3, j4, j5, j6, j7, j8, j9⟩ := HS.out w2 (hM2.block _ hlb2 (by simp)) (hM2.block _ hmb2.1 (by simp)))
                | (go_at_call 25; refine (rsame_eq (hr2.gr (by repeat (first | exact Gr.refl _ | apply Gr.drew | apply Gr.alloc | fail))) (HD2.out.1.same (by repeat (first | exact hM2 | exact Mod.refl _ _ | apply Mod.alloc | apply Mod.drew | fail))).dc.rd).mono ?_; rintro en w3 ⟨rfl, hg3⟩; have hM3 : Mod [] wc w3 := Mod.then (by repeat (first | exact hM2 | exact Mod.refl _ _ | apply Mod.alloc | apply Mod.drew | fail)) (hg3.mod []); obtain ⟨j0, j1, j2, j3, j4, j5, j6, j7, j8, j9⟩ := HS.out w3 (hM3.block _ hlb2 (by simp)) (hM3.block _ hmb2.1 (by simp)))
                | (go_at_call 24; refine (own_any (HD2.out.2.2.mod (S := []) (by repeat (first | exact hM3 | exact hM2 | exact Mod.refl _ _ | apply Mod.alloc | apply Mod.drew | fail)) (by simp)) hxs2 _ _ _ _ _ _ _ _).mono ?_; rintro en w4 ⟨q4, c4, rfl, hr4, ho4, hm4⟩; have hM4 : Mod [] wc w4 := Mod.then (by repeat (first | exact hM3 | exact hM2 | exact Mod.refl _ _ | apply Mod.alloc | apply Mod.drew | fail)) hm4; obtain ⟨j0, j1, j2, j3, j4, j5, j6, j7, j8, j9⟩ := HS.out w4 (hM4.block _ hlb2 (by simp)) (hM4.block _ hmb2.1 (by simp)))
                | (go_at_call 16; refine (due_any _ _ _ _ _ _ _ _ _ _).mono ?_; rintro en w5 ⟨rfl, hg5⟩; have hM5 : Mod [] wc w5 := Mod.then (by repeat (first | exact hM4 | exact hM3 | exact hM2 | exact Mod.refl _ _ | apply Mod.alloc | apply Mod.drew | fail)) (hg5.mod []); obtain ⟨j0, j1, j2, j3, j4, j5, j6, j7, j8, j9⟩ := HS.out w5 (hM5.block _ hlb2 (by simp)) (hM5.block _ hmb2.1 (by simp)))
                | (go_at_call 17; refine (rdue_any _ _ _ _ _ _ _ _ _ _).mono ?_; rintro en w6 ⟨rfl, hg6⟩; have hM6 : Mod [] wc w6 := Mod.then (by repeat (first | exact hM5 | exact hM4 | exact hM3 | exact hM2 | exact Mod.refl _ _ | apply Mod.alloc | apply Mod.drew | fail)) (hg6.mod []); obtain ⟨j0, j1, j2, j3, j4, j5, j6, j7, j8, j9⟩ := HS.out w6 (hM6.block _ hlb2 (by simp)) (hM6.block _ hmb2.1 (by simp)))
                | fail)
            have HF := hide (HD2.out.1.same hM6)
            clear HD2 HS k0 k1 k2 k3 k4 k5 k6 k7 k8 k9 hM2 hM3 hM4 hM5 hM6
            go_wp2_with fail
            go_roundg gg
            case measure => omega
            case rel => exact ⟨k + 1, _, _, _, _, by omega, by go_num, HF.out⟩
      · have hkl : k = sc.length := by omega
        have HM := hide hD.hs.mod
        clear hD h
        go_wp2_with fail
        go_ret
        exact ⟨rfl, HM.out⟩
  · as_aux_lemma =>
      go_wp2_with fail
      refine (hnew_bad rho hr w1).mono ?_
      rintro en w2 ⟨rfl, rfl⟩
      go_wp2_with fail
      refine (rnew_bad rho hr _).mono ?_
      rintro en w3 ⟨rfl, hg3⟩
      have HM := hide ((hm1.gr hg3).alloc (objD 0 (.slice none 0 0)))
      clear hg3 hm1 h
      go_wp2_with fail
      go_ret
      exact ⟨rfl, HM.out⟩
end Go.Proofs.YtifllaeldcimgaaGreat
