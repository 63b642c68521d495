/-
  THE LAW LedgerOnce: its walk. (Written by wip/gen_ledonce.py.)
-/
import Derived.Test.YtpphoeimakjjdaaGreatDoorMLedK
import Derived.Test.YtpphoeimakjjdaaGreatDoorMLedOp
import Derived.Deep.CutBlock
namespace Go.Proofs.YtpphoeimakjjdaaGreatDoor
open Go.RowKit Go.Shelf

theorem apply_next {b : Bk} {r : Rcd} (h : (applyB b r).2 = 0) : b.next ≤ (applyB b r).1.next := by
  obtain ⟨h1, h2, h3, c, h4⟩ := apply_zero.1 h
  rw [apply_eq h1 h2 h3 h4]
  simp only
  unfold changeB at h4
  split at h4
  · rename_i e1
    split at h4
    · rename_i e
      cases h4
      subst e
      have := (heads_iff.1 (may_heads h2 e1)).1
      exact this
    · cases h4
  split at h4
  · split at h4
    · cases h4; exact Int.le_refl _
    · cases h4
  split at h4
  · split at h4
    · cases h4; simp only; omega
    · cases h4
  split at h4
  · split at h4
    · cases h4; exact Int.le_refl _
    · cases h4
  split at h4
  · split at h4
    · cases h4; simp only; omega
    · cases h4
  split at h4
  · split at h4
    · cases h4; exact Int.le_refl _
    · cases h4
  · cases h4; exact Int.le_refl _
def Live (n : Int) (d : Dk) (l : Lg) : Prop := d.off = false ∧ Inv d l ∧ l.dead = false ∧ n ≤ l.book.next
/-- behind a call: alive, or without power and what stands on the disk is alive -/
def After (n : Int) (d : Dk) (l : Lg) : Prop := Live n d l ∨ (d.off = true ∧ ∃ l', Inv d l' ∧ l'.dead = false ∧ n ≤ l'.book.next)
theorem after_append {n : Int} {d : Dk} {l : Lg} (h : Live n d l) (r : Rcd) : After n (appendD d l r).2.1 (appendD d l r).2.2 := by
  obtain ⟨ho, hi, hd, hn⟩ := h
  rcases append_law hi hd ho r with ⟨_, _, e, _⟩ | ⟨e0, _, e2, e3, e4, e5⟩ | ⟨_, _, e2, e3, l', e4, e5, e6⟩
  · rw [e]; exact .inl ⟨ho, hi, hd, hn⟩
  · refine .inl ⟨e5, e2, e4, ?_⟩
    rw [e3]
    have := apply_next e0
    omega
  · exact .inr ⟨e2, l', e4, e6, by rw [e5]; exact hn⟩
theorem after_compact {n : Int} {d : Dk} {l : Lg} (h : Live n d l) : After n (compactD d l).2.1 (compactD d l).2.2 := by
  obtain ⟨ho, hi, hd, hn⟩ := h
  rcases compact_law hi hd ho with ⟨_, e⟩ | ⟨_, _, e2, e3, e4, _⟩ | ⟨_, e2, _, e4⟩
  · rw [e]; exact .inl ⟨ho, hi, hd, hn⟩
  · refine .inl ⟨e4, e2, by rw [e3]; exact hd, ?_⟩
    rw [e3]
    exact hn
  · exact .inr ⟨e2, l, e4, hd, hn⟩
theorem after_arm {n : Int} {d : Dk} {l : Lg} (h : Live n d l) {k : Int} (hk : k ≤ 9223372036854775807) : After n (armD d k) l := by
  obtain ⟨ho, hi, hd, hn⟩ := h
  exact .inl ⟨ho, hi.on rfl (hi.ok.arm hk), hd, hn⟩
def OnceRel (W : World) (pd bs N : Nat) (s5 s7 s34 : Value) (wr : World) : Prop :=
  ∃ (j pl : Nat) (d : Dk) (l : Lg) (n : Int), s34 = .int .i64 (j : Int) ∧ s5 = .pointer (some ⟨pl, 0, none⟩) ∧ s7 = .int .i64 n ∧ j ≤ N ∧ LS W wr pl pd bs d l ∧ Live n d l
theorem new_inv : ∃ d1, openD (newD 49) = (0, d1, some newL) ∧ Live 1 d1 newL := by
  obtain ⟨d1, h1, h2, _, _⟩ := calm_new (d := newD 49) (n := 49) (by omega) (by omega) rfl rfl (newD_ok (by omega) (by omega)) rfl rfl
  exact ⟨d1, h1, h2.off, h2.inv, rfl, by decide⟩
set_option maxHeartbeats 8000000 in
set_option maxRecDepth 100000 in
theorem once_any {W : World} {q0 : Option Addr} {c0 : Nat} {l0 : List OpD} (hl : RdOp W (.slice q0 l0.length c0) l0) :
    Calls Tryz.prog 5 #[.slice q0 l0.length c0] W fun e w' => e = .returned (.bool true) ∧ Mod [] W w' := by
  obtain ⟨d1, ho1, hl1⟩ := new_inv
  have HO := hide (And.intro ho1 hl1)
  have HL := hide hl
  have hll : l0.length ≤ 9223372036854775807 := hl.1
  clear hl ho1 hl1
  go_enter Tryz.func5, Tryz.ntmps5
  go_wp2_with (first
    | (go_at_call 12; refine (awake_any _).mono ?_; rintro e w1 ⟨rfl, m⟩; have H1 := hide m; clear m)
    | (go_at_call 10
       refine (dnew_any 49 (by omega) (by omega) _).mono ?_
       rintro e w2 ⟨rfl, hd, m⟩
       have H2 := hide (And.intro hd (H1.out.then m))
       have hz1 := H1.out.size
       clear hd m)
    | (go_at_call 11
       refine (open_eq (w0 := W) H2.out.1 (by omega) H2.out.2 HO.out.1).mono ?_
       rintro e w3 ⟨pl, rfl, s3, -⟩
       have H3 := hide s3
       clear s3 H2)
    | fail)
  obtain ⟨pd, hpd⟩ : ∃ pd, w1.heap.size + 1 = pd := ⟨_, rfl⟩
  obtain ⟨bs, hbs⟩ : ∃ bs, w1.heap.size = bs := ⟨_, rfl⟩
  have H4 := H3.out
  rw [hpd, hbs] at H4
  try rw [hpd]
  have H5 := hide H4
  clear H4 H3 hz1 hpd hbs
  go_loopw [5, 7, 34] (fun s5 s7 s34 wr => OnceRel W pd bs l0.length s5 s7 s34 wr) (fun _ _ i _ => l0.length - (intOf i).toNat)
  case atStart => exact ⟨0, pl, d1, newL, 1, rfl, rfl, rfl, Nat.zero_le _, H5.out, HO.out.2⟩
  case round =>
    obtain ⟨j, pl, d, l, n, rfl, rfl, rfl, hj, hs, hlv⟩ := hrel
    by_cases hlt : j < l0.length
    · have hji : (j : Int) < (l0.length : Int) := by omega
      obtain ⟨ob0, off, q, c, q', c', rfl, hobw, hcs, hra, hrb, hin⟩ := (HL.out.same hs.md).at_ j hlt
      generalize l0.getD j default = o at hcs hra hrb hin
      obtain ⟨okd, ok, ⟨rk, ⟨gi, gh, gp, gm, gs, gt⟩, ri, rs, rn, rbt, rl⟩⟩ := o
      simp only at hcs hra hrb hin
      obtain ⟨m1, hm1⟩ : ∃ m, gs.length = m := ⟨_, rfl⟩
      obtain ⟨m2, hm2⟩ : ∃ m, rs.length = m := ⟨_, rfl⟩
      rw [hm1, hm2] at hcs
      rw [hm1] at hra
      rw [hm2] at hrb
      have y0 := hcs 0 (by decide)
      have y1 := hcs 1 (by decide)
      have y2 := hcs 2 (by decide)
      have y3 := hcs 3 (by decide)
      have y4 := hcs 4 (by decide)
      have y5 := hcs 5 (by decide)
      have y6 := hcs 6 (by decide)
      have y7 := hcs 7 (by decide)
      have y8 := hcs 8 (by decide)
      have y9 := hcs 9 (by decide)
      have y10 := hcs 10 (by decide)
      have y11 := hcs 11 (by decide)
      have y12 := hcs 12 (by decide)
      have y13 := hcs 13 (by decide)
      simp [cellsO, cellsR] at y0 y1 y2 y3 y4 y5 y6 y7 y8 y9 y10 y11 y12 y13
      obtain ⟨hik, hikk, ⟨⟨_, hip, hil⟩, _, hir⟩⟩ := hin
      simp only at hik hikk hip hil hir
      have hkm := (i64w_iff.1 hikk).2
      have HS := hide (And.intro hs (And.intro hlv (And.intro hra hrb)))
      have HN := hide (And.intro hm1 hm2)
      obtain ⟨W1, hW1⟩ : ∃ W1, W1 = wr.alloc (.cells #[.int .i64 okd, .int .i64 ok, .int .i64 rk, .int .i64 gi, .int .i64 gh, .string gp, .int .i64 gm, .slice q m1 c, .int .i64 gt, .int .i64 ri, .slice q' m2 c', .int .i64 rn, .int .i64 rbt, .int .i64 rl] 53 (0, 0)) := ⟨_, rfl⟩
      have hb1 : W1.heap[wr.heap.size]? = some (.cells #[.int .i64 okd, .int .i64 ok, .int .i64 rk, .int .i64 gi, .int .i64 gh, .string gp, .int .i64 gm, .slice q m1 c, .int .i64 gt, .int .i64 ri, .slice q' m2 c', .int .i64 rn, .int .i64 rbt, .int .i64 rl] 53 (0, 0)) := by rw [hW1]; exact heap_alloc_new wr _
      have hma : Mod [] wr W1 := by rw [hW1]; exact (Mod.refl _ _).alloc _
      have HB := hide (And.intro hb1 (And.intro hma (hs.quiet hma)))
      have B1 := blk_cell hb1
      clear hcs hs hlv hra hrb hm1 hm2 hb1 hma hik hikk
      by_cases h200 : (200 : Int) < (j : Int)
      · go_wp2_with fail
        rw [← hW1]
        go_ret
        exact ⟨rfl, HB.out.2.2.md⟩
      go_upto_block 2 with fail
      rw [← hW1]
      clear hW1 y0 y1 y2 y3 y4 y5 y6 y7 y8 y9 y10 y11 y12 y13
      go_cut [] (fun wx => ∃ d2 l2, LS W wx pl pd bs d2 l2 ∧ After n d2 l2)
      case first =>
        by_cases hk1 : okd = 1
        · subst hk1
          clear B1
          go_wp2_with (go_at_call 21
                       refine (compact_eq HB.out.2.2 HS.out.2.1.2.1.lok HS.out.2.1.2.1.n49 rfl).mono ?_
                       rintro e w2 ⟨rfl, s2, -⟩
                       have H2 := hide s2
                       clear s2)
          go_meet
          case rel => exact ⟨_, _, H2.out, after_compact HS.out.2.1⟩
        · have hk1b : (okd == 1) = false := by simpa using hk1
          by_cases hk2 : okd = 2
          · subst hk2
            go_wp2_with (go_at_call 25
                         refine (arm_any HB.out.2.2.dk ok hkm).mono ?_
                         rintro e w2 ⟨rfl, hd2, m2⟩
                         have H2 := hide (HB.out.2.2.setd m2 hd2)
                         clear hd2 m2)
            go_meet
            case rel => exact ⟨_, _, H2.out, after_arm HS.out.2.1 hkm⟩
          · have hk2b : (okd == 2) = false := by simpa using hk2
            have how := ownRec_any (w := W1) (r := ⟨rk, ⟨gi, gh, gp, gm, gs, gt⟩, ri, rs, rn, rbt, rl⟩) (sv := .slice q m1 c) (tv := .slice q' m2 c') (HS.out.2.2.1.mod HB.out.2.1 (by simp)) (HS.out.2.2.2.mod HB.out.2.1 (by simp)) hil hir
            unfold aggR cellsR at how
            simp only at how
            clear hk1 hk2
            go_wp2_with (first
              | (go_at_call 15
                 refine how.mono ?_
                 rintro e w2 ⟨p1, n1, d1', p2, n2, d2', rfl, hr1, hr2, -, m2⟩
                 simp only [aggR, cellsR]
                 have H2 := hide (And.intro (rdN_of_row hr1) (And.intro (rdN_of_row hr2) (HB.out.2.2.quiet m2)))
                 clear hr1 hr2 m2 how)
              | (go_at_call 16
                 refine (append_eq (r := ⟨rk, ⟨gi, gh, gp, gm, gs, gt⟩, ri, rs, rn, rbt, rl⟩) H2.out.2.2 HS.out.2.1.2.1.lok HS.out.2.1.2.1.n49 H2.out.1 H2.out.2.1 hip rfl).mono ?_
                 rintro e w3 ⟨rfl, s3, -⟩
                 have H3 := hide s3
                 clear s3)
              | fail)
            go_meet
            case rel => exact ⟨_, _, H3.out, after_append HS.out.2.1 _⟩
      case rest =>
      obtain ⟨d2, l2, s2, haf⟩ := hcut
      obtain ⟨W2, rfl⟩ : ∃ W2 : World, W2 = wc := ⟨_, rfl⟩
      clear HB HS HN hip hil hir hkm B1 h200
      rcases haf with hlv2 | ⟨hof2, l3, hi3, hd3, hn3⟩
      · have hof := off_any s2.dk
        rw [hlv2.1] at hof
        have H2 := hide (And.intro s2 hlv2)
        clear s2 hlv2
        go_upto_region 24 with (go_at_call 26; refine hof.mono ?_; rintro e wx ⟨rfl, hx⟩; rw [hx]; clear hx hof)
        have s3 := H2.out.1
        have hlv3 := H2.out.2
        generalize hL3 : l2 = l3x at s3 hlv3
        clear hL3
        have hbk := book_eq s3 hlv3.2.1.lok.book
        obtain ⟨gn3, ar3, sq3, us3, ⟨bn, bb, bl, bg⟩, dd3⟩ := l3x
        simp only at hbk
        have hnb : ¬ bn < n := by have := hlv3.2.2.2; simp only at this; omega
        have hvb := hlv3.2.1.lok.book
        simp only at hvb
        have HS3 := hide (And.intro s3 hlv3)
        clear s3 hlv3
        go_upto_region 29 with (go_at_call 19
                                refine hbk.mono ?_
                                rintro e w6 ⟨bq, bnn, bc, lv, rfl, hbm, m6, s6⟩
                                obtain ⟨_, _, hsh, _⟩ := hbm.gr.shape
                                have hbl : bnn = lv.length := by cases hsh; rfl
                                rw [hbl] at hbm ⊢
                                have hsm := valid_small hvb hbm.eq
                                have H6 := hide (And.intro hbm (And.intro s6 hsm))
                                clear hbm m6 s6 hbk hbl hsh hsm)
        obtain ⟨W7, hW7⟩ : ∃ W7, W7 = w6.alloc (.cells #[.int .i64 bn, .int .i64 bb, .int .i64 bl, .slice bq lv.length bc] 34 (0, 0)) := ⟨_, rfl⟩
        have hm7 : Mod [] w6 W7 := by rw [hW7]; exact (Mod.refl _ _).alloc _
        rw [← hW7]
        have H7 := hide (And.intro (H6.out.1.gr.mod hm7 (by simp)) (H6.out.2.1.quiet hm7))
        clear hW7 hm7
        have hll6 : lv.length ≤ 9223372036854775807 := by have := H6.out.2.2.1; omega
        go_loopw [85] (fun i wx => ∃ k : Nat, i = .int .i64 (k : Int) ∧ k ≤ lv.length ∧ Mod [] W7 wx) (fun i _ => lv.length - (intOf i).toNat)
        case atStart => exact ⟨0, rfl, Nat.zero_le _, Mod.refl _ _⟩
        case round =>
          obtain ⟨k, rfl, hk, hmk⟩ := hrel
          by_cases hltk : k < lv.length
          · have hki : (k : Int) < (lv.length : Int) := by omega
            obtain ⟨gb, rfl, hgb, hgb1, hc, hf, hrd⟩ := (H7.out.1.mod hmk (by simp)).at_ k hltk
            have hmem : (lv.getD k default).1 ∈ bg := by
              have he := H6.out.1.eq
              simp only at he
              rw [he]
              exact List.mem_map.2 ⟨_, by simp [hltk], rfl⟩
            have hg := okFrom_mem (valid_iff.1 hvb).2.2.2 _ hmem
            clear hmem
            generalize lv.getD k default = pr at hc hrd hg
            obtain ⟨⟨id, ho, pa, mo, st, te⟩, sv⟩ := pr
            simp only at hrd hg
            obtain ⟨g1, g2, g3, g4, g5, g6, g7⟩ := grant_iff.1 hg.1
            have hsp : 0 < st.length := by
              have : stmB st = true := g5
              unfold stmB at this
              simp only [Bool.and_eq_true, decide_eq_true_eq] at this
              exact this.1
            have hlast := hg.2.1
            simp only at g6 hlast
            obtain ⟨qs, cs, hsv⟩ := hrd.len
            obtain ⟨mS, hmS⟩ : ∃ m, st.length = m + 1 := ⟨st.length - 1, by omega⟩
            rw [hmS] at hsv
            subst hsv
            obtain ⟨sb, so, hqs, hsb, hsc⟩ := hrd.at_ mS (by omega)
            have hlS : st.getD mS 0 = lastI st := by unfold lastI; rw [hmS]; rfl
            rw [hlS] at hsc
            generalize lastI st = lS at hsc g6 hlast
            subst hqs
            have c0 := hc 0 (by decide)
            have c1 := hc 1 (by decide)
            have c2 := hc 2 (by decide)
            have c3 := hc 3 (by decide)
            have c4 := hc 4 (by decide)
            have c5 := hc 5 (by decide)
            simp [encG, cellsG] at c0 c1 c2 c3 c4 c5
            have i0 : ((mS + 1 : Nat) : Int) = (mS : Int) + 1 := by omega
            have i1 : ¬ bn ≤ lS := by omega
            have i2 : ¬ bn ≤ id := by omega
            have i3 : ¬ (mS : Int) + 1 = 0 := by omega
            have i4 : (((mS : Int) + 1) == 0) = false := by simpa using i3
            have i5 : IntKind.i64.wrap ((mS : Int) + 1 - 1) = (mS : Int) := by rw [IntKind.wrap_i64]; have := hrd.1; unfold maxLen at this; omega
            have i6 : (mS : Int) < (mS : Int) + 1 := by omega
            have i7 : IntKind.i64.wrap (mS : Int) = (mS : Int) := by rw [IntKind.wrap_i64]; have := hrd.1; unfold maxLen at this; omega
            clear hc hrd hg g1 g2 g3 g4 g5 g6 g7 hlast hsp hlS hmS
            go_wp2_with fail
            go_roundw
            case rel => exact ⟨k + 1, by go_num, by omega, hmk.alloc _⟩
            case measure => simp [intOf]; omega
          · obtain rfl : k = lv.length := by omega
            have HMK := hide hmk
            clear hmk
            go_wp2_with fail
            go_roundw
            case rel => exact ⟨j + 1, pl, d2, ⟨gn3, ar3, sq3, us3, ⟨bn, bb, bl, bg⟩, dd3⟩, bn, by go_num, rfl, rfl, by omega, H7.out.2.quiet HMK.out, HS3.out.2.1, HS3.out.2.2.1, HS3.out.2.2.2.1, Int.le_refl _⟩
            case measure => simp [intOf]; omega
      · have hof := off_any s2.dk
        rw [hof2] at hof
        have hon := on_any s2.dk
        have hopen := Inv.open_ (hi3.on (d' := onD d2) rfl hi3.ok.on) rfl
        have hlv3 : Live n (onD d2) { l3 with dead := false } := ⟨rfl, (hi3.on (d' := onD d2) rfl hi3.ok.on).live, rfl, hn3⟩
        have H2 := hide (And.intro s2 (And.intro hopen hlv3))
        clear s2 hof2 hi3 hd3 hn3 hopen hlv3
        go_upto_region 24 with (first
          | (go_at_call 26; refine hof.mono ?_; rintro e wx ⟨rfl, hx⟩; rw [hx]; clear hx hof)
          | (go_at_call 27; refine hon.mono ?_; rintro e w4 ⟨rfl, hd4, m4⟩; have H4 := hide (H2.out.1.setd m4 hd4); clear hd4 m4 hon)
          | (go_at_call 11
             refine (open_eq (w0 := W) H4.out.dk (by have := H4.out.lo; omega) H4.out.md H2.out.2.1).mono ?_
             rintro e w5 ⟨pl5, rfl, s5, -⟩
             have H5 := hide s5
             clear s5)
          | fail)
        have s3 := H5.out
        have hlv3 := H2.out.2.2
        generalize hL3 : ({ l3 with dead := false } : Lg) = l3x at s3 hlv3
        clear hL3
        have hbk := book_eq s3 hlv3.2.1.lok.book
        obtain ⟨gn3, ar3, sq3, us3, ⟨bn, bb, bl, bg⟩, dd3⟩ := l3x
        simp only at hbk
        have hnb : ¬ bn < n := by have := hlv3.2.2.2; simp only at this; omega
        have hvb := hlv3.2.1.lok.book
        simp only at hvb
        have HS3 := hide (And.intro s3 hlv3)
        clear s3 hlv3
        go_upto_region 29 with (go_at_call 19
                                refine hbk.mono ?_
                                rintro e w6 ⟨bq, bnn, bc, lv, rfl, hbm, m6, s6⟩
                                obtain ⟨_, _, hsh, _⟩ := hbm.gr.shape
                                have hbl : bnn = lv.length := by cases hsh; rfl
                                rw [hbl] at hbm ⊢
                                have hsm := valid_small hvb hbm.eq
                                have H6 := hide (And.intro hbm (And.intro s6 hsm))
                                clear hbm m6 s6 hbk hbl hsh hsm)
        obtain ⟨W7, hW7⟩ : ∃ W7, W7 = w6.alloc (.cells #[.int .i64 bn, .int .i64 bb, .int .i64 bl, .slice bq lv.length bc] 34 (0, 0)) := ⟨_, rfl⟩
        have hm7 : Mod [] w6 W7 := by rw [hW7]; exact (Mod.refl _ _).alloc _
        rw [← hW7]
        have H7 := hide (And.intro (H6.out.1.gr.mod hm7 (by simp)) (H6.out.2.1.quiet hm7))
        clear hW7 hm7
        have hll6 : lv.length ≤ 9223372036854775807 := by have := H6.out.2.2.1; omega
        go_loopw [85] (fun i wx => ∃ k : Nat, i = .int .i64 (k : Int) ∧ k ≤ lv.length ∧ Mod [] W7 wx) (fun i _ => lv.length - (intOf i).toNat)
        case atStart => exact ⟨0, rfl, Nat.zero_le _, Mod.refl _ _⟩
        case round =>
          obtain ⟨k, rfl, hk, hmk⟩ := hrel
          by_cases hltk : k < lv.length
          · have hki : (k : Int) < (lv.length : Int) := by omega
            obtain ⟨gb, rfl, hgb, hgb1, hc, hf, hrd⟩ := (H7.out.1.mod hmk (by simp)).at_ k hltk
            have hmem : (lv.getD k default).1 ∈ bg := by
              have he := H6.out.1.eq
              simp only at he
              rw [he]
              exact List.mem_map.2 ⟨_, by simp [hltk], rfl⟩
            have hg := okFrom_mem (valid_iff.1 hvb).2.2.2 _ hmem
            clear hmem
            generalize lv.getD k default = pr at hc hrd hg
            obtain ⟨⟨id, ho, pa, mo, st, te⟩, sv⟩ := pr
            simp only at hrd hg
            obtain ⟨g1, g2, g3, g4, g5, g6, g7⟩ := grant_iff.1 hg.1
            have hsp : 0 < st.length := by
              have : stmB st = true := g5
              unfold stmB at this
              simp only [Bool.and_eq_true, decide_eq_true_eq] at this
              exact this.1
            have hlast := hg.2.1
            simp only at g6 hlast
            obtain ⟨qs, cs, hsv⟩ := hrd.len
            obtain ⟨mS, hmS⟩ : ∃ m, st.length = m + 1 := ⟨st.length - 1, by omega⟩
            rw [hmS] at hsv
            subst hsv
            obtain ⟨sb, so, hqs, hsb, hsc⟩ := hrd.at_ mS (by omega)
            have hlS : st.getD mS 0 = lastI st := by unfold lastI; rw [hmS]; rfl
            rw [hlS] at hsc
            generalize lastI st = lS at hsc g6 hlast
            subst hqs
            have c0 := hc 0 (by decide)
            have c1 := hc 1 (by decide)
            have c2 := hc 2 (by decide)
            have c3 := hc 3 (by decide)
            have c4 := hc 4 (by decide)
            have c5 := hc 5 (by decide)
            simp [encG, cellsG] at c0 c1 c2 c3 c4 c5
            have i0 : ((mS + 1 : Nat) : Int) = (mS : Int) + 1 := by omega
            have i1 : ¬ bn ≤ lS := by omega
            have i2 : ¬ bn ≤ id := by omega
            have i3 : ¬ (mS : Int) + 1 = 0 := by omega
            have i4 : (((mS : Int) + 1) == 0) = false := by simpa using i3
            have i5 : IntKind.i64.wrap ((mS : Int) + 1 - 1) = (mS : Int) := by rw [IntKind.wrap_i64]; have := hrd.1; unfold maxLen at this; omega
            have i6 : (mS : Int) < (mS : Int) + 1 := by omega
            have i7 : IntKind.i64.wrap (mS : Int) = (mS : Int) := by rw [IntKind.wrap_i64]; have := hrd.1; unfold maxLen at this; omega
            clear hc hrd hg g1 g2 g3 g4 g5 g6 g7 hlast hsp hlS hmS
            go_wp2_with fail
            go_roundw
            case rel => exact ⟨k + 1, by go_num, by omega, hmk.alloc _⟩
            case measure => simp [intOf]; omega
          · obtain rfl : k = lv.length := by omega
            have HMK := hide hmk
            clear hmk
            go_wp2_with fail
            go_roundw
            case rel => exact ⟨j + 1, pl5, onD d2, ⟨gn3, ar3, sq3, us3, ⟨bn, bb, bl, bg⟩, dd3⟩, bn, by go_num, rfl, rfl, by omega, H7.out.2.quiet HMK.out, HS3.out.2.1, HS3.out.2.2.1, HS3.out.2.2.2.1, Int.le_refl _⟩
            case measure => simp [intOf]; omega
    · obtain rfl : j = l0.length := by omega
      have HS := hide hs
      clear hs hlv
      go_wp2_with fail
      go_ret
      exact ⟨rfl, HS.out.md⟩
end Go.Proofs.YtpphoeimakjjdaaGreatDoor
