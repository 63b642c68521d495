/-
  THE LAW LedgerNever: its walk.
-/
import Derived.Test.YtpphoeimakjjdaaGreatDoorMWpL
import Derived.Test.YtpphoeimakjjdaaGreatDoorMLedRf12
import Derived.Test.YtpphoeimakjjdaaGreatDoorMLedOp
import Derived.Test.YtpphoeimakjjdaaGreatDoorMLedRe
import Derived.Deep.CutBlock
namespace Go.Proofs.YtpphoeimakjjdaaGreatDoor
open Go.RowKit Go.Shelf

def LiveN (d : Dk) (l : Lg) : Prop := d.off = false ∧ Inv d l ∧ l.dead = false
theorem LS.lts {w0 w : World} {pl pd bs : Nat} {d : Dk} {l : Lg} (s : LS w0 w pl pd bs d l) : pl < w.heap.size ∧ pd < w.heap.size ∧ bs < w.heap.size := by
  obtain ⟨gv, lv, h⟩ := s.mem
  have h1 := lt_of_block h.blk
  have h2 := h.lt
  omega
/-- what a call leaves: th: the book where it is taken; fe: what the record does not fit for (0: a compaction) -/
def Nv (was th : Bk) (fe g : Int) (wr0 : Int) (d2 : Dk) (l2 : Lg) : Prop :=
  (g = 0 ∧ LiveN d2 l2 ∧ l2.book = th ∧ fe = 0) ∨
  (g ≠ 0 ∧ g ≠ 40 ∧ LiveN d2 l2 ∧ l2.book = was ∧ d2.writes = wr0 ∧ (fe ≠ 0 → g = fe)) ∨
  (g = 40 ∧ d2.off = true ∧ l2.book = was ∧ fe = 0 ∧ ∃ l', Inv d2 l' ∧ l'.book = was ∧ l'.dead = false)
theorem nv_append {d : Dk} {l : Lg} (h : LiveN d l) (r : Rcd) : Nv l.book (applyB l.book r).1 (applyB l.book r).2 (appendD d l r).1 d.writes (appendD d l r).2.1 (appendD d l r).2.2 := by
  obtain ⟨ho, hi, hd⟩ := h
  rcases append_law hi hd ho r with ⟨a1, a2, e, a3⟩ | ⟨e0, e1, e2, e3, e4, e5⟩ | ⟨e0, e1, e2, e3, l', e4, e5, e6⟩
  · refine .inr (.inl ⟨a1, a2, by rw [e]; exact ⟨ho, hi, hd⟩, by rw [e], by rw [e], fun hf => ?_⟩)
    rcases a3 with a3 | ⟨a3, _⟩
    · exact a3
    · exact absurd a3 hf
  · exact .inl ⟨e1, ⟨e5, e2, e4⟩, e3, e0⟩
  · exact .inr (.inr ⟨e1, e2, e3, e0, l', e4, e5, e6⟩)
theorem nv_compact {d : Dk} {l : Lg} (h : LiveN d l) : Nv l.book l.book 0 (compactD d l).1 d.writes (compactD d l).2.1 (compactD d l).2.2 := by
  obtain ⟨ho, hi, hd⟩ := h
  rcases compact_law hi hd ho with ⟨_, e⟩ | ⟨_, e1, e2, e3, e4, _⟩ | ⟨e1, e2, e3, e4⟩
  · rw [e]
    exact .inr (.inl ⟨by simp, by simp, ⟨ho, hi, hd⟩, rfl, rfl, fun hf => absurd rfl hf⟩)
  · exact .inl ⟨e1, ⟨e4, e2, by rw [e3]; exact hd⟩, by rw [e3]; rfl, rfl⟩
  · exact .inr (.inr ⟨e1, e2, by rw [e3]; rfl, rfl, l, e4, rfl, hd⟩)
theorem Nv.book {was th : Bk} {fe g wr0 : Int} {d2 : Dk} {l2 : Lg} (h : Nv was th fe g wr0 d2 l2) (hw : validB was = true) : validB l2.book = true ∧ ∃ l', Inv d2 l' ∧ l'.book = l2.book ∧ l'.dead = false := by
  rcases h with ⟨_, h1, h2, _⟩ | ⟨_, _, h1, h2, _⟩ | ⟨_, _, h2, _, l', h3, h4, h5⟩
  · exact ⟨h1.2.1.lok.book, l2, h1.2.1, rfl, h1.2.2⟩
  · exact ⟨h1.2.1.lok.book, l2, h1.2.1, rfl, h1.2.2⟩
  · exact ⟨by rw [h2]; exact hw, l', h3, h4.trans h2.symm, h5⟩
theorem live_new : ∃ d1, openD (newD 49) = (0, d1, some newL) ∧ LiveN d1 newL := by
  obtain ⟨d1, h1, h2, _, _⟩ := calm_new (d := newD 49) (n := 49) (by omega) (by omega) rfl rfl (newD_ok (by omega) (by omega)) rfl rfl
  exact ⟨d1, h1, h2.off, h2.inv, rfl⟩
/-- boxes of books that are written are no ledger's memory -/
theorem LS.boxes {w0 w w' : World} {pl pd bs : Nat} {d : Dk} {l : Lg} (s : LS w0 w pl pd bs d l) {S : List Nat} (m : Mod S w w') (hS : ∀ k, k ∈ S → w0.heap.size ≤ k ∧ k ≠ pl ∧ k ≠ pd ∧ k ≠ bs ∧ ∃ cs, w.heap[k]? = some (.cells cs 34 (0, 0))) : LS w0 w' pl pd bs d l := by
  obtain ⟨gv, lv, h⟩ := s.mem
  refine ⟨⟨gv, lv, m.at_ h.blk (fun e => (hS _ e).2.1 rfl), h.dk.mod m (fun e => (hS _ e).2.2.1 rfl) (fun e => (hS _ e).2.2.2.1 rfl), ⟨h.bk.gr.other m (fun k hk => (hS k hk).2.2.2.2), h.bk.eq⟩, h.lt⟩, s.lo, mod_fresh0 s.md m (fun k hk => (hS k hk).1)⟩
theorem rsame_eq {w : World} {base1 base2 n1 n2 c1 c2 : Nat} {q1 q2 : Option Addr} {a b : Bk} {l1 l2 : List (Grt × Value)} (h1 : BkM w base1 (.slice q1 n1 c1) a l1) (h2 : BkM w base2 (.slice q2 n2 c2) b l2) (e : a = b) :
    Calls Tryz.prog 20 #[.agg #[.int .i64 a.next, .int .i64 a.boots, .int .i64 a.longest, .slice q1 n1 c1], .agg #[.int .i64 b.next, .int .i64 b.boots, .int .i64 b.longest, .slice q2 n2 c2]] w fun e w' => e = .returned (.bool true) ∧ Mod [] w w' := by
  refine (rsame_any h1 h2).mono ?_
  rintro e' w' ⟨rfl, m⟩
  have : decide (a = b) = true := decide_eq_true e
  exact ⟨congrArg (fun x => Ending.returned (.bool x)) this, m⟩
def NevRel (W : World) (pd bs N : Nat) (s5 s42 : Value) (wr : World) : Prop :=
  ∃ (j pl : Nat) (d : Dk) (l : Lg), s42 = .int .i64 (j : Int) ∧ s5 = .pointer (some ⟨pl, 0, none⟩) ∧ j ≤ N ∧ LS W wr pl pd bs d l ∧ LiveN d l
def bkCells (b : Bk) (gv : Value) : Array Value := #[.int .i64 b.next, .int .i64 b.boots, .int .i64 b.longest, gv]
/-- behind the call: the error, the two boxes of books, the call's own box -/
def NevMid (W : World) (pl pd bs b8 b9 b10 : Nat) (C8 : Array Value) (was : Bk) (q9 : Option Addr) (n9 c9 : Nat) (lv9 : List (Grt × Value)) (fe wr0 : Int) (s13 : Value) (wx : World) : Prop :=
  ∃ (g : Int) (d2 : Dk) (l2 : Lg) (th : Bk) (q : Option Addr) (n c : Nat) (lv : List (Grt × Value)), s13 = .int .i64 g ∧ LS W wx pl pd bs d2 l2 ∧ Nv was th fe g wr0 d2 l2 ∧ wx.heap[b8]? = some (.cells C8 53 (0, 0)) ∧
    wx.heap[b9]? = some (.cells (bkCells was (.slice q9 n9 c9)) 34 (0, 0)) ∧ wx.heap[b10]? = some (.cells (bkCells th (.slice q n c)) 34 (0, 0)) ∧ (∃ B, BkM wx B (.slice q9 n9 c9) was lv9) ∧ ∃ B, BkM wx B (.slice q n c) th lv
set_option maxHeartbeats 8000000 in
set_option maxRecDepth 100000 in
theorem never_any {W : World} {q0 : Option Addr} {c0 : Nat} {l0 : List OpD} (hl : RdOp W (.slice q0 l0.length c0) l0) :
    Calls Tryz.prog 9 #[.slice q0 l0.length c0] W fun e w' => e = .returned (.bool true) ∧ Mod [] W w' := by
  obtain ⟨d1, ho1, hl1⟩ := live_new
  have HO := hide (And.intro ho1 hl1)
  have HL := hide hl
  have hll : l0.length ≤ 9223372036854775807 := hl.1
  clear hl ho1 hl1
  go_enter Tryz.func9, Tryz.ntmps9
  go_wp2_with (first
    | (go_at_call 12; refine (awake_any _).mono ?_; rintro e w1 ⟨rfl, m⟩; have H1 := hide m; clear m)
    | (go_at_call 10
       refine (dnew_any 49 (by omega) (by omega) _).mono ?_
       rintro e w2 ⟨rfl, hd, m⟩
       have H2 := hide (And.intro hd (H1.out.then m))
       have hz1 := H1.out.size
       clear hd m)
    | (go_at_call 11
       refine (open_eq (w0 := W) H2.out.1 (by omega) H2.out.2 HO.out.1).mono ?_
       rintro e w3 ⟨pl, rfl, s3, -⟩
       have H3 := hide s3
       clear s3 H2)
    | fail)
  obtain ⟨pd, hpd⟩ : ∃ pd, w1.heap.size + 1 = pd := ⟨_, rfl⟩
  obtain ⟨bs, hbs⟩ : ∃ bs, w1.heap.size = bs := ⟨_, rfl⟩
  have H4 := H3.out
  rw [hpd, hbs] at H4
  try rw [hpd]
  have H5 := hide H4
  clear H4 H3 hz1 hpd hbs
  go_loopw [5, 42] (fun s5 s42 wr => NevRel W pd bs l0.length s5 s42 wr) (fun _ i _ => l0.length - (intOf i).toNat)
  case atStart => exact ⟨0, pl, d1, newL, rfl, rfl, Nat.zero_le _, H5.out, HO.out.2⟩
  case round =>
    obtain ⟨j, pl, d, l, rfl, rfl, hj, hs, hlv⟩ := hrel
    by_cases hlt : j < l0.length
    · have hji : (j : Int) < (l0.length : Int) := by omega
      obtain ⟨ob0, off, q, c, q', c', rfl, hobw, hcs, hra, hrb, hin⟩ := (HL.out.same hs.md).at_ j hlt
      generalize l0.getD j default = o at hcs hra hrb hin
      obtain ⟨okd, ok, ⟨rk, ⟨gi, gh, gp, gm, gs, gt⟩, ri, rs, rn, rbt, rl⟩⟩ := o
      simp only at hcs hra hrb hin
      obtain ⟨m1, hm1⟩ : ∃ m, gs.length = m := ⟨_, rfl⟩
      obtain ⟨m2, hm2⟩ : ∃ m, rs.length = m := ⟨_, rfl⟩
      rw [hm1, hm2] at hcs
      rw [hm1] at hra
      rw [hm2] at hrb
      have y0 := hcs 0 (by decide)
      have y1 := hcs 1 (by decide)
      have y2 := hcs 2 (by decide)
      have y3 := hcs 3 (by decide)
      have y4 := hcs 4 (by decide)
      have y5 := hcs 5 (by decide)
      have y6 := hcs 6 (by decide)
      have y7 := hcs 7 (by decide)
      have y8 := hcs 8 (by decide)
      have y9 := hcs 9 (by decide)
      have y10 := hcs 10 (by decide)
      have y11 := hcs 11 (by decide)
      have y12 := hcs 12 (by decide)
      have y13 := hcs 13 (by decide)
      simp [cellsO, cellsR] at y0 y1 y2 y3 y4 y5 y6 y7 y8 y9 y10 y11 y12 y13
      obtain ⟨hik, hikk, ⟨⟨_, hip, hil⟩, _, hir⟩⟩ := hin
      simp only at hik hikk hip hil hir
      have hkm := (i64w_iff.1 hikk).2
      have hvb := hlv.2.1.lok.book
      have hz := hs.lts
      have HS := hide (And.intro hs (And.intro hlv (And.intro hra hrb)))
      obtain ⟨C8, hC8⟩ : ∃ C8 : Array Value, C8 = #[.int .i64 okd, .int .i64 ok, .int .i64 rk, .int .i64 gi, .int .i64 gh, .string gp, .int .i64 gm, .slice q m1 c, .int .i64 gt, .int .i64 ri, .slice q' m2 c', .int .i64 rn, .int .i64 rbt, .int .i64 rl] := ⟨_, rfl⟩
      obtain ⟨W1, hW1⟩ : ∃ W1, W1 = wr.alloc (.cells C8 53 (0, 0)) := ⟨_, rfl⟩
      have hb1 : W1.heap[wr.heap.size]? = some (.cells C8 53 (0, 0)) := by rw [hW1]; exact heap_alloc_new wr _
      have hma : Mod [] wr W1 := by rw [hW1]; exact (Mod.refl _ _).alloc _
      have HB := hide (And.intro hb1 (And.intro hma (hs.quiet hma)))
      have HC8 := hide hC8
      have B1 := blk_cell hb1
      rw [hC8] at hW1 B1
      have how := fun {w : World} h1 h2 => ownRec_any (w := w) (r := ⟨rk, ⟨gi, gh, gp, gm, gs, gt⟩, ri, rs, rn, rbt, rl⟩) (sv := .slice q m1 c) (tv := .slice q' m2 c') h1 h2 hil hir
      have hap := fun {w : World} {base : Nat} {gv : Value} {b : Bk} {lv : List (Grt × Value)} (h : BkM w base gv b lv) hps h1 h2 => rapply_any (r := ⟨rk, ⟨gi, gh, gp, gm, gs, gt⟩, ri, rs, rn, rbt, rl⟩) (sv := .slice q m1 c) (tv := .slice q' m2 c') h hps h1 h2 (by simp only; omega)
      clear hcs hs hlv hra hrb hb1 hma hik hikk hC8
      by_cases h200 : (200 : Int) < (j : Int)
      · clear how hap
        go_wp2_with fail
        rw [← hW1]
        go_ret
        exact ⟨rfl, HB.out.2.2.md⟩
      go_upto_region 11 with fail
      rw [← hW1]
      clear hW1 y0 y1 y2 y3 y4 y5 y6 y7 y8 y9 y10 y11 y12 y13
      have hbk := book_eq HB.out.2.2 hvb
      go_upto_region 12 with (go_at_call 19
                              refine hbk.mono ?_
                              rintro e w2 ⟨bq, bn, bc, lv9, rfl, hbm, m2, s2⟩
                              have H2 := hide (And.intro hbm (And.intro m2 s2))
                              have hz2 := m2.size
                              clear hbm m2 s2 hbk B1)
      have hz1 : wr.heap.size < W1.heap.size := lt_of_block HB.out.1
      obtain ⟨W3, hW3⟩ : ∃ W3, W3 = w2.alloc (.cells (bkCells l.book (.slice bq bn bc)) 34 (0, 0)) := ⟨_, rfl⟩
      have h93 : W3.heap[w2.heap.size]? = some (.cells (bkCells l.book (.slice bq bn bc)) 34 (0, 0)) := by rw [hW3]; exact heap_alloc_new w2 _
      have m23 : Mod [] w2 W3 := by rw [hW3]; exact (Mod.refl _ _).alloc _
      unfold bkCells at hW3
      rw [← hW3]
      clear hW3
      obtain ⟨t, ht⟩ : ∃ t, applyB l.book ⟨rk, ⟨gi, gh, gp, gm, gs, gt⟩, ri, rs, rn, rbt, rl⟩ = t := ⟨_, rfl⟩
      have m13 : Mod [] wr W3 := (HB.out.2.1.then H2.out.2.1).then m23
      have hap3 := hap (w := W3) (base := W1.heap.size) (gv := .slice bq bn bc) (b := l.book) (lv := lv9) ⟨H2.out.1.gr.mod m23 (by simp), H2.out.1.eq⟩ (fun p hp => by have := ((valid_small hvb H2.out.1.eq).2 p hp).2; omega) (HS.out.2.2.1.mod m13 (by simp)) (HS.out.2.2.2.mod m13 (by simp))
      rw [ht] at hap3
      unfold aggB aggR cellsR at hap3
      simp only at hap3
      have B3 := blk_cell h93
      have B8 := blk_cell (m23.at_ (H2.out.2.1.at_ HB.out.1 (by simp)) (by simp))
      rw [HC8.out] at B8
      unfold bkCells at B3
      have H3 := hide (And.intro h93 (And.intro (m23.at_ (H2.out.2.1.at_ HB.out.1 (by simp)) (by simp)) (And.intro m13 (H2.out.2.2.quiet m23))))
      have H3b := hide (show BkM W3 W1.heap.size (.slice bq bn bc) l.book lv9 from ⟨H2.out.1.gr.mod m23 (by simp), H2.out.1.eq⟩)
      clear h93 m23 m13 hap
      go_upto_region 13 with (go_at_call 18
                              refine hap3.mono ?_
                              rintro e w4 ⟨gv4, lv4, rfl, hbm, m4⟩
                              obtain ⟨q4, c4, rfl, hx4⟩ := hbm.gr.shape
                              simp only [aggB]
                              have H4 := hide (And.intro hbm m4)
                              have hz4 := m4.size
                              clear hbm m4 hap3 B3 B8)
      obtain ⟨W5, hW5⟩ : ∃ W5, W5 = w4.alloc (.cells (bkCells t.1 (.slice q4 lv4.length c4)) 34 (0, 0)) := ⟨_, rfl⟩
      have h105 : W5.heap[w4.heap.size]? = some (.cells (bkCells t.1 (.slice q4 lv4.length c4)) 34 (0, 0)) := by rw [hW5]; exact heap_alloc_new w4 _
      have m45 : Mod [] w4 W5 := by rw [hW5]; exact (Mod.refl _ _).alloc _
      unfold bkCells at hW5
      rw [← hW5]
      clear hW5
      have hz3 : w2.heap.size < W3.heap.size := lt_of_block H3.out.1
      have m35 : Mod [] W3 W5 := H4.out.2.then m45
      have H5b := hide (And.intro (show BkM W5 W1.heap.size (.slice bq bn bc) l.book lv9 from ⟨H3b.out.gr.mod m35 (by simp), H3b.out.eq⟩) (show BkM W5 W3.heap.size (.slice q4 lv4.length c4) t.1 lv4 from ⟨H4.out.1.gr.mod m45 (by simp), H4.out.1.eq⟩))
      have H5c := hide (And.intro (m35.at_ H3.out.1 (by simp)) (And.intro (m35.at_ H3.out.2.1 (by simp)) (And.intro h105 (And.intro (H3.out.2.2.1.then m35) (H3.out.2.2.2.quiet m35)))))
      clear h105 m45 m35
      have K9 := blk_cell H5c.out.1
      have K8 := blk_cell H5c.out.2.1
      have K10 := blk_cell H5c.out.2.2.1
      have F10 := blk_free H5c.out.2.2.1
      rw [HC8.out] at K8
      unfold bkCells at K9 K10
      have hz45 : w4.heap.size < W5.heap.size := lt_of_block H5c.out.2.2.1
      go_upto_region 14 with (go_at_call 13; refine (writes_eq H5c.out.2.2.2.2 rfl).mono ?_; rintro e wx ⟨rfl, hx⟩; rw [hx]; clear hx)
      by_cases hk2 : okd = 2
      · subst hk2
        go_wp2_with (go_at_call 25
                     refine (arm_any H5c.out.2.2.2.2.dk ok hkm).mono ?_
                     rintro e w6 ⟨rfl, hd6, m6⟩
                     have H6 := hide (H5c.out.2.2.2.2.setd m6 hd6)
                     clear hd6 m6 K9 K8 K10 F10)
        go_roundw
        case rel => exact ⟨j + 1, pl, armD d ok, l, by go_num, rfl, by omega, H6.out, HS.out.2.1.1, HS.out.2.1.2.1.on rfl (HS.out.2.1.2.1.ok.arm hkm), HS.out.2.1.2.2⟩
        case measure => simp [intOf]; omega
      have hk2b : (okd == 2) = false := by simpa using hk2
      go_upto_if 69 with fail
      clear hk2b hk2
      go_cut [13] (fun s13 wx => NevMid W pl pd bs wr.heap.size w2.heap.size w4.heap.size C8 l.book bq bn bc lv9 (if okd = 1 then 0 else t.2) d.writes s13 wx)
      case first =>
        as_aux_lemma =>
        have hS3 : ∀ k, k ∈ [pl, pd, bs] → k < wr.heap.size := fun k hk => by simp at hk; omega
        by_cases hk1 : okd = 1
        · subst hk1
          have hcl := nv_compact HS.out.2.1
          obtain ⟨tc, htc⟩ : ∃ t, compactD d l = t := ⟨_, rfl⟩
          rw [htc] at hcl
          have HCL := hide (And.intro hcl htc)
          clear hcl htc K9 K8 K10 F10 how
          go_upto_region 18 with fail
          refine pB 4 (fun w => Mod [pl, pd, bs] W5 w) ((Mod.refl _ _).drew) ?_
          refine pP 0 ?_
          refine pT 2 rfl [4] (fun w h => by have D9 := blk_cell (Mod.at_ h H5c.out.1 (fun e => by have := hS3 _ e; omega)); unfold bkCells at D9; go_simp; try with_reducible rfl) ?_
          refine pX 1 fun hT K HK => ?_
          go_simp
          refine (compact_eq (H5c.out.2.2.2.2.quiet ((Mod.refl [] W5).drew)) HS.out.2.1.2.1.lok HS.out.2.1.2.1.n49 HCL.out.2).mono ?_; rintro e w6 ⟨rfl, s6, m6⟩
          have H6 := hide (And.intro s6 (Mod.then hT m6))
          refine HK.out _ _ _ (Mod.then hT m6) ?_
          clear HK K hT s6 m6
          refine pP 3 ?_
          refine pY 4 fun hT K HK => ?_
          have h10 := H6.out.2.at_ H5c.out.2.2.1 (fun e => by have := hS3 _ e; omega)
          have D10 := blk_cell h10
          have F10 := blk_free h10
          unfold bkCells at D10
          have H10 := hide h10
          clear h10
          go_simp
          refine HK.out _ _ _ ?_
          clear HK K hT D10 F10
          refine pD ?_
          go_wp2_with fail
          go_meet
          case rel =>
            obtain ⟨s6, m6⟩ := H6.out
            have q6 := stL_all H10.out [.int .i64 l.book.next, .int .i64 l.book.boots, .int .i64 l.book.longest, .slice bq bn bc] rfl
            have qm := stL_mod (S := [w4.heap.size]) (w0 := w6) (r := w4.heap.size) (fun _ => by simp) [.int .i64 l.book.next, .int .i64 l.book.boots, .int .i64 l.book.longest, .slice bq bn bc] 0 _ (Mod.refl _ _)
            have hbk9 : BkM w6 W1.heap.size (.slice bq bn bc) l.book lv9 := ⟨H5b.out.1.gr.mod m6 (fun k hk => by have := hS3 _ hk; omega), H5b.out.1.eq⟩
            have hbk9' := hbk9.gr.other qm (fun k hk => by simp at hk; subst hk; exact ⟨_, H10.out⟩)
            exact ⟨_, _, _, l.book, bq, bn, bc, lv9, rfl, s6.boxes qm (fun k hk => by simp at hk; subst hk; have := s6.lts; exact ⟨by have := s6.lo; omega, by omega, by omega, by omega, ⟨_, H10.out⟩⟩), HCL.out.1, qm.at_ (m6.at_ H5c.out.2.1 (fun e => by have := hS3 _ e; omega)) (by simp; omega), qm.at_ (m6.at_ H5c.out.1 (fun e => by have := hS3 _ e; omega)) (by simp; omega), q6, ⟨_, hbk9', hbk9.eq⟩, ⟨_, hbk9', hbk9.eq⟩⟩
        · have hk1b : (okd == 1) = false := by simpa using hk1
          have hna := nv_append HS.out.2.1 ⟨rk, ⟨gi, gh, gp, gm, gs, gt⟩, ri, rs, rn, rbt, rl⟩
          rw [ht] at hna
          have how5 := how (w := W5) (HS.out.2.2.1.mod H5c.out.2.2.2.1 (by simp)) (HS.out.2.2.2.mod H5c.out.2.2.2.1 (by simp))
          unfold aggR cellsR at how5
          simp only at how5
          have HN := hide (And.intro hna hk1)
          clear hna hk1 how
          go_wp2_with (first
            | (go_at_call 15
               refine how5.mono ?_
               rintro e w6 ⟨p1, n1, d1', p2, n2, d2', rfl, hr1, hr2, -, m6⟩
               simp only [aggR, cellsR]
               have H6 := hide (And.intro (rdN_of_row hr1) (And.intro (rdN_of_row hr2) (And.intro m6 (H5c.out.2.2.2.2.quiet m6))))
               clear hr1 hr2 m6 how5 K9 K8 K10 F10)
            | (go_at_call 16
               refine (append_eq (r := ⟨rk, ⟨gi, gh, gp, gm, gs, gt⟩, ri, rs, rn, rbt, rl⟩) H6.out.2.2.2 HS.out.2.1.2.1.lok HS.out.2.1.2.1.n49 H6.out.1 H6.out.2.1 (by simp only; omega) rfl).mono ?_
               rintro e w7 ⟨rfl, s7, m7⟩
               have H7 := hide (And.intro s7 m7)
               clear s7 m7)
            | fail)
          go_meet
          case rel =>
            have m57 : Mod [pl, pd, bs] W5 w7 := (H6.out.2.2.1.mono (by simp)).then H7.out.2
            exact ⟨_, _, _, t.1, q4, lv4.length, c4, lv4, rfl, H7.out.1, by rw [if_neg HN.out.2]; exact HN.out.1, m57.at_ H5c.out.2.1 (fun e => by have := hS3 _ e; omega), m57.at_ H5c.out.1 (fun e => by have := hS3 _ e; omega), m57.at_ H5c.out.2.2.1 (fun e => by have := hS3 _ e; omega),
              ⟨_, H5b.out.1.gr.mod m57 (fun k hk => by have := hS3 _ hk; omega), H5b.out.1.eq⟩, ⟨_, H5b.out.2.gr.mod m57 (fun k hk => by have := hS3 _ hk; omega), H5b.out.2.eq⟩⟩
      case rest =>
      as_aux_lemma =>
      obtain ⟨g, d2, l2, th, q10, n10, c10, lv10, rfl, hs2, hnv, h8, h9, h10, ⟨B9, hb9⟩, ⟨B10, hb10⟩⟩ := hcut
      obtain ⟨X, rfl⟩ : ∃ X : World, X = wc := ⟨_, rfl⟩
      obtain ⟨fe, hfe⟩ : ∃ fe, (if okd = 1 then 0 else t.2) = fe := ⟨_, rfl⟩
      rw [hfe] at hnv
      have hbv := hnv.book hvb
      have h80 : X.cell? ⟨wr.heap.size, 0, none⟩ = some (.int .i64 okd) := by have := blk_cell h8 0; rw [HC8.out] at this; exact this
      have hF : ∀ w', Mod [] X w' → (∀ i, w'.cell? ⟨w2.heap.size, i, none⟩ = (#[.int .i64 l.book.next, .int .i64 l.book.boots, .int .i64 l.book.longest, .slice bq bn bc] : Array Value)[i]?) ∧ (∀ i, w'.cell? ⟨w4.heap.size, i, none⟩ = (#[.int .i64 th.next, .int .i64 th.boots, .int .i64 th.longest, .slice q10 n10 c10] : Array Value)[i]?) ∧ w'.cell? ⟨wr.heap.size, 0, none⟩ = some (.int .i64 okd) := fun w' m => ⟨blk_cell (m.at_ h9 (by simp)), blk_cell (m.at_ h10 (by simp)), m.kept h80 (by simp)⟩
      have hbook := fun (w' : World) (m : Mod [] X w') => book_eq (hs2.quiet m) hbv.1
      have HF := hide hF
      have H2x := hide (And.intro hs2 (And.intro hnv (And.intro hb9 (And.intro hb10 (And.intro hbv hfe)))))
      clear hF hs2 hnv hb9 hb10 hbv h8 h9 h10 h80 K8 K9 K10 F10 how
      go_upto_region 20 with fail
      go_cut [104] (fun s wx => s = .bool false ∧ Mod [] X wx)
      case first =>
        as_aux_lemma =>
        rcases H2x.out.2.1 with ⟨rfl, -, e2, -⟩ | ⟨g0, g40, -, -, ew, -⟩ | ⟨rfl, -⟩
        · have HE2 := hide e2
          clear e2
          refine pB 999 (Mod [] X) ((Mod.refl [] X).drew) ?_
          refine pP 0 ?_; refine pP 1 ?_; refine pP 2 ?_; refine pP 3 ?_
          refine pH 5 rfl (fun w h => by obtain ⟨D9, D10, -⟩ := HF.out _ h; go_simp; try with_reducible rfl) ?_
          refine pX 4 fun hT K HK => ?_
          go_simp
          refine (hbook _ hT).mono ?_; rintro e x1 ⟨xq, xn, xc, xl, rfl, hxb, m1, -⟩
          have HX := hide (And.intro hxb (hT.then m1))
          refine HK.out _ _ _ (hT.then m1) ?_
          clear HK K hT m1 hxb
          refine pX 6 fun hT K HK => ?_
          go_simp
          refine (rsame_eq HX.out.1 ⟨H2x.out.2.2.2.1.gr.mod hT (by simp), H2x.out.2.2.2.1.eq⟩ HE2.out).mono ?_; rintro e x2 ⟨rfl, m2⟩
          refine HK.out _ _ _ (hT.then m2) ?_
          clear HK K hT m2
          refine pP 7 ?_; refine pP 8 ?_; refine pP 9 ?_; refine pP 10 ?_; refine pP 11 ?_; refine pP 12 ?_; refine pN 13 ?_; refine pN 14 ?_; refine pP 15 ?_; refine pP 16 ?_; refine pN 17 ?_; refine pN 18 ?_; refine pP 19 ?_; refine pP 20 ?_; refine pN 21 ?_; refine pN 22 ?_; refine pN 23 ?_; refine pN 24 ?_; refine pP 25 ?_; refine pP 26 ?_
          refine pE fun hT => ?_
          go_wp2_with fail
          go_meet
          case rel => exact ⟨rfl, hT⟩
        · have b0 : (g == 0) = false := by simpa using g0
          have b1 : (g != 0) = true := by simpa using g0
          have b2 : (g != 40) = true := by simpa using g40
          have hwr := fun (w' : World) (m : Mod [] X w') => writes_eq (H2x.out.1.quiet m) ew
          clear g0 g40 ew
          refine pB 999 (Mod [] X) ((Mod.refl [] X).drew) ?_
          refine pP 0 ?_; refine pP 1 ?_; refine pP 2 ?_; refine pN 3 ?_; refine pN 4 ?_; refine pN 5 ?_; refine pN 6 ?_; refine pN 7 ?_; refine pP 8 ?_; refine pP 9 ?_; refine pP 10 ?_; refine pP 11 ?_; refine pP 12 ?_; refine pP 13 ?_; refine pP 14 ?_; refine pP 15 ?_; refine pP 16 ?_
          by_cases g42 : g = 42
          · have b3 : (g != 42) = false := by simpa using g42
            clear g42
            refine pP 17 ?_; refine pP 18 ?_; refine pP 19 ?_; refine pP 20 ?_; refine pN 21 ?_; refine pN 22 ?_; refine pN 23 ?_; refine pN 24 ?_; refine pP 25 ?_; refine pP 26 ?_
            refine pE fun hT => ?_
            go_wp2_with fail
            go_meet
            case rel => exact ⟨rfl, hT⟩
          · have b3 : (g != 42) = true := by simpa using g42
            clear g42
            refine pP 17 ?_; refine pP 18 ?_; refine pP 19 ?_; refine pP 20 ?_; refine pP 21 ?_; refine pP 23 ?_
            refine pX 22 fun hT K HK => ?_
            go_simp
            refine (hwr _ hT).mono ?_; rintro e x1 ⟨rfl, hx⟩; rw [hx]
            refine HK.out _ _ _ hT ?_
            clear HK K hT hx x1
            refine pP 24 ?_; refine pP 25 ?_; refine pP 26 ?_
            refine pE fun hT => ?_
            go_wp2_with fail
            go_meet
            case rel => exact ⟨rfl, hT⟩
        · refine pB 999 (Mod [] X) ((Mod.refl [] X).drew) ?_
          refine pP 0 ?_; refine pP 1 ?_; refine pP 2 ?_; refine pN 3 ?_; refine pN 4 ?_; refine pN 5 ?_; refine pN 6 ?_; refine pN 7 ?_; refine pP 8 ?_; refine pP 9 ?_; refine pP 10 ?_; refine pP 11 ?_; refine pP 12 ?_; refine pP 13 ?_; refine pP 14 ?_; refine pP 15 ?_; refine pP 16 ?_; refine pN 17 ?_; refine pN 18 ?_; refine pP 19 ?_; refine pP 20 ?_; refine pN 21 ?_; refine pN 22 ?_; refine pN 23 ?_; refine pN 24 ?_; refine pP 25 ?_; refine pP 26 ?_
          refine pE fun hT => ?_
          go_wp2_with fail
          go_meet
          case rel => exact ⟨rfl, hT⟩
      case rest =>
      as_aux_lemma =>
      obtain ⟨rfl, mX1⟩ := hcut
      obtain ⟨X1, rfl⟩ : ∃ X : World, X = wc := ⟨_, rfl⟩
      have HX1 := hide mX1
      clear mX1
      go_upto_region 22 with fail
      go_cut [123] (fun s wx => s = .bool false ∧ Mod [] X wx)
      case first =>
        as_aux_lemma =>
        refine pB 999 (Mod [] X) (HX1.out.drew) ?_
        refine pP 0 ?_
        refine pH 1 rfl (fun w h => by obtain ⟨D9, D10, D8⟩ := HF.out _ h; go_simp; try with_reducible rfl) ?_
        by_cases hk1 : okd = 1
        · have c0 : (okd != 1) = false := by simpa using hk1
          clear hk1
          refine pP 2 ?_; refine pP 3 ?_; refine pN 4 ?_; refine pN 5 ?_; refine pP 6 ?_; refine pP 7 ?_; refine pN 8 ?_; refine pN 9 ?_; refine pN 10 ?_; refine pN 11 ?_; refine pN 12 ?_; refine pN 13 ?_; refine pN 14 ?_; refine pN 15 ?_; refine pN 16 ?_; refine pN 17 ?_; refine pP 18 ?_
          refine pE fun hT => ?_
          go_wp2_with fail
          go_meet
          case rel => exact ⟨rfl, hT⟩
        · have c0 : (okd != 1) = true := by simpa using hk1
          have HFE := hide (show t.2 = fe by rw [← H2x.out.2.2.2.2.2, if_neg hk1])
          clear hk1
          by_cases hf : t.2 = 0
          · have c1 : (t.2 != 0) = false := by simpa using hf
            clear hf
            refine pP 2 ?_; refine pP 3 ?_; refine pP 4 ?_; refine pP 5 ?_; refine pP 6 ?_; refine pP 7 ?_; refine pN 8 ?_; refine pN 9 ?_; refine pN 10 ?_; refine pN 11 ?_; refine pN 12 ?_; refine pN 13 ?_; refine pN 14 ?_; refine pN 15 ?_; refine pN 16 ?_; refine pN 17 ?_; refine pP 18 ?_
            refine pE fun hT => ?_
            go_wp2_with fail
            go_meet
            case rel => exact ⟨rfl, hT⟩
          · have c1 : (t.2 != 0) = true := by simpa using hf
            have hgf : g = t.2 ∧ l2.book = l.book := by
              rw [HFE.out] at hf ⊢
              rcases H2x.out.2.1 with ⟨_, _, _, e⟩ | ⟨_, _, _, e, _, e2⟩ | ⟨_, _, _, e, _⟩
              · exact absurd e hf
              · exact ⟨e2 hf, e⟩
              · exact absurd e hf
            have c2 : (g != t.2) = false := by simpa using hgf.1
            have HG := hide hgf.2
            clear hf hgf
            refine pP 2 ?_; refine pP 3 ?_; refine pP 4 ?_; refine pP 5 ?_; refine pP 6 ?_; refine pP 7 ?_; refine pP 8 ?_; refine pP 9 ?_; refine pP 10 ?_; refine pP 11 ?_; refine pP 12 ?_
            refine pH 14 rfl (fun w h => by obtain ⟨D9, D10, D8⟩ := HF.out _ h; go_simp; try with_reducible rfl) ?_
            refine pX 13 fun hT K HK => ?_
            go_simp
            refine (hbook _ hT).mono ?_; rintro e x1 ⟨xq, xn, xc, xl, rfl, hxb, m1, -⟩
            have HX := hide (And.intro hxb (hT.then m1))
            refine HK.out _ _ _ (hT.then m1) ?_
            clear HK K hT m1 hxb
            refine pX 15 fun hT K HK => ?_
            go_simp
            refine (rsame_eq HX.out.1 ⟨H2x.out.2.2.1.gr.mod hT (by simp), H2x.out.2.2.1.eq⟩ HG.out).mono ?_; rintro e x2 ⟨rfl, m2⟩
            refine HK.out _ _ _ (hT.then m2) ?_
            clear HK K hT m2
            refine pP 16 ?_; refine pP 17 ?_; refine pP 18 ?_
            refine pE fun hT => ?_
            go_wp2_with fail
            go_meet
            case rel => exact ⟨rfl, hT⟩
      case rest =>
      as_aux_lemma =>
      obtain ⟨rfl, mX2⟩ := hcut
      obtain ⟨X2, rfl⟩ : ∃ X : World, X = wc := ⟨_, rfl⟩
      have HX2 := hide mX2
      clear mX2 HX1
      obtain ⟨l3, hi3, he3, hd3⟩ := H2x.out.2.2.2.2.1.2
      have hre := reopened_any (H2x.out.1.quiet HX2.out).dk hi3
      unfold ReTo at hre
      rw [he3] at hre
      have H3x := hide (And.intro hi3 (And.intro he3 hd3))
      clear hi3 he3 hd3
      go_upto_region 25 with (go_at_call 37
                              refine hre.mono ?_
                              rintro e w6 ⟨rpl, rpd, rbs, rd, rq, rnn, rc, rlv, rfl, hrb6, -, m6⟩
                              have H6 := hide (And.intro hrb6 (HX2.out.then m6))
                              have H6b := hide m6.size
                              clear hrb6 m6 hre)
      obtain ⟨X3, hX3⟩ : ∃ X3, X3 = w6.alloc (.cells #[.int .i64 l2.book.next, .int .i64 l2.book.boots, .int .i64 l2.book.longest, .slice rq rnn rc] 34 (0, 0)) := ⟨_, rfl⟩
      have h143 : X3.heap[w6.heap.size]? = some (.cells #[.int .i64 l2.book.next, .int .i64 l2.book.boots, .int .i64 l2.book.longest, .slice rq rnn rc] 34 (0, 0)) := by rw [hX3]; exact heap_alloc_new w6 _
      have m63 : Mod [] w6 X3 := by rw [hX3]; exact (Mod.refl _ _).alloc _
      have H14 := hide (And.intro h143 (And.intro (show BkM X3 X2.heap.size (.slice rq rnn rc) l2.book rlv from ⟨H6.out.1.gr.mod m63 (by simp), H6.out.1.eq⟩) (H6.out.2.then m63)))
      have HZ6 : X2.heap.size ≤ w6.heap.size := H6b.out
      rw [← hX3]
      clear hX3 h143 m63 H6
      go_cut [148] (fun s wx => s = .bool false ∧ Mod [] X3 wx)
      case first =>
        as_aux_lemma =>
        refine pB 999 (Mod [] X3) ((Mod.refl [] X3).drew) ?_
        refine pP 0 ?_; refine pP 1 ?_; refine pP 2 ?_
        refine pH 3 rfl (fun w h => by have D14 := blk_cell (h.at_ H14.out.1 (by simp)); go_simp; try with_reducible rfl) ?_
        refine pP 4 ?_
        refine pX 5 fun hT K HK => ?_
        go_simp
        refine (hbook _ (H14.out.2.2.then hT)).mono ?_; rintro e x1 ⟨xq, xn, xc, xl, rfl, hxb, m1, -⟩
        have HX := hide (And.intro hxb (hT.then m1))
        refine HK.out _ _ _ (hT.then m1) ?_
        clear HK K hT m1 hxb
        refine pX 6 fun hT K HK => ?_
        go_simp
        refine (rsame_eq ⟨H14.out.2.1.gr.mod hT (by simp), H14.out.2.1.eq⟩ HX.out.1 rfl).mono ?_; rintro e x2 ⟨rfl, m2⟩
        refine HK.out _ _ _ (hT.then m2) ?_
        clear HK K hT m2
        refine pP 7 ?_; refine pP 8 ?_; refine pN 9 ?_; refine pN 10 ?_; refine pN 11 ?_; refine pN 12 ?_; refine pN 13 ?_; refine pN 14 ?_; refine pN 15 ?_; refine pN 16 ?_; refine pP 17 ?_; refine pP 18 ?_
        refine pE fun hT => ?_
        go_wp2_with fail
        go_meet
        case rel => exact ⟨rfl, hT⟩
      case rest =>
      as_aux_lemma =>
      obtain ⟨rfl, mX4⟩ := hcut
      obtain ⟨X4, rfl⟩ : ∃ X : World, X = wc := ⟨_, rfl⟩
      have HX4 := hide mX4
      clear mX4
      by_cases hg40 : g = 40
      · subst hg40
        have h40 : d2.off = true ∧ l2.book = l.book := by
          rcases H2x.out.2.1 with ⟨e, _⟩ | ⟨_, e, _⟩ | ⟨_, e1, e2, _⟩
          · cases e
          · exact absurd rfl e
          · exact ⟨e1, e2⟩
        have hi4 := H3x.out.1.on (d' := onD d2) rfl H3x.out.1.ok.on
        have hop := hi4.open_ rfl
        have m4 := H14.out.2.2.then HX4.out
        have s4 := H2x.out.1.quiet m4
        have hon := on_any s4.dk
        have h144 := HX4.out.at_ H14.out.1 (by simp)
        have E14 := blk_cell h144
        obtain ⟨E9, -, -⟩ := HF.out _ m4
        have hzX : X2.heap.size ≤ X4.heap.size := by have := lt_of_block H14.out.1; have := HX4.out.size; have := H14.out.2.2.size; have := HX2.out.size; omega
        have hlts := (H2x.out.1.quiet HX2.out).lts
        have hb14 : BkM X4 X2.heap.size (.slice rq rnn rc) l2.book rlv := ⟨H14.out.2.1.gr.mod HX4.out (by simp), H14.out.2.1.eq⟩
        have hsz14 : X2.heap.size ≤ w6.heap.size := HZ6
        have H4x := hide (And.intro s4 (And.intro h144 (And.intro hb14 (And.intro hop (And.intro hi4 (And.intro h40.2 (And.intro H2x.out.2.2.1 m4)))))))
        clear hop s4 h144 hi4 hb14 h40 m4
        go_upto_region 31 with (first
          | (go_at_call 20
             refine (rsame_eq H4x.out.2.2.1 ⟨H4x.out.2.2.2.2.2.2.1.gr.mod H4x.out.2.2.2.2.2.2.2 (by simp), H4x.out.2.2.2.2.2.2.1.eq⟩ H4x.out.2.2.2.2.2.1).mono ?_
             rintro e x5 ⟨rfl, m5⟩
             have H5x := hide m5
             have hon5 := on_any (H4x.out.1.quiet m5).dk
             clear m5 E14 E9)
          | (go_at_call 27
             refine hon5.mono ?_
             rintro e x6 ⟨rfl, hd6, m6⟩
             have H6x := hide (And.intro ((H4x.out.1.quiet H5x.out).setd m6 hd6) m6)
             clear hd6 m6 hon5 hon)
          | fail)
        go_upto_region 32 with (go_at_call 11
                                refine (open_eq (w0 := W) H6x.out.1.dk (by have := H6x.out.1.lo; omega) H6x.out.1.md H4x.out.2.2.2.1).mono ?_
                                rintro e x7 ⟨pl7, rfl, s7, m7⟩
                                have H7x := hide (And.intro s7 m7)
                                clear s7 m7)
        have hne : ∀ k, k ∈ [pd, bs] → k ≠ w6.heap.size ∧ k < X2.heap.size := fun k hk => by simp at hk; omega
        have m47 : Mod [pd, bs] X4 x7 := ((H5x.out.mono (by simp)).then (H6x.out.2.mono (by simp))).then H7x.out.2
        have h147 := m47.at_ H4x.out.2.1 (fun e => (hne _ e).1 rfl)
        have hb147 : BkM x7 X2.heap.size (.slice rq rnn rc) l2.book rlv := ⟨H4x.out.2.2.1.gr.mod m47 (fun k hk => .inl (hne k hk).2), H4x.out.2.2.1.eq⟩
        have hbook7 := fun (w' : World) (m : Mod [] x7 w') => book_eq (H7x.out.1.quiet m) H3x.out.1.lok.book
        have H8x := hide (And.intro h147 (And.intro hb147 H3x.out.2.1))
        clear m47 h147 hb147 hne
        simp only at hbook7
        refine pB 999 (Mod [] x7) ((Mod.refl [] x7).drew) ?_
        refine pP 0 ?_; refine pP 1 ?_; refine pP 2 ?_; refine pP 3 ?_; refine pP 4 ?_; refine pP 5 ?_; refine pP 6 ?_; refine pP 7 ?_
        refine pH 9 rfl (fun w h => by have D14 := blk_cell (h.at_ H8x.out.1 (by simp)); go_simp; try with_reducible rfl) ?_
        refine pX 8 fun hT K HK => ?_
        go_simp
        refine (hbook7 _ hT).mono ?_; rintro e x8 ⟨xq, xn, xc, xl, rfl, hxb, m1, -⟩
        have HX := hide (And.intro hxb (hT.then m1))
        refine HK.out _ _ _ (hT.then m1) ?_
        clear HK K hT m1 hxb
        refine pX 10 fun hT K HK => ?_
        go_simp
        refine (rsame_eq HX.out.1 ⟨H8x.out.2.1.gr.mod hT (by simp), H8x.out.2.1.eq⟩ H8x.out.2.2).mono ?_; rintro e x9 ⟨rfl, m2⟩
        refine HK.out _ _ _ (hT.then m2) ?_
        clear HK K hT m2
        refine pP 11 ?_; refine pP 12 ?_
        refine pE fun hT => ?_
        have HT := hide hT
        clear hT hbook7
        go_wp2_with fail
        go_roundw
        case rel => exact ⟨j + 1, pl7, onD d2, { l3 with dead := false }, by go_num, rfl, by omega, H7x.out.1.quiet HT.out, rfl, H4x.out.2.2.2.2.1.live, rfl⟩
        case measure => simp [intOf]; omega
      · have b0 : (g == 40) = false := by simpa using hg40
        have hlv2 : LiveN d2 l2 := by
          rcases H2x.out.2.1 with ⟨_, e, _⟩ | ⟨_, _, e, _⟩ | ⟨e, _⟩
          · exact e
          · exact e
          · exact absurd e hg40
        have HLV := hide hlv2
        clear hg40 hlv2
        go_wp2_with fail
        go_roundw
        case rel => exact ⟨j + 1, pl, d2, l2, by go_num, rfl, by omega, H2x.out.1.quiet (H14.out.2.2.then HX4.out), HLV.out⟩
        case measure => simp [intOf]; omega
    · obtain rfl : j = l0.length := by omega
      have HS := hide hs
      clear hs hlv
      go_wp2_with fail
      go_ret
      exact ⟨rfl, HS.out.md⟩
end Go.Proofs.YtpphoeimakjjdaaGreatDoor
