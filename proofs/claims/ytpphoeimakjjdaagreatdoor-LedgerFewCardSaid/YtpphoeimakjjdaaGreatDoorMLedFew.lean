/-
  LedRe LedFew: see the remarks below.
-/
import Derived.Test.YtpphoeimakjjdaaGreatDoorMLedK
import Derived.Test.YtpphoeimakjjdaaGreatDoorMDisk3
import Derived.Test.YtpphoeimakjjdaaGreatDoorMDisk4
import Derived.Test.YtpphoeimakjjdaaGreatDoorMLedOp
import Derived.Test.YtpphoeimakjjdaaGreatDoorMLedSame2
import Derived.Deep.CutBlock
/-
  WALKS: layer 12's laws: a copy of a disk, reopened.
-/
namespace Go.Proofs.YtpphoeimakjjdaaGreatDoor
open Go.RowKit Go.Shelf

/-- three results, the first a struct in a block of its own -/
theorem res_ctt {P : Program} {fn : Func} {p q u : Tmp} {ty : TypeId} (h : fn.results = #[.cell p ty, .tmp q, .tmp u]) (tmps : Array Value) (w : World) {r : Nat} {cs : Array Value} {T : TypeId} (hp : tmps.getD p undef = .pointer (some ⟨r, 0, none⟩))
    (hb : w.heap[r]? = some (.cells cs T (0, 0))) (aE : ∀ w, (isAgg ty).run P w = .ok true w) (zE : ∀ w, (Go.sizeOf ty).run P w = .ok cs.size w) {e : Value} (he : e = .tuple #[.agg cs, tmps.getD q undef, tmps.getD u undef]) : (results fn tmps).run P w = .ok e w := by
  subst he
  have e1 : (asAddr (.pointer (some ⟨r, 0, none⟩))).run P w = .ok ⟨r, 0, none⟩ w := rfl
  have e2 : (loadVar ty ⟨r, 0, none⟩).run P w = .ok (.agg cs) w := by
    have e3 := run_loadCells_list (P := P) (w := w) ⟨r, 0, none⟩ cs.toList (fun i v hi => by
      rw [Addr.add_lit, Nat.zero_add, blk_cell hb]; simpa using hi)
    rw [Array.length_toList] at e3
    unfold loadVar
    simp only [Sem.run_bind, aE, Result.andThen, if_true, zE]
    simp [e3]
  have e0 : (results fn tmps).run P w = ((asAddr (tmps.getD p undef)).run P w).andThen fun a w₁ => ((loadVar ty a).run P w₁).andThen fun v w₂ => .ok (.tuple #[v, tmps.getD q undef, tmps.getD u undef]) w₂ := by
    simp only [results, h]
    simp [Sem.run_bind, Result.andThen]
  rw [e0, hp, e1]
  simp only [Result.andThen]
  rw [e2]
theorem open_eq2 {w0 w : World} {pd bs : Nat} {d d' : Dk} {l : Lg} (h : DkM w pd bs d) (hlo : w0.heap.size ≤ pd ∧ w0.heap.size ≤ bs) (hm : Mod [] w0 w) (ho : openD d = (0, d', some l)) :
    Calls Tryz.prog 11 #[.pointer (some ⟨pd, 0, none⟩)] w fun e w' => ∃ pl, e = .returned (.tuple #[.pointer (some ⟨pl, 0, none⟩), .int .i64 0]) ∧ LS w0 w' pl pd bs d' l ∧ Mod [pd, bs] w w' ∧ w.heap.size ≤ pl := by
  refine (open_any h).mono ?_
  rintro e w' ⟨m, hr⟩
  rw [ho] at hr
  obtain ⟨pl, gv, lv, rfl, hl, hp⟩ := hr
  exact ⟨pl, rfl, ⟨⟨gv, lv, hl⟩, ⟨by have := hm.size; omega, hlo.1, hlo.2⟩, mod_fresh hm m (by simp; omega)⟩, m, hp⟩
/-- the copy's ledger, and its book -/
def ReTo (w : World) (l : Lg) (e : Ending) (w' : World) : Prop :=
  ∃ pl pd bs d q n c lv, e = .returned (.tuple #[.agg #[.int .i64 l.book.next, .int .i64 l.book.boots, .int .i64 l.book.longest, .slice q n c], .pointer (some ⟨pl, 0, none⟩), .bool true]) ∧ BkM w' w.heap.size (.slice q n c) l.book lv ∧ LS w w' pl pd bs d { l with dead := false } ∧ Mod [] w w'
set_option maxHeartbeats 4000000 in
set_option maxRecDepth 100000 in
theorem reopened_any {w : World} {pd bs : Nat} {d : Dk} {l : Lg} (h : DkM w pd bs d) (hi : Inv d l) :
    Calls Tryz.prog 37 #[.pointer (some ⟨pd, 0, none⟩)] w fun e w' => ReTo w l e w' := by
  have hok := hi.ok
  have h512 := hok.most
  have h1 := hok.least
  have hiI : Inv (imgD d.secs) l := hi.on rfl ⟨hok.all, hok.least, hok.most, fun e => Bool.noConfusion e, by simp [imgD]⟩
  have hop := hiI.open_ rfl
  obtain ⟨W0, hW0⟩ : ∃ W0, W0 = w.alloc (.cells #[.int .i64 0, .int .i64 0, .int .i64 0, .slice none 0 0] 34 (0, 0)) := ⟨_, rfl⟩
  have hb0 : W0.heap[w.heap.size]? = some (.cells #[.int .i64 0, .int .i64 0, .int .i64 0, .slice none 0 0] 34 (0, 0)) := by rw [hW0]; exact heap_alloc_new w _
  have hm0 : Mod [] w W0 := by rw [hW0]; exact (Mod.refl _ _).alloc _
  have him := image_any (h.mod hm0 (by simp) (by simp))
  have HI := hide (And.intro hop (And.intro hi.lok.book (And.intro h1 (And.intro h512 hok.all))))
  have H0 := hide (And.intro hb0 hm0)
  clear h hi hok h512 h1 hiI hop hb0 hm0
  go_enter Tryz.func37, Tryz.ntmps37
  go_upto_region 1 with fail
  rw [← hW0]
  clear hW0
  go_wp2_with (first
    | (go_at_call 36; refine him.mono ?_; rintro e w1 ⟨v1, vs1, rfl, hr1, m1⟩; obtain ⟨q1, c1, hv1, -⟩ := hr1.shape; subst hv1; have H1 := hide (And.intro hr1 (H0.out.2.then m1)); have H1b := hide m1; clear hr1 m1 him)
    | (go_at_call 38
       refine (from_any H1.out.1).mono ?_
       intro e w2 hx
       have hx2 : ∃ pd bs, e = .returned (.tuple #[.pointer (some ⟨pd, 0, none⟩), .int .i64 0]) ∧ DkM w2 pd bs (imgD d.secs) ∧ w1.heap.size ≤ pd ∧ w1.heap.size ≤ bs ∧ Mod [] w1 w2 := by
         rcases hx with ⟨_, h⟩ | ⟨h, _⟩
         · exact h
         · exact absurd ⟨HI.out.2.2.1, HI.out.2.2.2.1, HI.out.2.2.2.2⟩ h
       clear hx
       obtain ⟨pd2, bs2, rfl, hd2, hp2, hq2, m2⟩ := hx2
       have hsz := H1.out.2.size
       have H2 := hide (And.intro hd2 (And.intro (H1.out.2.then m2) (show w.heap.size ≤ pd2 ∧ w.heap.size ≤ bs2 by omega)))
       have H2b := hide (And.intro m2 (And.intro hp2 hq2))
       clear hd2 hp2 hq2 m2 hsz)
    | (go_at_call 11
       refine (open_eq2 (w0 := w) H2.out.1 H2.out.2.2 H2.out.2.1 HI.out.1).mono ?_
       rintro e w3 ⟨pl, rfl, s3, m3, hplb⟩
       have H3 := hide (And.intro s3 m3)
       have H3c := hide hplb
       clear s3 m3 hplb)
    | (go_at_call 19
       refine (book_eq H3.out.1 HI.out.2.1).mono ?_
       rintro e w4 ⟨q4, n4, c4, lv4, rfl, hb4, m4, s4⟩
       have hz0 : w.heap.size < w1.heap.size := lt_of_block (H1b.out.at_ H0.out.1 (by simp))
       have hk4 := m4.at_ (H3.out.2.at_ (H2b.out.1.at_ (H1b.out.at_ H0.out.1 (by simp)) (by simp)) (by have := H2b.out.2; simp; omega)) (by simp)
       have K4 := blk_cell hk4
       have F4 := blk_free hk4
       have H4 := hide (And.intro hb4 (And.intro s4 hk4))
       clear hb4 m4 s4 hk4)
    | fail)
  have q' := stL_all H4.out.2.2 [.int .i64 l.book.next, .int .i64 l.book.boots, .int .i64 l.book.longest, .slice q4 n4 c4] rfl
  have qm := stL_mod (S := [w.heap.size]) (w0 := w4) (r := w.heap.size) (fun _ => by simp) [.int .i64 l.book.next, .int .i64 l.book.boots, .int .i64 l.book.longest, .slice q4 n4 c4] 0 _ (Mod.refl [w.heap.size] w4)
  have hz0 : w.heap.size < w1.heap.size := lt_of_block (H1b.out.at_ H0.out.1 (by simp))
  have hz1 := H2b.out.1.size
  have hz3 := H3.out.2.size
  have hlo := H4.out.2.1.lo
  have hplb : w2.heap.size ≤ pl := H3c.out
  obtain ⟨gv, lv, hlg⟩ := H4.out.2.1.mem
  have hbq := H4.out.1.gr
  refine bodyPost_ret (v := .tuple #[.agg #[.int .i64 l.book.next, .int .i64 l.book.boots, .int .i64 l.book.longest, .slice q4 n4 c4], .pointer (some ⟨pl, 0, none⟩), .bool true]) (res_ctt Tryz.results37 _ _ rfl q' Tryz.isAgg34 Tryz.sizeOf34 rfl) rfl ⟨pl, pd2, bs2, imgD d.secs, q4, n4, c4, lv4, rfl, ⟨?_, H4.out.1.eq⟩, ?_, ?_⟩
  · exact (hbq.mod qm (fun k hk => by simp at hk; omega)).base (by omega)
  · refine ⟨⟨gv, lv, qm.at_ hlg.blk (by simp; omega), hlg.dk.mod qm (by have := H2b.out.2.1; simp; omega) (by have := H2b.out.2.2; simp; omega), ⟨hlg.bk.gr.mod qm (fun k hk => by simp at hk; omega), hlg.bk.eq⟩, hlg.lt⟩, hlo, mod_fresh H4.out.2.1.md qm (by simp)⟩
  · exact mod_fresh H4.out.2.1.md qm (by simp)
end Go.Proofs.YtpphoeimakjjdaaGreatDoor
/-
  THE LAW LedgerFew: its walk.
-/
namespace Go.Proofs.YtpphoeimakjjdaaGreatDoor
open Go.RowKit Go.Shelf

theorem apply_boot {b : Bk} (hv : validB b = true) : applyB b (recOf 7 0) = if b.boots = 1099511627776 then (Bk.zero, 66) else ({ b with boots := b.boots + 1 }, 0) := by
  have hm : mayB (recOf 7 0) = true := by kernel_rfl
  have hk : (recOf 7 0).kind = 7 := rfl
  unfold applyB
  rw [if_neg (by simp [hv, hm]), hk]
  by_cases hb : b.boots = 1099511627776
  · have hl : limitI b 7 = 66 := by unfold limitI; rw [if_pos (.inr ⟨rfl, hb⟩)]
    rw [hl, if_pos (by simp), if_pos hb]
  · have hl : limitI b 7 = 0 := by
      unfold limitI
      rw [if_neg (by simp [hb]), if_neg (by simp)]
    rw [hl, if_neg (by simp), if_neg hb]
    have hc : changeB b (recOf 7 0) = some { b with boots := b.boots + 1 } := by
      unfold changeB
      rw [hk, if_neg (by decide), if_neg (by decide), if_neg (by decide), if_neg (by decide), if_neg (by decide), if_neg (by decide)]
    rw [hc]
def FewRel (W : World) (pl pd bs N : Nat) (s33 : Value) (wr : World) : Prop :=
  ∃ (j : Nat) (d : Dk) (l : Lg), s33 = .int .i64 (j : Int) ∧ j ≤ N ∧ j ≤ 151 ∧ LS W wr pl pd bs d l ∧ Calm d l ∧ l.gen ≤ 1 + j
/-- what a ledger's disk that is not armed holds behind the records -/
def FewTo (W : World) (pl pd bs : Nat) (wx : World) : Prop := ∃ d l, LS W wx pl pd bs d l ∧ Calm d l ∧ l.gen ≤ 1000
theorem few_append {d : Dk} {l : Lg} (h : Calm d l) (hg : l.gen ≤ 1000) (r : Rcd) : ∃ e d' l', appendD d l r = (e, d', l') ∧ Calm d' l' ∧ l'.gen ≤ l.gen + 1 := by
  rcases calm_append h (by omega) r with ⟨_, e⟩ | ⟨_, d', l', e, h1, _, h3, _⟩
  · exact ⟨_, _, _, e, h, by omega⟩
  · exact ⟨_, _, _, e, h1, h3⟩
theorem few_boot {d : Dk} {l : Lg} (h : Calm d l) (hg : l.gen < 1073741824) (hu : l.used ≤ 16) : (l.book.boots = 1099511627776 → appendD d l (recOf 7 0) = (66, d, l)) ∧ (l.book.boots ≠ 1099511627776 → ∃ d2 l2, appendD d l (recOf 7 0) = (0, d2, l2) ∧ Calm d2 l2 ∧ l2.gen = l.gen ∧ l2.book.boots = l.book.boots + 1) := by
  have ha := apply_boot h.inv.lok.book
  refine ⟨fun hb => ?_, fun hb => ?_⟩
  · rw [if_pos hb] at ha
    rcases calm_append h hg (recOf 7 0) with ⟨_, e⟩ | ⟨e, _⟩
    · rw [ha] at e; exact e
    · rw [ha] at e; cases e
  · rw [if_neg hb] at ha
    rcases calm_append h hg (recOf 7 0) with ⟨e, _⟩ | ⟨_, d2, l2, e1, e2, e3, _, e5⟩
    · rw [ha] at e; exact absurd rfl e
    · obtain ⟨f1, _⟩ := e5 (by rw [boot_width]; omega)
      rw [ha] at e3
      exact ⟨d2, l2, e1, e2, f1, by rw [e3]⟩
def TL3 (pl pd bs : Nat) (w0 w : World) : Prop := Mod [pl, pd, bs] w0 w
theorem tl3_of {pl pd bs B : Nat} {w0 w' : World} {v0 v1 v2 v3 : Value} (hb : w0.heap[B]? = some (.cells #[v0, v1, v2, v3] 34 (0, 0)) ∧ B ∉ [pl, pd, bs]) (m : Mod [pl, pd, bs] w0 w') :
    TL3 pl pd bs w0 w' ∧ w'.cell? ⟨B, 0, none⟩ = some v0 ∧ w'.cell? ⟨B, 1, none⟩ = some v1 ∧ w'.cell? ⟨B, 2, none⟩ = some v2 ∧ w'.cell? ⟨B, 3, none⟩ = some v3 :=
  ⟨m, m.kept (blk_cell hb.1 0) hb.2, m.kept (blk_cell hb.1 1) hb.2, m.kept (blk_cell hb.1 2) hb.2, m.kept (blk_cell hb.1 3) hb.2⟩
section
variable {w0 w : World} {pl pd bs : Nat} {d : Dk} {l : Lg}
theorem recs_md (s : LS w0 w pl pd bs d l) {n : Int} (h : (l.seq : Int) = n) : Calls Tryz.prog 22 #[.pointer (some ⟨pl, 0, none⟩)] w fun e w' => e = .returned (.int .i64 n) ∧ LS w0 w' pl pd bs d l ∧ Mod [pl, pd, bs] w w' :=
  (recs_eq s h).mono fun e w' hx => by obtain ⟨he, rfl⟩ := hx; exact ⟨he, s, Mod.refl _ _⟩
theorem gen_md (s : LS w0 w pl pd bs d l) {n : Int} (h : (l.gen : Int) = n) : Calls Tryz.prog 23 #[.pointer (some ⟨pl, 0, none⟩)] w fun e w' => e = .returned (.int .i64 n) ∧ LS w0 w' pl pd bs d l ∧ Mod [pl, pd, bs] w w' :=
  (gen_eq s h).mono fun e w' hx => by obtain ⟨he, rfl⟩ := hx; exact ⟨he, s, Mod.refl _ _⟩
theorem used_md (s : LS w0 w pl pd bs d l) {n : Int} (h : (l.used : Int) = n) : Calls Tryz.prog 24 #[.pointer (some ⟨pl, 0, none⟩)] w fun e w' => e = .returned (.int .i64 n) ∧ LS w0 w' pl pd bs d l ∧ Mod [pl, pd, bs] w w' :=
  (used_eq s h).mono fun e w' hx => by obtain ⟨he, rfl⟩ := hx; exact ⟨he, s, Mod.refl _ _⟩
theorem book_md (s : LS w0 w pl pd bs d l) (hv : validB l.book = true) {a b c : Int} (ha : l.book.next = a) (hb : l.book.boots = b) (hc : l.book.longest = c) :
    Calls Tryz.prog 19 #[.pointer (some ⟨pl, 0, none⟩)] w fun e w' => ∃ q n k lv, e = .returned (.agg #[.int .i64 a, .int .i64 b, .int .i64 c, .slice q n k]) ∧ BkM w' w.heap.size (.slice q n k) l.book lv ∧ LS w0 w' pl pd bs d l ∧ Mod [pl, pd, bs] w w' :=
  (book_eq s hv).mono fun e w' hx => by obtain ⟨q, n, k, lv, he, hbm, m, s'⟩ := hx; subst ha hb hc; exact ⟨q, n, k, lv, he, hbm, s', m.mono (by simp)⟩
theorem LS.plt (s : LS w0 w pl pd bs d l) : pl < w.heap.size ∧ pd < w.heap.size ∧ bs < w.heap.size := by
  obtain ⟨gv, lv, h⟩ := s.mem
  have h1 := lt_of_block h.blk
  have h2 := h.lt
  omega
end
theorem rsame_md {w : World} {base1 base2 n1 n2 c1 c2 pl pd bs : Nat} {q1 q2 : Option Addr} {a : Bk} {l1 l2 : List (Grt × Value)} {x y z : Int} (h1 : BkM w base1 (.slice q1 n1 c1) a l1) (h2 : BkM w base2 (.slice q2 n2 c2) a l2) (hx : a.next = x) (hy : a.boots = y) (hz : a.longest = z) :
    Calls Tryz.prog 20 #[.agg #[.int .i64 x, .int .i64 y, .int .i64 z, .slice q1 n1 c1], .agg #[.int .i64 x, .int .i64 y, .int .i64 z, .slice q2 n2 c2]] w fun e w' => e = .returned (.bool true) ∧ Mod [pl, pd, bs] w w' ∧ Mod [] w w' := by
  subst hx hy hz
  exact (rsame_any h1 h2).mono fun e w' hx => by obtain ⟨he, m⟩ := hx; exact ⟨by rw [he]; simp, m.mono (by simp), m⟩
set_option maxHeartbeats 8000000 in
set_option maxRecDepth 100000 in
theorem few_any {W : World} {q0 : Option Addr} {c0 : Nat} {l0 : List Rcd} (hl : RdRc W (.slice q0 l0.length c0) l0) :
    Calls Tryz.prog 7 #[.slice q0 l0.length c0] W fun e w' => e = .returned (.bool true) ∧ Mod [] W w' := by
  obtain ⟨d1, ho1, hc1, _, _⟩ := calm_new (d := newD 60) (n := 60) (by omega) (by omega) rfl rfl (newD_ok (by omega) (by omega)) rfl rfl
  have HO := hide (And.intro ho1 hc1)
  have HL := hide hl
  have hll : l0.length ≤ 9223372036854775807 := hl.1
  clear hl ho1 hc1
  go_enter Tryz.func7, Tryz.ntmps7
  go_upto_block 0 with (first
    | (go_at_call 12; refine (awake_any _).mono ?_; rintro e w1 ⟨rfl, m⟩; have H1 := hide m; clear m)
    | (go_at_call 10
       refine (dnew_any 60 (by omega) (by omega) _).mono ?_
       rintro e w2 ⟨rfl, hd, m⟩
       have H2 := hide (And.intro hd (H1.out.then m))
       have hz1 := H1.out.size
       clear hd m)
    | (go_at_call 11
       refine (open_eq (w0 := W) H2.out.1 (by omega) H2.out.2 HO.out.1).mono ?_
       rintro e w3 ⟨pl, rfl, s3, -⟩
       have H3 := hide s3
       clear s3 H2)
    | fail)
  obtain ⟨pd, hpd⟩ : ∃ pd, w1.heap.size + 1 = pd := ⟨_, rfl⟩
  obtain ⟨bs, hbs⟩ : ∃ bs, w1.heap.size = bs := ⟨_, rfl⟩
  have H4 := H3.out
  rw [hpd, hbs] at H4
  rw [hpd]
  have H5 := hide H4
  clear H4 H3 hz1 hpd hbs
  go_cut [] (fun wx => FewTo W pl pd bs wx)
  case first =>
    go_wp2_with fail
    go_loopw [33] (fun s33 wr => FewRel W pl pd bs l0.length s33 wr) (fun i _ => l0.length - (intOf i).toNat)
    case atStart => exact ⟨0, d1, newL, rfl, Nat.zero_le _, by omega, H5.out, HO.out.2, Nat.le_refl _⟩
    case round =>
      obtain ⟨j, d, l, rfl, hj, hj2, hs, hcl, hgn⟩ := hrel
      by_cases hlt : j < l0.length
      · have hji : (j : Int) < (l0.length : Int) := by omega
        obtain ⟨ob0, off, q, c, q', c', rfl, hobw, hcs, hra, hrb, hin⟩ := (HL.out.same hs.md).at_ j hlt
        by_cases h150 : (150 : Int) < (j : Int)
        · generalize l0.getD j default = o at hcs hra hrb hin
          obtain ⟨rk, ⟨gi, gh, gp, gm, gs, gt⟩, ri, rs, rn, rbt, rl⟩ := o
          simp only at hcs
          obtain ⟨m1, hm1⟩ : ∃ m, gs.length = m := ⟨_, rfl⟩
          obtain ⟨m2, hm2⟩ : ∃ m, rs.length = m := ⟨_, rfl⟩
          rw [hm1, hm2] at hcs
          have y0 := hcs 0 (by decide)
          have y1 := hcs 1 (by decide)
          have y2 := hcs 2 (by decide)
          have y3 := hcs 3 (by decide)
          have y4 := hcs 4 (by decide)
          have y5 := hcs 5 (by decide)
          have y6 := hcs 6 (by decide)
          have y7 := hcs 7 (by decide)
          have y8 := hcs 8 (by decide)
          have y9 := hcs 9 (by decide)
          have y10 := hcs 10 (by decide)
          have y11 := hcs 11 (by decide)
          simp [cellsR] at y0 y1 y2 y3 y4 y5 y6 y7 y8 y9 y10 y11
          have HS := hide (And.intro (hs.quiet ((Mod.refl [] wr).alloc (.cells #[.int .i64 rk, .int .i64 gi, .int .i64 gh, .string gp, .int .i64 gm, .slice q m1 c, .int .i64 gt, .int .i64 ri, .slice q' m2 c', .int .i64 rn, .int .i64 rbt, .int .i64 rl] 42 (0, 0)))) hcl)
          clear hs hcl hcs hra hrb hin hm1 hm2
          go_wp2_with fail
          go_meet
          case rel => exact ⟨d, l, HS.out.1, HS.out.2, by omega⟩
        obtain ⟨ee, d', l', hap, hcl2, hgn2⟩ := few_append hcl (by omega) (l0.getD j default)
        generalize l0.getD j default = o at hcs hra hrb hin hap
        obtain ⟨rk, ⟨gi, gh, gp, gm, gs, gt⟩, ri, rs, rn, rbt, rl⟩ := o
        simp only at hcs hra hrb hin
        obtain ⟨m1, hm1⟩ : ∃ m, gs.length = m := ⟨_, rfl⟩
        obtain ⟨m2, hm2⟩ : ∃ m, rs.length = m := ⟨_, rfl⟩
        rw [hm1, hm2] at hcs
        rw [hm1] at hra
        rw [hm2] at hrb
        have y0 := hcs 0 (by decide)
        have y1 := hcs 1 (by decide)
        have y2 := hcs 2 (by decide)
        have y3 := hcs 3 (by decide)
        have y4 := hcs 4 (by decide)
        have y5 := hcs 5 (by decide)
        have y6 := hcs 6 (by decide)
        have y7 := hcs 7 (by decide)
        have y8 := hcs 8 (by decide)
        have y9 := hcs 9 (by decide)
        have y10 := hcs 10 (by decide)
        have y11 := hcs 11 (by decide)
        simp [cellsR] at y0 y1 y2 y3 y4 y5 y6 y7 y8 y9 y10 y11
        obtain ⟨⟨_, hip, hil⟩, _, hir⟩ := hin
        simp only at hip hil hir
        have hus := hcl2.inv.lok.used
        have HS := hide (And.intro hs (And.intro hcl (And.intro hra (And.intro hrb (And.intro hap hcl2)))))
        obtain ⟨W1, hW1⟩ : ∃ W1, W1 = wr.alloc (.cells #[.int .i64 rk, .int .i64 gi, .int .i64 gh, .string gp, .int .i64 gm, .slice q m1 c, .int .i64 gt, .int .i64 ri, .slice q' m2 c', .int .i64 rn, .int .i64 rbt, .int .i64 rl] 42 (0, 0)) := ⟨_, rfl⟩
        have hb1 : W1.heap[wr.heap.size]? = some (.cells #[.int .i64 rk, .int .i64 gi, .int .i64 gh, .string gp, .int .i64 gm, .slice q m1 c, .int .i64 gt, .int .i64 ri, .slice q' m2 c', .int .i64 rn, .int .i64 rbt, .int .i64 rl] 42 (0, 0)) := by rw [hW1]; exact heap_alloc_new wr _
        have hma : Mod [] wr W1 := by rw [hW1]; exact (Mod.refl _ _).alloc _
        have HB := hide (And.intro hb1 (And.intro hma (hs.quiet hma)))
        have B1 := blk_cell hb1
        have how := ownRec_any (w := W1) (r := ⟨rk, ⟨gi, gh, gp, gm, gs, gt⟩, ri, rs, rn, rbt, rl⟩) (sv := .slice q m1 c) (tv := .slice q' m2 c') (hra.mod hma (by simp)) (hrb.mod hma (by simp)) hil hir
        unfold aggR cellsR at how
        simp only at how
        have hu24 : ¬ (24 : Int) < (l'.used : Int) := by omega
        clear hcs hs hcl hra hrb hm1 hm2 hb1 hma hap hcl2 hil hir hus
        go_upto_region 11 with fail
        rw [← hW1]
        clear hW1 y0 y1 y2 y3 y4 y5 y6 y7 y8 y9 y10 y11
        go_wp2_with (first
          | (go_at_call 15
             refine how.mono ?_
             rintro e w2 ⟨p1, n1, d1', p2, n2, d2', rfl, hr1, hr2, -, m2⟩
             simp only [aggR, cellsR]
             have H2 := hide (And.intro (rdN_of_row hr1) (And.intro (rdN_of_row hr2) (HB.out.2.2.quiet m2)))
             clear hr1 hr2 m2 how)
          | (go_at_call 16
             refine (append_eq (r := ⟨rk, ⟨gi, gh, gp, gm, gs, gt⟩, ri, rs, rn, rbt, rl⟩) H2.out.2.2 HS.out.2.1.inv.lok HS.out.2.1.inv.n49 H2.out.1 H2.out.2.1 hip HS.out.2.2.2.2.1).mono ?_
             rintro e w3 ⟨rfl, s3, -⟩
             have H3 := hide s3
             clear s3)
          | (go_at_call 24; refine (used_eq H3.out rfl).mono ?_; rintro e wx ⟨rfl, hx⟩; rw [hx]; clear hx)
          | fail)
        go_roundw
        case rel => exact ⟨j + 1, d', l', by go_num, by omega, by omega, H3.out, HS.out.2.2.2.2.2, by omega⟩
        case measure => simp [intOf]; omega
      · obtain rfl : j = l0.length := by omega
        have HS := hide (And.intro hs (And.intro hcl hgn))
        clear hs hcl hgn
        go_wp2_with fail
        go_meet
        case rel => exact ⟨d, l, HS.out.1, HS.out.2.1, by have := HS.out.2.2; omega⟩
  case rest =>
  obtain ⟨d, l, hs, hcl, hgn⟩ := hcut
  obtain ⟨W2, rfl⟩ : ∃ W2 : World, W2 = wc := ⟨_, rfl⟩
  have hv := hcl.inv.lok.book
  obtain ⟨d', hcp, hcl2, _⟩ := calm_compact hcl (by omega)
  have hdl := dump_len l.book hv
  have hdw := dump_width hv
  obtain ⟨nx, hnx⟩ : ∃ n, l.book.next = n := ⟨_, rfl⟩
  obtain ⟨nb, hnb⟩ : ∃ n, l.book.boots = n := ⟨_, rfl⟩
  obtain ⟨nl, hnl⟩ : ∃ n, l.book.longest = n := ⟨_, rfl⟩
  obtain ⟨nG0, hG0⟩ : ∃ n : Int, (l.gen : Int) = n := ⟨_, rfl⟩
  obtain ⟨nG1, hG1⟩ : ∃ n : Int, ((compL l).gen : Int) = n := ⟨_, rfl⟩
  obtain ⟨nR, hR⟩ : ∃ n : Int, ((compL l).seq : Int) = n := ⟨_, rfl⟩
  obtain ⟨nU, hU⟩ : ∃ n : Int, ((compL l).used : Int) = n := ⟨_, rfl⟩
  have hgg : (compL l).gen = l.gen + 1 := rfl
  have hss : (compL l).seq = (dumpB l.book).length := rfl
  have huu : (compL l).used = sumW ((dumpB l.book).map encB) := rfl
  have r1 : decide ((8 : Int) < nR) = false := decide_eq_false (by omega)
  have r2 : decide ((22 : Int) < nU) = false := decide_eq_false (by omega)
  have r3 : decide (nG1 ≤ nG0) = false := decide_eq_false (by omega)
  have r4 : nR ≤ (l.book.grants.length : Int) + 2 := by omega
  have r5 := (heads_iff.1 (valid_iff.1 hv).1)
  have b1 : (nR != nR) = false := by simp
  have b2 : (nG1 != nG1) = false := by simp
  have b3 : (nU != nU) = false := by simp
  rw [hnb] at r5
  have HC := hide (And.intro hcl (And.intro hcp (And.intro hcl2 hv)))
  have HE := hide (And.intro hnx (And.intro hnb (And.intro hnl (And.intro hG0 (And.intro hG1 (And.intro hR hU))))))
  have hp2 := hs.plt
  have HG : Hid (l.gen ≤ 1000) := hide hgn
  clear hcl hcp hcl2 hv hdl hdw hgg hss huu hgn
  go_upto_region 16 with (first
    | (go_at_call 19
       refine (book_md hs HC.out.2.2.2 HE.out.1 HE.out.2.1 HE.out.2.2.1).mono ?_
       rintro e w3 ⟨bq, bn, bc, lv, rfl, hb3, s3, m3⟩
       have h3 := m3.size
       have hbn : lv.length = bn := by obtain ⟨_, _, hsh, _⟩ := hb3.gr.shape; cases hsh; rfl
       have hbl : l.book.grants.length = bn := by rw [hb3.eq, List.length_map, hbn]
       have H3 := hide (And.intro hb3 s3)
       clear hb3 m3 hbn)
    | (go_at_call 23; refine (gen_eq H3.out.2 HE.out.2.2.2.1).mono ?_; rintro e wx ⟨rfl, hx⟩; rw [hx]; clear hx)
    | fail)
  obtain ⟨W4, hW4⟩ : ∃ W4, W4 = w3.alloc (.cells #[.int .i64 nx, .int .i64 nb, .int .i64 nl, .slice bq bn bc] 34 (0, 0)) := ⟨_, rfl⟩
  have hb4 : W4.heap[w3.heap.size]? = some (.cells #[.int .i64 nx, .int .i64 nb, .int .i64 nl, .slice bq bn bc] 34 (0, 0)) := by rw [hW4]; exact heap_alloc_new w3 _
  have hm4 : Mod [] w3 W4 := by rw [hW4]; exact (Mod.refl _ _).alloc _
  rw [← hW4]
  have HQ := hide (H3.out.2.quiet hm4)
  have HBK : Hid (∀ x, Mod [pl, pd, bs] W4 x → BkM x W2.heap.size (.slice bq bn bc) l.book lv) := hide (fun x m => ⟨(H3.out.1.gr.mod hm4 (by simp)).mod m (fun k hk => by simp at hk; omega), H3.out.1.eq⟩)
  obtain ⟨B, hB⟩ : ∃ B, w3.heap.size = B := ⟨_, rfl⟩
  rw [hB] at hb4 ⊢
  have HBX := hide (And.intro hb4 (show B ∉ [pl, pd, bs] by simp; omega))
  have r6 : IntKind.i64.wrap ((bn : Int) + 2) = (bn : Int) + 2 := by
    rw [IntKind.wrap_i64]
    have := (valid_iff.1 HC.out.2.2.2).2.2.1
    omega
  have r7 : decide ((bn : Int) + 2 < nR) = false := decide_eq_false (by omega)
  clear hW4 hb4 hm4 hB r4 hbl hs
  have t1 : Hid True := hide trivial
  have t2 : Hid True := hide trivial
  have t3 : Hid True := hide trivial
  have t4 : Hid True := hide trivial
  have t5 : Hid True := hide trivial
  have t6 : Hid True := hide trivial
  have t7 : Hid True := hide trivial
  go_region_held3 (fun w' => TL3 pl pd bs W4 w' ∧ w'.cell? ⟨B, 0, none⟩ = some (.int .i64 nx) ∧ w'.cell? ⟨B, 1, none⟩ = some (.int .i64 nb) ∧ w'.cell? ⟨B, 2, none⟩ = some (.int .i64 nl) ∧ w'.cell? ⟨B, 3, none⟩ = some (.slice bq bn bc))
    (first | (exact tl3_of HBX.out ((Mod.refl [pl, pd, bs] W4).drew)) | (go_split_ands; exact tl3_of HBX.out (Mod.then (by assumption) hmX)))
    (first
      | (have tk := t1; go_at_call 21; refine (compact_eq (HQ.out.quiet (Mod.refl [] W4).drew) HC.out.1.inv.lok HC.out.1.inv.n49 HC.out.2.1).mono ?_; rintro e x5 ⟨rfl, s5, hmX⟩; clear t1 tk)
      | (have tk := t2; go_at_call 22; refine (recs_md s5 HE.out.2.2.2.2.2.1).mono ?_; rintro e x6 ⟨rfl, s6, hmX⟩; clear t2 tk)
      | (have tk := t3; go_at_call 22; refine (recs_md s6 HE.out.2.2.2.2.2.1).mono ?_; rintro e x7 ⟨rfl, s7, hmX⟩; clear t3 tk)
      | (have tk := t4; go_at_call 24; refine (used_md s7 HE.out.2.2.2.2.2.2).mono ?_; rintro e x8 ⟨rfl, s8, hmX⟩; clear t4 tk)
      | (have tk := t5; go_at_call 23; refine (gen_md s8 HE.out.2.2.2.2.1).mono ?_; rintro e x9 ⟨rfl, s9, hmX⟩; clear t5 tk)
      | (have tk := t6; go_at_call 19; refine (book_md s9 HC.out.2.2.2 HE.out.1 HE.out.2.1 HE.out.2.2.1).mono ?_; rintro e x10 ⟨q10, n10, c10, lv10, rfl, bk10, s10, hmX⟩; clear t6 tk)
      | (have tk := t7; go_at_call 20; go_split_ands; refine (rsame_md (pl := pl) (pd := pd) (bs := bs) bk10 (HBK.out _ (by assumption)) HE.out.1 HE.out.2.1 HE.out.2.2.1).mono ?_; rintro e x11 ⟨rfl, hmX, hm11⟩; clear t7 tk)
      | fail)
  go_split_ands
  have hTL : Mod [pl, pd, bs] W4 x11 := by assumption
  have s11 := s10.quiet hm11
  have hre := (reopened_any s11.dk HC.out.2.2.1.inv).mono (R' := fun e w' => ∃ pl2 pd2 bs2 d2 q n c lv2, e = .returned (.tuple #[.agg #[.int .i64 nx, .int .i64 nb, .int .i64 nl, .slice q n c], .pointer (some ⟨pl2, 0, none⟩), .bool true]) ∧ BkM w' x11.heap.size (.slice q n c) l.book lv2 ∧ LS x11 w' pl2 pd2 bs2 d2 (compL l) ∧ Mod [] x11 w') (fun e w' hx => by
    obtain ⟨pl2, pd2, bs2, d2, q, n, c, lv2, he, h1, h2, h3⟩ := hx
    refine ⟨pl2, pd2, bs2, d2, q, n, c, lv2, ?_, h1, h2, h3⟩
    rw [he]
    have e1 : (compL l).book = l.book := rfl
    rw [e1, HE.out.1, HE.out.2.1, HE.out.2.2.1])
  have HF := hide (few_boot HC.out.2.2.1 (by have := HC.out.2.2.1.inv.lok.genM; have := HC.out.1.inv.lok.genM; show l.gen + 1 < 1073741824; have := HG.out; omega) (dump_width HC.out.2.2.2))
  have HS := hide (And.intro s11 hTL)
  clear s5 s6 s7 s8 s9 s10 s11 hTL bk10 hm11 hmX
  repeat (first | (clear ‹TL3 _ _ _ _ _›) | (clear ‹World.cell? _ _ = _›))
  have u1 : Hid True := hide trivial
  have u2' : Hid True := hide trivial
  have u3 : Hid True := hide trivial
  have u4' : Hid True := hide trivial
  have u5' : Hid True := hide trivial
  have u6' : Hid True := hide trivial
  have hps := HS.out.1.plt
  go_upto_region 19 with (go_at_call 37
                          refine hre.mono ?_
                          rintro e w12 ⟨pl2, pd2, bs2, d2, q12, n12, c12, lv12, rfl, bk12, s12, m12⟩
                          have H12 := hide (And.intro bk12 (And.intro s12 m12))
                          clear bk12 s12 m12 hre)
  obtain ⟨W13, hW13⟩ : ∃ W13, W13 = w12.alloc (.cells #[.int .i64 nx, .int .i64 nb, .int .i64 nl, .slice q12 n12 c12] 34 (0, 0)) := ⟨_, rfl⟩
  have hm13 : Mod [] w12 W13 := by rw [hW13]; exact (Mod.refl _ _).alloc _
  have hk13 : W13.heap[w12.heap.size]? = some (.cells #[.int .i64 nx, .int .i64 nb, .int .i64 nl, .slice q12 n12 c12] 34 (0, 0)) := by rw [hW13]; exact heap_alloc_new w12 _
  rw [← hW13]
  have hmA : Mod [pl, pd, bs] W4 W13 := HS.out.2.then ((H12.out.2.2.then hm13).mono (by simp))
  have K13 := blk_cell hk13
  have KB := blk_cell (hmA.at_ HBX.out.1 HBX.out.2)
  have H13 := hide (And.intro (BkM.mk (H12.out.1.gr.mod hm13 (by simp)) H12.out.1.eq) (And.intro (H12.out.2.1.quiet hm13) (And.intro (HS.out.1.quiet (H12.out.2.2.then hm13)) hmA)))
  clear hW13 hm13 hk13 hmA
  go_upto_region 22 with (first
    | (go_at_call 20
       refine (rsame_md (pl := pl) (pd := pd) (bs := bs) H13.out.1 (HBK.out _ H13.out.2.2.2) HE.out.1 HE.out.2.1 HE.out.2.2.1).mono ?_
       rintro e w14 ⟨rfl, -, m14⟩
       have hbb := m14.at_ (H13.out.2.2.2.at_ HBX.out.1 HBX.out.2) (by simp)
       have KB4 := blk_cell hbb
       have H14 := hide (And.intro (H13.out.2.1.quiet m14) (And.intro (H13.out.2.2.1.quiet m14) hbb))
       clear m14 hbb)
    | (have tk := u1; go_at_call 22; refine (recs_eq H14.out.1 HE.out.2.2.2.2.2.1).mono ?_; rintro e wx ⟨rfl, hx⟩; rw [hx]; clear hx u1 tk)
    | (have tk := u2'; go_at_call 22; refine (recs_eq H14.out.2.1 HE.out.2.2.2.2.2.1).mono ?_; rintro e wx ⟨rfl, hx⟩; rw [hx]; clear hx u2' tk)
    | (have tk := u3; go_at_call 23; refine (gen_eq H14.out.1 HE.out.2.2.2.2.1).mono ?_; rintro e wx ⟨rfl, hx⟩; rw [hx]; clear hx u3 tk)
    | (have tk := u4'; go_at_call 23; refine (gen_eq H14.out.2.1 HE.out.2.2.2.2.1).mono ?_; rintro e wx ⟨rfl, hx⟩; rw [hx]; clear hx u4' tk)
    | (have tk := u5'; go_at_call 24; refine (used_eq H14.out.1 HE.out.2.2.2.2.2.2).mono ?_; rintro e wx ⟨rfl, hx⟩; rw [hx]; clear hx u5' tk)
    | (have tk := u6'; go_at_call 24; refine (used_eq H14.out.2.1 HE.out.2.2.2.2.2.2).mono ?_; rintro e wx ⟨rfl, hx⟩; rw [hx]; clear hx u6' tk)
    | (go_at_call 23; refine (gen_eq H14.out.2.1 HE.out.2.2.2.2.1).mono ?_; rintro e wx ⟨rfl, hx⟩; rw [hx]; clear hx)
    | fail)
  by_cases hbo : nb = 1099511627776
  · have hap := HF.out.1 (by show l.book.boots = _; rw [HE.out.2.1]; exact hbo)
    have hbo2 : (nb == 1099511627776) = true := by simpa using hbo
    subst hbo
    go_wp2_with (go_at_call 16
                 refine (append_eq (r := recOf 7 0) H14.out.2.1 HC.out.2.2.1.inv.lok HC.out.2.2.1.inv.n49 (rdN_nil _) (rdN_nil _) (by show (ByteArray.mk #[]).size ≤ _; decide) hap).mono ?_
                 rintro e w15 ⟨rfl, s15, -⟩
                 have H15 := hide s15
                 clear s15)
    go_ret
    exact ⟨rfl, H15.out.md⟩
  · obtain ⟨dz, lz, hap, hcz, hgz, hbz⟩ := HF.out.2 (by show l.book.boots ≠ _; rw [HE.out.2.1]; exact hbo)
    have hbo2 : (nb == 1099511627776) = false := by simpa using hbo
    have hbz2 : lz.book.boots = nb + 1 := by rw [hbz]; show l.book.boots + 1 = _; rw [HE.out.2.1]
    have hgz2 : (lz.gen : Int) = nG1 := by rw [hgz]; exact HE.out.2.2.2.2.1
    have hwb : IntKind.i64.wrap (nb + 1) = nb + 1 := by rw [IntKind.wrap_i64]; omega
    have e1 : (nG1 == nG1) = true := by simp
    have e2 : (nb + 1 == nb + 1) = true := by simp
    have hfl := field_book1
    have HZ := hide (And.intro hap (And.intro hcz.inv.lok.book (And.intro hgz2 hbz2)))
    have hBn : B ∉ [pl, pd, bs] := HBX.out.2
    have HBY := hide (And.intro H14.out.2.2 hBn)
    have v1 : Hid True := hide trivial
    clear hap hcz hgz hbz hgz2 hbz2 hbo hBn K13 KB
    go_upto_region 24 with fail
    clear KB4
    go_region_held3 (fun w' => TL3 pl pd bs w14 w' ∧ w'.cell? ⟨B, 0, none⟩ = some (.int .i64 nx) ∧ w'.cell? ⟨B, 1, none⟩ = some (.int .i64 nb) ∧ w'.cell? ⟨B, 2, none⟩ = some (.int .i64 nl) ∧ w'.cell? ⟨B, 3, none⟩ = some (.slice bq bn bc))
      (first | (exact tl3_of HBY.out ((Mod.refl [pl, pd, bs] w14).drew)) | (go_split_ands; exact tl3_of HBY.out (Mod.then (by assumption) hmY)))
      (first
        | (have tk := v1; go_at_call 16
           refine (append_eq (r := recOf 7 0) (H14.out.2.1.quiet (Mod.refl [] w14).drew) HC.out.2.2.1.inv.lok HC.out.2.2.1.inv.n49 (rdN_nil _) (rdN_nil _) (by show (ByteArray.mk #[]).size ≤ _; decide) HZ.out.1).mono ?_
           rintro e x15 ⟨rfl, s15, hmY⟩; clear v1 tk)
        | (go_at_call 23; refine (gen_md s15 HZ.out.2.2.1).mono ?_; rintro e x16 ⟨rfl, s16, hmY⟩)
        | (go_at_call 19; refine (book_md s16 HZ.out.2.1 rfl HZ.out.2.2.2 rfl).mono ?_; rintro e x17 ⟨q17, n17, c17, lv17, rfl, -, s17, hmY⟩)
        | fail)
    go_wp2_with fail
    go_ret
    exact ⟨rfl, s17.md⟩
end Go.Proofs.YtpphoeimakjjdaaGreatDoor
