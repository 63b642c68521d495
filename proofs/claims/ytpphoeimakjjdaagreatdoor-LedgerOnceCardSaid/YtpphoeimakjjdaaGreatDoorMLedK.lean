/-
  WALKS: layer 12: contracts for the laws: a ledger and its disk in new memory; awake.
-/
import Derived.Test.YtpphoeimakjjdaaGreatDoorMLedW9
import Derived.Test.YtpphoeimakjjdaaGreatDoorMLedC
namespace Go.Proofs.YtpphoeimakjjdaaGreatDoor
open Go.RowKit Go.Shelf

structure LS (w0 w : World) (pl pd bs : Nat) (d : Dk) (l : Lg) : Prop where
  mem : ∃ gv lv, LgM w pl pd bs gv lv d l
  lo : w0.heap.size ≤ pl ∧ w0.heap.size ≤ pd ∧ w0.heap.size ≤ bs
  md : Mod [] w0 w
section
variable {w0 w : World} {pl pd bs : Nat} {d : Dk} {l : Lg}
theorem LS.step (s : LS w0 w pl pd bs d l) {w' : World} {d' : Dk} {l' : Lg} (m : Mod [pl, pd, bs] w w') (h : ∃ gv lv, LgM w' pl pd bs gv lv d' l') : LS w0 w' pl pd bs d' l' :=
  ⟨h, s.lo, mod_fresh s.md m (by have := s.lo; simp; omega)⟩
theorem LS.quiet (s : LS w0 w pl pd bs d l) {w' : World} (m : Mod [] w w') : LS w0 w' pl pd bs d l := by
  obtain ⟨gv, lv, h⟩ := s.mem
  exact ⟨⟨gv, lv, h.quiet m⟩, s.lo, s.md.then m⟩
theorem LS.dk (s : LS w0 w pl pd bs d l) : DkM w pd bs d := by
  obtain ⟨gv, lv, h⟩ := s.mem
  exact h.dk
theorem LS.setd (s : LS w0 w pl pd bs d l) {w' : World} {d' : Dk} (m : Mod [pd] w w') (h : DkM w' pd bs d') : LS w0 w' pl pd bs d' l := by
  obtain ⟨gv, lv, hl⟩ := s.mem
  exact ⟨⟨gv, lv, hl.disk h (m.mono (by simp))⟩, s.lo, mod_fresh s.md m (by have := s.lo; simp; omega)⟩
theorem append_eq (s : LS w0 w pl pd bs d l) (hok : l.Ok) (h49 : 49 ≤ d.secs.length) {r : Rcd} {sv tv : Value} (hs : RdN w sv r.grant.stamp) (ht : RdN w tv r.stamp) (hp : r.grant.path.size ≤ 9223372036854775807) {t : Int × Dk × Lg} (ha : appendD d l r = t) :
    Calls Tryz.prog 16 #[.pointer (some ⟨pl, 0, none⟩), aggR r sv tv] w fun e w' => e = .returned (.int .i64 t.1) ∧ LS w0 w' pl pd bs t.2.1 t.2.2 ∧ Mod [pl, pd, bs] w w' := by
  obtain ⟨gv, lv, h⟩ := s.mem
  refine (append_any h hok h49 hs ht hp).mono ?_
  rintro e w' ⟨he, gv', lv', h', m⟩
  rw [ha] at he h'
  exact ⟨he, s.step m ⟨gv', lv', h'⟩, m⟩
theorem compact_eq (s : LS w0 w pl pd bs d l) (hok : l.Ok) (h49 : 49 ≤ d.secs.length) {t : Int × Dk × Lg} (ha : compactD d l = t) :
    Calls Tryz.prog 21 #[.pointer (some ⟨pl, 0, none⟩)] w fun e w' => e = .returned (.int .i64 t.1) ∧ LS w0 w' pl pd bs t.2.1 t.2.2 ∧ Mod [pl, pd, bs] w w' := by
  obtain ⟨gv, lv, h⟩ := s.mem
  refine (compact_any h hok.book hok.area ⟨hok.gen1, hok.genM⟩ h49).mono ?_
  rintro e w' ⟨he, h', m⟩
  rw [ha] at he h'
  exact ⟨he, s.step m ⟨gv, lv, h'⟩, m⟩
theorem book_eq (s : LS w0 w pl pd bs d l) (hv : validB l.book = true) :
    Calls Tryz.prog 19 #[.pointer (some ⟨pl, 0, none⟩)] w fun e w' => ∃ q n c lv, e = .returned (.agg #[.int .i64 l.book.next, .int .i64 l.book.boots, .int .i64 l.book.longest, .slice q n c]) ∧ BkM w' w.heap.size (.slice q n c) l.book lv ∧ Mod [] w w' ∧ LS w0 w' pl pd bs d l := by
  obtain ⟨gv, lv, h⟩ := s.mem
  refine (book_any h hv).mono ?_
  rintro e w' ⟨gv', lv', rfl, hb, m⟩
  obtain ⟨q, c, rfl, _⟩ := hb.gr.shape
  exact ⟨q, _, c, lv', rfl, hb, m, s.quiet m⟩
theorem writes_eq (s : LS w0 w pl pd bs d l) {n : Int} (h : d.writes = n) : Calls Tryz.prog 13 #[.pointer (some ⟨pd, 0, none⟩)] w fun e w' => e = .returned (.int .i64 n) ∧ w' = w := by
  have := writes_any s.dk
  rw [h] at this
  exact this
theorem gen_eq (s : LS w0 w pl pd bs d l) {n : Int} (h : (l.gen : Int) = n) : Calls Tryz.prog 23 #[.pointer (some ⟨pl, 0, none⟩)] w fun e w' => e = .returned (.int .i64 n) ∧ w' = w := by
  obtain ⟨gv, lv, hl⟩ := s.mem
  have := gen_any hl
  rw [h] at this
  exact this
theorem recs_eq (s : LS w0 w pl pd bs d l) {n : Int} (h : (l.seq : Int) = n) : Calls Tryz.prog 22 #[.pointer (some ⟨pl, 0, none⟩)] w fun e w' => e = .returned (.int .i64 n) ∧ w' = w := by
  obtain ⟨gv, lv, hl⟩ := s.mem
  have := recs_any hl
  rw [h] at this
  exact this
theorem used_eq (s : LS w0 w pl pd bs d l) {n : Int} (h : (l.used : Int) = n) : Calls Tryz.prog 24 #[.pointer (some ⟨pl, 0, none⟩)] w fun e w' => e = .returned (.int .i64 n) ∧ w' = w := by
  obtain ⟨gv, lv, hl⟩ := s.mem
  have := used_any hl
  rw [h] at this
  exact this
end
/-- a ledger opened on a disk in new memory -/
theorem open_eq {w0 w : World} {pd bs : Nat} {d d' : Dk} {l : Lg} (h : DkM w pd bs d) (hlo : w0.heap.size ≤ pd ∧ w0.heap.size ≤ bs) (hm : Mod [] w0 w) (ho : openD d = (0, d', some l)) :
    Calls Tryz.prog 11 #[.pointer (some ⟨pd, 0, none⟩)] w fun e w' => ∃ pl, e = .returned (.tuple #[.pointer (some ⟨pl, 0, none⟩), .int .i64 0]) ∧ LS w0 w' pl pd bs d' l ∧ Mod [pd, bs] w w' := by
  refine (open_any h).mono ?_
  rintro e w' ⟨m, hr⟩
  rw [ho] at hr
  obtain ⟨pl, gv, lv, rfl, hl, hp⟩ := hr
  exact ⟨pl, rfl, ⟨⟨gv, lv, hl⟩, ⟨by have := hm.size; omega, hlo.1, hlo.2⟩, mod_fresh hm m (by simp; omega)⟩, m⟩
/-! ### awake -/
theorem field_book1 (a b c : Int) (p : Option Addr) (n k : Nat) (w : World) : (Instr.field 34 (.agg #[.int .i64 a, .int .i64 b, .int .i64 c, .slice p n k]) 1).run Tryz.prog w = .ok (.int .i64 b) w := by kernel_rfl
def recOf (k id : Int) : Rcd := ⟨k, ⟨0, 0, ⟨#[]⟩, 0, [], 0⟩, id, [], 0, 0, 0⟩
theorem boot_new : applyB Bk.new (recOf 7 0) = (⟨1, 1, 0, []⟩, 0) := by kernel_rfl
theorem end_boot : (applyB ⟨1, 1, 0, []⟩ (recOf 6 1)).2 = 43 := by kernel_rfl
theorem boot_width : widthN (encB (recOf 7 0)).length = 1 := by kernel_rfl
theorem dump_boot : sumW ((dumpB ⟨1, 1, 0, []⟩).map encB) = 1 := by kernel_rfl
/-- what awake sees -/
theorem awake_law {d : Dk} {n : Nat} (hn : 49 ≤ n) (h5 : n ≤ 512) (hs : d.secs = List.replicate n (List.replicate 64 0)) (ho : d.off = false) (hok : d.Ok) (ha : d.armed = false) (hw : d.writes = 0) :
    ∃ d1 d2 d3 l2 l3, openD d = (0, d1, some newL) ∧ Calm d1 newL ∧ d1.writes = 1 ∧ appendD d1 newL (recOf 7 0) = (0, d2, l2) ∧ Calm d2 l2 ∧ l2.seq = 1 ∧ l2.used = 1 ∧ compactD d2 l2 = (0, d3, l3) ∧ Calm d3 l3 ∧ l3.gen = 2 ∧ appendD d3 l3 (recOf 6 1) = (43, d3, l3) ∧ l3.book.boots = 1 ∧ d3.writes = 4 := by
  obtain ⟨d1, h1, h2, h3, _⟩ := calm_new hn h5 hs ho hok ha hw
  have hg1 : newL.gen = 1 := rfl
  have hu1 : newL.used = 0 := rfl
  have hb1 : newL.book = Bk.new := rfl
  rcases calm_append h2 (by rw [hg1]; omega) (recOf 7 0) with ⟨e1, _⟩ | ⟨_, d2, l2, e1, e2, e3, _, e5⟩
  · rw [hb1, boot_new] at e1
    exact absurd rfl e1
  obtain ⟨f1, f2, f3, f4⟩ := e5 (by rw [hu1, boot_width]; omega)
  rw [hb1, boot_new] at e3
  simp only at e3
  have hw2 := f4 (by rw [h3]; exact ⟨by omega, by omega⟩)
  rw [boot_width, h3] at hw2
  obtain ⟨d3, c1, c2, c3⟩ := calm_compact e2 (by rw [f1, hg1]; omega)
  have hw3 := c3 (by rw [hw2]; exact ⟨by omega, by omega⟩)
  rw [hw2, e3, dump_boot] at hw3
  have hb3 : (compL l2).book = ⟨1, 1, 0, []⟩ := e3
  have hg3 : (compL l2).gen = 2 := by show l2.gen + 1 = 2; rw [f1]; rfl
  rcases calm_append c2 (by rw [hg3]; omega) (recOf 6 1) with ⟨_, g2⟩ | ⟨g1, _⟩
  · rw [hb3, end_boot] at g2
    refine ⟨d1, d2, d3, l2, compL l2, h1, h2, h3, e1, e2, by rw [f2]; rfl, by rw [f3, hu1, boot_width], c1, c2, hg3, g2, by rw [hb3], ?_⟩
    rw [hw3]
    rfl
  · rw [hb3, end_boot] at g1
    cases g1
set_option maxHeartbeats 4000000 in
set_option maxRecDepth 100000 in
theorem awake_any (w : World) : Calls Tryz.prog 12 #[] w fun e w' => e = .returned (.bool true) ∧ Mod [] w w' := by
  obtain ⟨d1, d2, d3, l2, l3, a1, a2, a3, a4, a5, a6, a7, a8, a9, a10, a11, a12, a13⟩ := awake_law (d := newD 49) (n := 49) (by omega) (by omega) rfl rfl (newD_ok (by omega) (by omega)) rfl rfl
  have A2 := hide a2
  have A5 := hide a5
  have A9 := hide a9
  have AQ := hide (And.intro a1 (And.intro a4 (And.intro a8 a11)))
  have AW := hide (And.intro a3 (And.intro a13 (And.intro a6 (And.intro a7 (And.intro a10 a12)))))
  clear a1 a2 a3 a4 a5 a6 a7 a8 a9 a10 a11 a12 a13
  have hfl := field_book1
  have t1 : Hid True := hide trivial
  have t2 : Hid True := hide trivial
  have t3 : Hid True := hide trivial
  have t4 : Hid True := hide trivial
  have t5 : Hid True := hide trivial
  have t6 : Hid True := hide trivial
  have t7 : Hid True := hide trivial
  have t8 : Hid True := hide trivial
  go_enter Tryz.func12, Tryz.ntmps12
  go_wp2_with (first
    | (go_at_call 10
       refine (dnew_any 49 (by omega) (by omega) _).mono ?_
       rintro e w1 ⟨rfl, hd, hm⟩
       have H1 := hide (And.intro hd hm)
       clear hd hm)
    | (go_at_call 11
       refine (open_eq (w0 := w) H1.out.1 (by omega) H1.out.2 AQ.out.1).mono ?_
       rintro e w2 ⟨pl, rfl, s2, -⟩
       have H2 := hide s2
       clear s2 H1)
    | (go_at_call 13; have tk := t1; refine (writes_eq H2.out AW.out.1).mono ?_; rintro e wx ⟨rfl, hx⟩; rw [hx]; clear hx t1 tk)
    | (go_at_call 23; have tk := t2; refine (gen_eq H2.out (n := 1) rfl).mono ?_; rintro e wx ⟨rfl, hx⟩; rw [hx]; clear hx t2 tk)
    | (go_at_call 22; have tk := t3; refine (recs_eq H2.out (n := 0) rfl).mono ?_; rintro e wx ⟨rfl, hx⟩; rw [hx]; clear hx t3 tk)
    | (go_at_call 16; have tk := t4
       refine (append_eq (r := recOf 7 0) H2.out A2.out.inv.lok A2.out.inv.n49 (rdN_nil _) (rdN_nil _) (by show (ByteArray.mk #[]).size ≤ _; decide) AQ.out.2.1).mono ?_
       rintro e w3 ⟨rfl, s3, -⟩
       have H3 := hide s3
       clear s3 H2 t4 tk)
    | (go_at_call 22; have tk := t5; refine (recs_eq H3.out (n := 1) (by have := AW.out.2.2.1; omega)).mono ?_; rintro e wx ⟨rfl, hx⟩; rw [hx]; clear hx t5 tk)
    | (go_at_call 24; refine (used_eq H3.out (n := 1) (by have := AW.out.2.2.2.1; omega)).mono ?_; rintro e wx ⟨rfl, hx⟩; rw [hx]; clear hx)
    | (go_at_call 21
       refine (compact_eq H3.out A5.out.inv.lok A5.out.inv.n49 AQ.out.2.2.1).mono ?_
       rintro e w4 ⟨rfl, s4, -⟩
       have H4 := hide s4
       clear s4 H3)
    | (go_at_call 23; have tk := t6; refine (gen_eq H4.out (n := 2) (by have := AW.out.2.2.2.2.1; omega)).mono ?_; rintro e wx ⟨rfl, hx⟩; rw [hx]; clear hx t6 tk)
    | (go_at_call 16; have tk := t7
       refine (append_eq (r := recOf 6 1) H4.out A9.out.inv.lok A9.out.inv.n49 (rdN_nil _) (rdN_nil _) (by show (ByteArray.mk #[]).size ≤ _; decide) AQ.out.2.2.2).mono ?_
       rintro e w5 ⟨rfl, s5, -⟩
       have H5 := hide s5
       clear s5 H4 t7 tk)
    | (go_at_call 19
       refine (book_eq H5.out A9.out.inv.lok.book).mono ?_
       rintro e w6 ⟨q6, n6, c6, lv6, rfl, -, -, s6⟩
       rw [AW.out.2.2.2.2.2]
       have H6 := hide s6
       clear s6 H5)
    | (go_at_call 13; have tk := t8; refine (writes_eq H6.out AW.out.2.1).mono ?_; rintro e wx ⟨rfl, hx⟩; rw [hx]; clear hx t8 tk)
    | fail)
  go_ret
  exact ⟨rfl, H6.out.md⟩
/-! ### the law's names -/
theorem small_open : openD (newD 48) = (41, newD 48, none) := by
  unfold openD
  rw [if_pos (by simp [newD])]
set_option maxHeartbeats 4000000 in
set_option maxRecDepth 100000 in
theorem names_any (w : World) : Calls Tryz.prog 3 #[] w fun e w' => e = .returned (.bool true) ∧ Mod [] w w' := by
  have t1 : Hid True := hide trivial
  go_enter Tryz.func3, Tryz.ntmps3
  go_wp2_with (first
    | (go_at_call 10
       refine (dnew_any 48 (by omega) (by omega) _).mono ?_
       rintro e w1 ⟨rfl, hd, hm⟩
       have H1 := hide (And.intro hd hm)
       clear hd hm)
    | (go_at_call 11; have tk := t1
       refine (open_any H1.out.1).mono ?_
       rintro e w2 ⟨m, hr⟩
       rw [small_open] at hr
       obtain ⟨rfl, hd⟩ := hr
       have H2 := hide (And.intro hd (mod_fresh H1.out.2 m (by simp)))
       clear hd m t1 tk)
    | (go_at_call 11; refine (open_nil _).mono ?_; rintro e wx ⟨rfl, hx⟩; rw [hx]; clear hx)
    | (go_at_call 12
       refine (awake_any _).mono ?_
       rintro e w3 ⟨rfl, m⟩
       have H3 := hide (And.intro (H2.out.1.mod m (by simp) (by simp)) (H2.out.2.then m))
       clear m)
    | (go_at_call 13; refine (writes_any H3.out.1).mono ?_; rintro e wx ⟨rfl, hx⟩; rw [hx]; clear hx)
    | fail)
  go_ret
  exact ⟨rfl, H3.out.2⟩
end Go.Proofs.YtpphoeimakjjdaaGreatDoor
