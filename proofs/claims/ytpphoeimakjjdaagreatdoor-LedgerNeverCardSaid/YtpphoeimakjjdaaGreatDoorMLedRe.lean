/-
  WALKS: layer 12's laws: a copy of a disk, reopened.
-/
import Derived.Test.YtpphoeimakjjdaaGreatDoorMLedMay
import Derived.Test.YtpphoeimakjjdaaGreatDoorMDisk3
import Derived.Test.YtpphoeimakjjdaaGreatDoorMDisk4
namespace Go.Proofs.YtpphoeimakjjdaaGreatDoor
open Go.RowKit Go.Shelf

/-- three results, the first a struct in a block of its own -/
theorem res_ctt {P : Program} {fn : Func} {p q u : Tmp} {ty : TypeId} (h : fn.results = #[.cell p ty, .tmp q, .tmp u]) (tmps : Array Value) (w : World) {r : Nat} {cs : Array Value} {T : TypeId} (hp : tmps.getD p undef = .pointer (some ⟨r, 0, none⟩))
    (hb : w.heap[r]? = some (.cells cs T (0, 0))) (aE : ∀ w, (isAgg ty).run P w = .ok true w) (zE : ∀ w, (Go.sizeOf ty).run P w = .ok cs.size w) {e : Value} (he : e = .tuple #[.agg cs, tmps.getD q undef, tmps.getD u undef]) : (results fn tmps).run P w = .ok e w := by
  subst he
  have e1 : (asAddr (.pointer (some ⟨r, 0, none⟩))).run P w = .ok ⟨r, 0, none⟩ w := rfl
  have e2 : (loadVar ty ⟨r, 0, none⟩).run P w = .ok (.agg cs) w := by
    have e3 := run_loadCells_list (P := P) (w := w) ⟨r, 0, none⟩ cs.toList (fun i v hi => by
      rw [Addr.add_lit, Nat.zero_add, blk_cell hb]; simpa using hi)
    rw [Array.length_toList] at e3
    unfold loadVar
    simp only [Sem.run_bind, aE, Result.andThen, if_true, zE]
    simp [e3]
  have e0 : (results fn tmps).run P w = ((asAddr (tmps.getD p undef)).run P w).andThen fun a w₁ => ((loadVar ty a).run P w₁).andThen fun v w₂ => .ok (.tuple #[v, tmps.getD q undef, tmps.getD u undef]) w₂ := by
    simp only [results, h]
    simp [Sem.run_bind, Result.andThen]
  rw [e0, hp, e1]
  simp only [Result.andThen]
  rw [e2]
theorem open_eq2 {w0 w : World} {pd bs : Nat} {d d' : Dk} {l : Lg} (h : DkM w pd bs d) (hlo : w0.heap.size ≤ pd ∧ w0.heap.size ≤ bs) (hm : Mod [] w0 w) (ho : openD d = (0, d', some l)) :
    Calls Tryz.prog 11 #[.pointer (some ⟨pd, 0, none⟩)] w fun e w' => ∃ pl, e = .returned (.tuple #[.pointer (some ⟨pl, 0, none⟩), .int .i64 0]) ∧ LS w0 w' pl pd bs d' l ∧ Mod [pd, bs] w w' ∧ w.heap.size ≤ pl := by
  refine (open_any h).mono ?_
  rintro e w' ⟨m, hr⟩
  rw [ho] at hr
  obtain ⟨pl, gv, lv, rfl, hl, hp⟩ := hr
  exact ⟨pl, rfl, ⟨⟨gv, lv, hl⟩, ⟨by have := hm.size; omega, hlo.1, hlo.2⟩, mod_fresh hm m (by simp; omega)⟩, m, hp⟩
/-- the copy's ledger, and its book -/
def ReTo (w : World) (l : Lg) (e : Ending) (w' : World) : Prop :=
  ∃ pl pd bs d q n c lv, e = .returned (.tuple #[.agg #[.int .i64 l.book.next, .int .i64 l.book.boots, .int .i64 l.book.longest, .slice q n c], .pointer (some ⟨pl, 0, none⟩), .bool true]) ∧ BkM w' w.heap.size (.slice q n c) l.book lv ∧ LS w w' pl pd bs d { l with dead := false } ∧ Mod [] w w'
set_option maxHeartbeats 4000000 in
set_option maxRecDepth 100000 in
theorem reopened_any {w : World} {pd bs : Nat} {d : Dk} {l : Lg} (h : DkM w pd bs d) (hi : Inv d l) :
    Calls Tryz.prog 37 #[.pointer (some ⟨pd, 0, none⟩)] w fun e w' => ReTo w l e w' := by
  have hok := hi.ok
  have h512 := hok.most
  have h1 := hok.least
  have hiI : Inv (imgD d.secs) l := hi.on rfl ⟨hok.all, hok.least, hok.most, fun e => Bool.noConfusion e, by simp [imgD]⟩
  have hop := hiI.open_ rfl
  obtain ⟨W0, hW0⟩ : ∃ W0, W0 = w.alloc (.cells #[.int .i64 0, .int .i64 0, .int .i64 0, .slice none 0 0] 34 (0, 0)) := ⟨_, rfl⟩
  have hb0 : W0.heap[w.heap.size]? = some (.cells #[.int .i64 0, .int .i64 0, .int .i64 0, .slice none 0 0] 34 (0, 0)) := by rw [hW0]; exact heap_alloc_new w _
  have hm0 : Mod [] w W0 := by rw [hW0]; exact (Mod.refl _ _).alloc _
  have him := image_any (h.mod hm0 (by simp) (by simp))
  have HI := hide (And.intro hop (And.intro hi.lok.book (And.intro h1 (And.intro h512 hok.all))))
  have H0 := hide (And.intro hb0 hm0)
  clear h hi hok h512 h1 hiI hop hb0 hm0
  go_enter Tryz.func37, Tryz.ntmps37
  go_upto_region 1 with fail
  rw [← hW0]
  clear hW0
  go_wp2_with (first
    | (go_at_call 36; refine him.mono ?_; rintro e w1 ⟨v1, vs1, rfl, hr1, m1⟩; obtain ⟨q1, c1, hv1, -⟩ := hr1.shape; subst hv1; have H1 := hide (And.intro hr1 (H0.out.2.then m1)); have H1b := hide m1; clear hr1 m1 him)
    | (go_at_call 38
       refine (from_any H1.out.1).mono ?_
       intro e w2 hx
       have hx2 : ∃ pd bs, e = .returned (.tuple #[.pointer (some ⟨pd, 0, none⟩), .int .i64 0]) ∧ DkM w2 pd bs (imgD d.secs) ∧ w1.heap.size ≤ pd ∧ w1.heap.size ≤ bs ∧ Mod [] w1 w2 := by
         rcases hx with ⟨_, h⟩ | ⟨h, _⟩
         · exact h
         · exact absurd ⟨HI.out.2.2.1, HI.out.2.2.2.1, HI.out.2.2.2.2⟩ h
       clear hx
       obtain ⟨pd2, bs2, rfl, hd2, hp2, hq2, m2⟩ := hx2
       have hsz := H1.out.2.size
       have H2 := hide (And.intro hd2 (And.intro (H1.out.2.then m2) (show w.heap.size ≤ pd2 ∧ w.heap.size ≤ bs2 by omega)))
       have H2b := hide (And.intro m2 (And.intro hp2 hq2))
       clear hd2 hp2 hq2 m2 hsz)
    | (go_at_call 11
       refine (open_eq2 (w0 := w) H2.out.1 H2.out.2.2 H2.out.2.1 HI.out.1).mono ?_
       rintro e w3 ⟨pl, rfl, s3, m3, hplb⟩
       have H3 := hide (And.intro s3 m3)
       have H3c := hide hplb
       clear s3 m3 hplb)
    | (go_at_call 19
       refine (book_eq H3.out.1 HI.out.2.1).mono ?_
       rintro e w4 ⟨q4, n4, c4, lv4, rfl, hb4, m4, s4⟩
       have hz0 : w.heap.size < w1.heap.size := lt_of_block (H1b.out.at_ H0.out.1 (by simp))
       have hk4 := m4.at_ (H3.out.2.at_ (H2b.out.1.at_ (H1b.out.at_ H0.out.1 (by simp)) (by simp)) (by have := H2b.out.2; simp; omega)) (by simp)
       have K4 := blk_cell hk4
       have F4 := blk_free hk4
       have H4 := hide (And.intro hb4 (And.intro s4 hk4))
       clear hb4 m4 s4 hk4)
    | fail)
  have q' := stL_all H4.out.2.2 [.int .i64 l.book.next, .int .i64 l.book.boots, .int .i64 l.book.longest, .slice q4 n4 c4] rfl
  have qm := stL_mod (S := [w.heap.size]) (w0 := w4) (r := w.heap.size) (fun _ => by simp) [.int .i64 l.book.next, .int .i64 l.book.boots, .int .i64 l.book.longest, .slice q4 n4 c4] 0 _ (Mod.refl [w.heap.size] w4)
  have hz0 : w.heap.size < w1.heap.size := lt_of_block (H1b.out.at_ H0.out.1 (by simp))
  have hz1 := H2b.out.1.size
  have hz3 := H3.out.2.size
  have hlo := H4.out.2.1.lo
  have hplb : w2.heap.size ≤ pl := H3c.out
  obtain ⟨gv, lv, hlg⟩ := H4.out.2.1.mem
  have hbq := H4.out.1.gr
  refine bodyPost_ret (v := .tuple #[.agg #[.int .i64 l.book.next, .int .i64 l.book.boots, .int .i64 l.book.longest, .slice q4 n4 c4], .pointer (some ⟨pl, 0, none⟩), .bool true]) (res_ctt Tryz.results37 _ _ rfl q' Tryz.isAgg34 Tryz.sizeOf34 rfl) rfl ⟨pl, pd2, bs2, imgD d.secs, q4, n4, c4, lv4, rfl, ⟨?_, H4.out.1.eq⟩, ?_, ?_⟩
  · exact (hbq.mod qm (fun k hk => by simp at hk; omega)).base (by omega)
  · refine ⟨⟨gv, lv, qm.at_ hlg.blk (by simp; omega), hlg.dk.mod qm (by have := H2b.out.2.1; simp; omega) (by have := H2b.out.2.2; simp; omega), ⟨hlg.bk.gr.mod qm (fun k hk => by simp at hk; omega), hlg.bk.eq⟩, hlg.lt⟩, hlo, mod_fresh H4.out.2.1.md qm (by simp)⟩
  · exact mod_fresh H4.out.2.1.md qm (by simp)
end Go.Proofs.YtpphoeimakjjdaaGreatDoor
