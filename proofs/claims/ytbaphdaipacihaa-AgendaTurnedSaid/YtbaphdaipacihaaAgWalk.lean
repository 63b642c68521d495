/-
  WALKS: the agenda's Get, First, Take, Put, Drop, List, said of the list that it stands for.
-/
import Derived.Test.YtbaphdaipacihaaAgLaw
namespace Go.Proofs.Ytbaphdaipacihaa
open Go.RowKit Go.Sort Go.Shelf

theorem blk_cell {w : World} {b : Nat} {cs : Array Value} {T : TypeId} (h : w.heap[b]? = some (.cells cs T (0, 0))) (o : Nat) : w.cell? ⟨b, o, none⟩ = cs[o]? := by simp [World.cell?, h]
theorem blk_free {w : World} {b : Nat} {cs : Array Value} {T : TypeId} (h : w.heap[b]? = some (.cells cs T (0, 0))) (o : Nat) : w.frozen? ⟨b, o, none⟩ = false := by simp [World.frozen?, h]

theorem blk_set {w : World} {b : Nat} {cs : Array Value} {T : TypeId} (h : w.heap[b]? = some (.cells cs T (0, 0))) (o : Nat) (v : Value) : (w.setCell ⟨b, o, none⟩ v).heap[b]? = some (.cells (cs.setIfInBounds o v) T (0, 0)) := by
  have hlt := lt_of_block h
  have h' : w.heap[b] = .cells cs T (0, 0) := by simpa [Array.getElem?_eq_getElem hlt] using h
  show (w.heap.modify b _)[b]? = _
  rw [Array.getElem?_eq_getElem (by simpa using hlt), Array.getElem_modify_self, h']
  rfl
theorem blk_alloc {w : World} {b : Nat} {o : Obj} (h : w.heap[b]? = some o) (o' : Obj) : (w.alloc o').heap[b]? = some o := ((Gr.refl w).alloc o').heap (lt_of_block h) |>.trans h
theorem blk_other {w : World} {b : Nat} {o : Obj} (h : w.heap[b]? = some o) {a : Addr} (ha : a.block ≠ b) (v : Value) : (w.setCell a v).heap[b]? = some o := (Below.heap_setCell w a v b (Ne.symm ha)).trans h
/-- two results, the first a struct in a block of its own -/
theorem res_cell2 {P : Program} {fn : Func} {p u : Tmp} {ty : TypeId} (h : fn.results = #[.cell p ty, .tmp u]) (tmps : Array Value) (w : World) {r : Nat} {cs : Array Value} {T : TypeId} (hp : tmps.getD p undef = .pointer (some ⟨r, 0, none⟩))
    (hb : w.heap[r]? = some (.cells cs T (0, 0))) (aE : ∀ w, (isAgg ty).run P w = .ok true w) (zE : ∀ w, (Go.sizeOf ty).run P w = .ok cs.size w) {e : Value} (he : e = .tuple #[.agg cs, tmps.getD u undef]) : (results fn tmps).run P w = .ok e w := by
  subst he
  rw [results_cell_tmp h, hp]
  have e1 : (asAddr (.pointer (some ⟨r, 0, none⟩))).run P w = .ok ⟨r, 0, none⟩ w := rfl
  rw [e1]
  have e2 : (loadVar ty ⟨r, 0, none⟩).run P w = .ok (.agg cs) w := by
    have e3 := run_loadCells_list (P := P) (w := w) ⟨r, 0, none⟩ cs.toList (fun i v hi => by
      rw [Addr.add_lit, Nat.zero_add, blk_cell hb]; simpa using hi)
    rw [Array.length_toList] at e3
    unfold loadVar
    simp only [Sem.run_bind, aE, Result.andThen, if_true, zE]
    simp [e3]
  simp only [Result.andThen]
  rw [e2]
def itvO : Option Item → Value
  | some x => itv x
  | none => itv (0, 0, 0)
def optV (o : Option Item) : Value := .tuple #[itvO o, .bool o.isSome]

theorem get_nil (kd key : Int) (w : World) : Calls Try.prog 14 #[.pointer none, .int .i64 kd, .int .i64 key] w fun e w' => e = .returned (optV none) ∧ Mod [] w w' := by
  go_enter Try.func14, Try.ntmps14
  go_wp2_with fail
  refine (place_nil _ _ _).mono ?_
  rintro e w1 ⟨rfl, hg⟩
  have hb := (hg.mod []).at_ (heap_alloc_new w _) (by simp)
  have hC := blk_cell hb
  have hF := blk_free hb
  have hm := (((Gr.refl w).alloc (.cells #[.int .i64 0, .int .i64 0, .int .i64 0] 29)).trans hg).mod []
  clear hg
  go_wp2
  refine bodyPost_ret (v := optV none) ?_ rfl ⟨rfl, ?_⟩
  · simp [results, Try.results14, go_sem, hC]
    rfl
  · exact ((hm.setCell (by simp) _).setCell (by simp) _).setCell (by simp) _

theorem AgH.boxed {w : World} {pa : Nat} {v : Value} {d : List Item} (h : AgH w pa v d) (o : Obj) : AgH (w.alloc o) pa v d := h.gr ((Gr.refl w).alloc o)
theorem item_row {w : World} {pa : Nat} {v : Value} {d : List Item} (h : AgH w pa v d) (i : Nat) (hi : i < d.length) :
    ∃ g cap x1 x2 x3, v = .slice (some ⟨g, 0, none⟩) d.length cap ∧ get d i = (x1, x2, x3) ∧ d.length ≤ maxLen ∧ w.cell? ⟨g, i * 3, none⟩ = some (.int .i64 x1) ∧ w.cell? ⟨g, i * 3 + 1, none⟩ = some (.int .i64 x2) ∧ w.cell? ⟨g, i * 3 + 2, none⟩ = some (.int .i64 x3) := by
  obtain ⟨g, cap, rfl, hm⟩ := h.form i hi
  obtain ⟨c1, c2, c3⟩ := row_cell h.row rfl i hi
  exact ⟨g, cap, (get d i).1, (get d i).2.1, (get d i).2.2, rfl, rfl, hm, c1, c2, c3⟩

set_option maxHeartbeats 400000 in
theorem get_any {w : World} {pa : Nat} {own : List Nat} {l : List Item} (h : Ag w pa own l) (kd key : Int) :
    Calls Try.prog 14 #[.pointer (some ⟨pa, 0, none⟩), .int .i64 kd, .int .i64 key] w fun e w' => e = .returned (optV (l.find? (isB kd key))) ∧ Mod [] w w' := by
  obtain ⟨v, d, hr, hp, rfl⟩ := h.rep
  have hA := hr.ag.boxed (.cells #[.int .i64 0, .int .i64 0, .int .i64 0] 29)
  have lp := hr.ag.lt
  rcases idxD_cases d kd key with ⟨hi, hn⟩ | ⟨k, hk, hi, hb⟩
  · have hfin := find_none hp hn
    clear hn
    rw [hfin]
    clear hfin h hr hp
    go_enter Try.func14, Try.ntmps14
    go_wp2_with fail
    refine (place_any hA kd key).mono ?_
    rintro e w1 ⟨rfl, hg⟩
    rw [hi]
    have hb := hg.at_ (heap_alloc_new w _) (by simp)
    have hC := blk_cell hb
    have hF := blk_free hb
    have hm := (((Gr.refl w).alloc (.cells #[.int .i64 0, .int .i64 0, .int .i64 0] 29)).mod []).then hg
    clear hg hi
    go_wp2
    refine bodyPost_ret (v := optV none) ?_ rfl ⟨rfl, ?_⟩
    · simp [results, Try.results14, go_sem, hC]
      rfl
    · exact ((hm.setCell (by simp) _).setCell (by simp) _).setCell (by simp) _
  · have hfin := find_at h.keyed hp hk hb
    rw [hfin]
    clear hfin hb h hp
    go_enter Try.func14, Try.ntmps14
    go_wp2_with fail
    refine (place_any hA kd key).mono ?_
    rintro e w1 ⟨rfl, hg⟩
    rw [hi]
    have hA1 := hA.mod hg (by simp) (by simp)
    have hb := hg.at_ (heap_alloc_new w _) (by simp)
    have hC := blk_cell hb
    have hF := blk_free hb
    have hm := (((Gr.refl w).alloc (.cells #[.int .i64 0, .int .i64 0, .int .i64 0] 29)).mod []).then hg
    have hc := hA1.c0
    obtain ⟨g, cap, x1, x2, x3, rfl, hx, hml, c1, c2, c3⟩ := item_row hA1 k hk
    have i0 : (0 : Int) ≤ (k : Int) := by omega
    have i1 : (k : Int) < (d.length : Int) := by omega
    have HX := hide hx
    clear hg hi hA hA1 hr hx
    go_wp2
    refine bodyPost_ret (v := optV (some (x1, x2, x3))) ?_ rfl ⟨by rw [HX.out], ?_⟩
    · simp [results, Try.results14, go_sem, hC]
      rfl
    · exact ((hm.setCell (by simp) _).setCell (by simp) _).setCell (by simp) _

theorem first_nil (w : World) : Calls Try.prog 16 #[.pointer none] w fun e w' => e = .returned (optV none) ∧ Mod [] w w' := by
  go_enter Try.func16, Try.ntmps16
  go_wp2_with fail
  refine (alen_nil _).mono ?_
  rintro e w1 ⟨rfl, rfl⟩
  go_wp2
  refine bodyPost_ret (v := optV none) ?_ rfl ⟨rfl, ?_⟩
  · simp [results, Try.results16, go_sem]
    rfl
  · exact ((Gr.refl w).alloc _).mod _

set_option maxHeartbeats 400000 in
theorem first_any {w : World} {pa : Nat} {own : List Nat} {l : List Item} (h : Ag w pa own l) :
    Calls Try.prog 16 #[.pointer (some ⟨pa, 0, none⟩)] w fun e w' => e = .returned (optV l.head?) ∧ Mod [] w w' := by
  obtain ⟨v, d, hr, hp, rfl⟩ := h.rep
  have hA := hr.ag.boxed (.cells #[.int .i64 0, .int .i64 0, .int .i64 0] 29)
  have lp := hr.ag.lt
  cases l with
  | nil =>
    have hd : d = [] := hp.eq_nil
    subst hd
    clear h hr hp
    go_enter Try.func16, Try.ntmps16
    go_wp2_with fail
    refine (alen_any hA).mono ?_
    rintro e w1 ⟨rfl, rfl⟩
    go_wp2
    refine bodyPost_ret (v := optV none) ?_ rfl ⟨rfl, ?_⟩
    · simp [results, Try.results16, go_sem]
      rfl
    · exact ((Gr.refl w).alloc _).mod _
  | cons y r =>
    have hy := head_at hr.heap hp h.srt
    have hl : 0 < d.length := by rw [hp.length_eq]; simp
    obtain ⟨g, cap, x1, x2, x3, rfl, hx, hml, c1, c2, c3⟩ := item_row hA 0 hl
    rw [hx] at hy
    have hc := hA.c0
    have i1 : (0 : Int) < (d.length : Int) := by omega
    have b0 : ((d.length : Int) == 0) = false := by rw [beq_eq_false_iff_ne]; omega
    subst hy
    clear h hr hp hx
    rw [Nat.zero_mul] at c1
    go_enter Try.func16, Try.ntmps16
    go_wp2_with fail
    refine (alen_any hA).mono ?_
    rintro e w1 ⟨rfl, rfl⟩
    clear hA
    go_wp2
    refine bodyPost_ret (v := optV (some (x1, x2, x3))) ?_ rfl ⟨rfl, ?_⟩
    · simp [results, Try.results16, go_sem]
      rfl
    · exact ((Gr.refl w).alloc _).mod _

theorem take_nil (now : Int) (w : World) : Calls Try.prog 18 #[.pointer none, .int .i64 now] w fun e w' => e = .returned (optV none) ∧ Mod [] w w' := by
  go_enter Try.func18, Try.ntmps18
  go_wp2_with fail
  refine (first_nil _).mono ?_
  rintro e w1 ⟨rfl, hg⟩
  have hb := hg.at_ (heap_alloc_new w _) (by simp)
  have hC := blk_cell hb
  have hF := blk_free hb
  have hm := (((Gr.refl w).alloc (.cells #[.int .i64 0, .int .i64 0, .int .i64 0] 29)).mod []).then hg
  have hs := hm.size
  have hs2 := lt_of_block hb
  clear hg
  unfold optV itvO itv
  go_wp2
  refine bodyPost_ret (v := optV none) ?_ rfl ⟨rfl, ?_⟩
  · have q := blk_alloc (blk_set (blk_set (blk_set hb 0 (.int .i64 0)) 1 (.int .i64 0)) 2 (.int .i64 0)) (.cells #[.int .i64 0, .int .i64 0, .int .i64 0] 29)
    exact res_cell2 Try.results18 _ _ rfl q Try.isAgg29 Try.sizeOf29 rfl
  · exact (((hm.setCell (by simp) _).setCell (by simp) _).setCell (by simp) _).alloc _
end Go.Proofs.Ytbaphdaipacihaa
