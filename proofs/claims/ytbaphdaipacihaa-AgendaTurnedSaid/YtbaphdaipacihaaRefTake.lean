/-
  WALKS: the document's answer for the agenda: Take.
-/
import Derived.Test.YtbaphdaipacihaaRefSame
namespace Go.Proofs.Ytbaphdaipacihaa
open Go.RowKit Go.Sort Go.Shelf

/-- three results, the second a struct in a block of its own -/
theorem res_tct {P : Program} {fn : Func} {p q u : Tmp} {ty : TypeId} (h : fn.results = #[.tmp p, .cell q ty, .tmp u]) (tmps : Array Value) (w : World) {r : Nat} {cs : Array Value} {T : TypeId} (hp : tmps.getD q undef = .pointer (some ⟨r, 0, none⟩))
    (hb : w.heap[r]? = some (.cells cs T (0, 0))) (aE : ∀ w, (isAgg ty).run P w = .ok true w) (zE : ∀ w, (Go.sizeOf ty).run P w = .ok cs.size w) {e : Value} (he : e = .tuple #[tmps.getD p undef, .agg cs, tmps.getD u undef]) : (results fn tmps).run P w = .ok e w := by
  subst he
  have e1 : (asAddr (.pointer (some ⟨r, 0, none⟩))).run P w = .ok ⟨r, 0, none⟩ w := rfl
  have e2 : (loadVar ty ⟨r, 0, none⟩).run P w = .ok (.agg cs) w := by
    have e3 := run_loadCells_list (P := P) (w := w) ⟨r, 0, none⟩ cs.toList (fun i v hi => by
      rw [Addr.add_lit, Nat.zero_add, blk_cell hb]; simpa using hi)
    rw [Array.length_toList] at e3
    unfold loadVar
    simp only [Sem.run_bind, aE, Result.andThen, if_true, zE]
    simp [e3]
  have e0 : (results fn tmps).run P w = ((asAddr (tmps.getD q undef)).run P w).andThen fun a w₁ => ((loadVar ty a).run P w₁).andThen fun v w₂ => .ok (.tuple #[tmps.getD p undef, v, tmps.getD u undef]) w₂ := by
    simp only [results, h]
    simp [Sem.run_bind, Result.andThen]
  rw [e0, hp, e1]
  simp only [Result.andThen]
  rw [e2]

def RTakeTo (w : World) (v : Value) (l : List Item) (now : Int) (e : Ending) (w' : World) : Prop :=
  ∃ v', e = .returned (.tuple #[v', itvO (takeI l now).2, .bool (takeI l now).2.isSome]) ∧ (((takeI l now).1 = l ∧ v' = v) ∨ w'.ownsRow w.heap.size 29 3 v' (takeI l now).1.length ((takeI l now).1.flatMap encI)) ∧ Mod [] w w'

theorem dropI_head {x : Item} {r : List Item} (h : Keyed1 (x :: r)) : dropI (x :: r) x.2.1 x.2.2 = r := by
  have h' := List.pairwise_cons.1 h
  unfold dropI
  rw [List.filter_cons, if_neg (by rw [(isB_iff _ _ _).2 ⟨rfl, rfl⟩]; decide)]
  exact List.filter_eq_self.2 fun y hy => by rw [(isB_false _ _ _).2 (fun e => h'.1 y hy ⟨e.1.symm, e.2.symm⟩)]; rfl

set_option maxHeartbeats 1000000 in
set_option maxRecDepth 100000 in
theorem rtake_any {w : World} {v : Value} {l : List Item} (h : RdI w v l) (hsm : l.length ≤ 100000) (hkd : Keyed1 l) (now : Int) :
    Calls Try.prog 17 #[v, .int .i64 now] w fun e w' => RTakeTo w v l now e w' := by
  cases l with
  | nil =>
    obtain ⟨p, cap, rfl⟩ := h.len
    clear h hkd
    go_enter Try.func17, Try.ntmps17
    go_wp2
    have q := heap_alloc_new w (.cells #[.int .i64 0, .int .i64 0, .int .i64 0] 29)
    exact bodyPost_ret (res_tct Try.results17 _ _ rfl q Try.isAgg29 Try.sizeOf29 rfl) rfl ⟨_, rfl, .inl ⟨rfl, rfl⟩, ((Gr.refl w).alloc _).mod _⟩
  | cons y r =>
    have hd := dropI_head hkd
    have h0 := h.gr ((Gr.refl w).alloc (.cells #[.int .i64 0, .int .i64 0, .int .i64 0] 29))
    obtain ⟨b, off, cap, rfl, hbw, hc⟩ := h.at_ 0 (by simp)
    obtain ⟨c1, c2, c3⟩ := hc 0 (by simp)
    obtain ⟨x1, x2, x3⟩ := y
    have b0 : ((r.length : Int) + 1 == 0) = false := by rw [beq_eq_false_iff_ne]; omega
    have i2 : (0 : Int) < (r.length : Int) + 1 := by omega
    have hlen : (((x1, x2, x3) : Item) :: r).length = r.length + 1 := rfl
    rw [hlen] at h0 hsm ⊢
    clear hc hkd h
    simp only [Nat.zero_mul, Nat.add_zero] at c1 c2 c3
    change w.cell? ⟨b, off, none⟩ = some (.int .i64 x1) at c1
    change w.cell? ⟨b, off + 1, none⟩ = some (.int .i64 x2) at c2
    change w.cell? ⟨b, off + 2, none⟩ = some (.int .i64 x3) at c3
    by_cases hn : x1 ≤ now
    · have hD := hide hd
      clear hd hlen
      go_enter Try.func17, Try.ntmps17
      go_wp2_with fail
      go_region_held3 (fun w' => w'.cell? ⟨b, off, none⟩ = some (.int .i64 x1) ∧ w'.cell? ⟨b, off + 1, none⟩ = some (.int .i64 x2) ∧ w'.cell? ⟨b, off + 2, none⟩ = some (.int .i64 x3))
        (first | go_keep | (go_split_ands; refine ⟨?_, ?_, ?_⟩ <;> (refine hmq.kept ?_ (by simp); assumption)))
        (first | (go_at_call 12; refine (rdrop_any (l := ((x1, x2, x3) : Item) :: r) (h0.gr (Gr.refl _).drew) (by simpa using hsm) x2 x3).mono ?_; rintro e w1 ⟨rv, rfl, hrow, hmq⟩))
      have g0 : Gr w ((w.alloc (.cells #[.int .i64 0, .int .i64 0, .int .i64 0] 29)).drew) := ((Gr.refl w).alloc _).drew
      have d1 := hmq.kept (g0.kept c1) (by simp)
      have d2 := hmq.kept (g0.kept c2) (by simp)
      have d3 := hmq.kept (g0.kept c3) (by simp)
      have hB : w1.heap[w.heap.size]? = some (.cells #[.int .i64 0, .int .i64 0, .int .i64 0] 29 (0, 0)) := hmq.at_ (heap_alloc_new w _) (by simp)
      have hCC := blk_cell hB
      have hFF := blk_free hB
      rw [hD.out] at hrow
      have hmw := (g0.mod []).then hmq
      have hbn : b ≠ w.heap.size := by omega
      clear hmq c1 c2 c3 h0 hD
      go_wp2_with fail
      go_region
      all_goals
        go_wp2_with fail
        have q : ((((w1.setCell ⟨w.heap.size, 0, none⟩ (.int .i64 x1)).setCell ⟨w.heap.size, 1, none⟩ (.int .i64 x2)).setCell ⟨w.heap.size, 2, none⟩ (.int .i64 x3)).drew).heap[w.heap.size]? = some (.cells #[.int .i64 x1, .int .i64 x2, .int .i64 x3] 29 (0, 0)) := blk_set (blk_set (blk_set hB 0 (.int .i64 x1)) 1 (.int .i64 x2)) 2 (.int .i64 x3)
        refine bodyPost_ret (v := .tuple #[rv, itv (x1, x2, x3), .bool true]) (res_tct Try.results17 _ _ rfl q Try.isAgg29 Try.sizeOf29 rfl) rfl ⟨rv, by simp [takeI, hn, itvO, itv], .inr ?_, ((hmw.setCell (fun x => absurd x (by simp)) _).setCell (fun x => absurd x (by simp)) _).setCell (fun x => absurd x (by simp)) _ |>.drew⟩
        simp only [takeI, if_pos hn]
        have m : Mod [w.heap.size] w1 ((((w1.setCell ⟨w.heap.size, 0, none⟩ (.int .i64 x1)).setCell ⟨w.heap.size, 1, none⟩ (.int .i64 x2)).setCell ⟨w.heap.size, 2, none⟩ (.int .i64 x3)).drew) :=
          ((((Mod.refl _ w1).setCell (fun _ => by simp) _).setCell (fun _ => by simp) _).setCell (fun _ => by simp) _).drew
        have hs : ((w.alloc (.cells #[.int .i64 0, .int .i64 0, .int .i64 0] 29)).drew).heap.size = w.heap.size + 1 := by simp
        exact row_base (m.row hrow (fun k hk => by have := (hrow.lt k hk).1; rw [hs] at this; simp; omega)) g0.size
    · have hD := hide hd
      clear hd hlen hD
      go_enter Try.func17, Try.ntmps17
      go_wp2
      have q := heap_alloc_new w (.cells #[.int .i64 0, .int .i64 0, .int .i64 0] 29)
      have hn2 : ¬ x1 ≤ now := by omega
      exact bodyPost_ret (v := .tuple #[.slice (some ⟨b, off, none⟩) (r.length + 1) cap, itv (0, 0, 0), .bool false]) (res_tct Try.results17 _ _ rfl q Try.isAgg29 Try.sizeOf29 rfl) rfl ⟨_, by simp [takeI, hn2, itvO, itv], .inl ⟨by simp [takeI, hn2], rfl⟩, ((Gr.refl w).alloc _).mod _⟩
end Go.Proofs.Ytbaphdaipacihaa
