/-
  WALKS: the laws of layer 17: own: a lease with a list of its own, however long.
-/
import Derived.Test.YtifllaeldcimgaaGreatHoldK
namespace Go.Proofs.YtifllaeldcimgaaGreat
open Go.RowKit

section
variable {P : Program}
/-- append([]int{}, s...): onto an empty row -/
theorem wpList_append_empty {ops : Array Oper} {rest : List Oper} {o : Oper} {a : Act} {Q : Exit → Act → World → Prop} (w : World) (hgd : o.guard = none) (s x : Operand) (t : TypeId)
    (ho : o.op = .call { callee := .builtin .append, args := #[s, x], argTypes := #[t, t] })
    (e : TypeId) (i : TypeInfo) (ht : P.underlying t = some (.slice e)) (hi : P.info? e = some i) (hz : i.zero = some (.int .i64 0)) (hsize : i.size = 1) (hby : i.bytes = 8)
    {g : Nat} (hs : a.eval s = .slice (some ⟨g, 0, none⟩) 0 0) (hg : w.heap[g]? = some (.cells #[] e (0, 0))) {v : Value} {m : List Int} (hx : a.eval x = v) (hv : RdN w v m) (hsm : m.length * 8 ≤ 140737488355328)
    (h : ∀ q c w', RdN w' (.slice q m.length c) m → (∀ k, k ∈ ob (.slice q m.length c) → g ≤ k ∧ k < w'.heap.size) → Mod [g] w w' → wpList P ops Q rest (a.put o.dst (.slice q m.length c)) w') : wpList P ops Q (o :: rest) a w := by
  by_cases hm : m = []
  · subst hm
    obtain ⟨p, c, rfl⟩ := hv.len
    have src : Src P i.size t (.slice p 0 c) 0 [] w := by
      cases p with
      | none => exact Src.ofNil w ht c
      | some ad => exact Src.ofSlice w ht ad 0 c [] (by simp) (fun _ _ h => by simp at h) (fun _ h => by cases h)
    have hr := run_append_nothing w t t o.type e i ht hi (some ⟨g, 0, none⟩) 0 0 (Nat.le_refl _) _ src
    refine wpList_plain hgd fun K hK => ?_
    unfold Oper.wp execOp
    simp only [List.length_nil] at hx
    simp only [ho, resolve, invoke, builtin, Sem.run_bind, Sem.run_pure, Result.andThen_ok, List.map_toArray, List.map_cons, List.map_nil, hs, hx, hr]
    refine hK _ _ (h _ _ _ ⟨by simp, .inl ⟨_, _, rfl, rfl⟩⟩ ?_ (Mod.refl _ _))
    intro k hk
    have : k = g := by simpa [ob, Value.ownBlock] using hk
    have := lt_of_block hg
    omega
  · have hpos : 0 < m.length := List.length_pos_iff.2 hm
    rcases hv.2 with ⟨p, c, _, rfl⟩ | ⟨b, off, cap, rfl, hb, hc⟩
    · exact absurd rfl hm
    · have hown : w.ownsRow g e 1 (.slice (some ⟨g, 0, none⟩) 0 0) 0 [] := ⟨by simp, .inr ⟨g, 0, #[], rfl, Nat.le_refl _, hg, by omega, by unfold maxLen; omega, by simp, by simp⟩⟩
      refine wpList_append_lies w hgd s x t ho g e i (.int .i64 0) 1 8 ht hi hz hsize hby rfl (by decide) (.slice (some ⟨g, 0, none⟩) 0 0) 0 [] hs hown ⟨b, off, none⟩ m.length cap (m.map (Value.int .i64)) hx (by simp) ?_ (by simp [Value.oneCell']) hpos (by unfold maxLen; omega) (by omega) (Nat.le_of_lt (lt_of_block hg)) ?_
      · intro j u hu
        obtain ⟨hj, rfl⟩ := List.getElem?_eq_some_iff.1 hu
        rw [List.length_map] at hj
        have := hc j hj
        rw [Addr.add_lit, this]
        simp [hj]
      · intro g' cap' w' hown hgr hat
        simp only [Nat.zero_add, List.nil_append] at hown ⊢
        exact h _ _ _ (RdN.of_row hown) (ob_row hown) ((Mod.refl [g] w).grown hgr (fun k e _ => by simp [Value.ownBlock] at e; simp [e]))
end
set_option maxHeartbeats 400000 in
set_option maxRecDepth 100000 in
theorem own_any {w : World} {q : Option Addr} {cv : Nat} {a : List Int} (hv : RdN w (.slice q a.length cv) a) (hs : a.length * 8 ≤ 140737488355328) (f i m t s e : Int) (p : ByteArray) (r : Bool) :
    Calls Tryz.prog 24 #[.agg #[.int .i64 f, .int .i64 i, .string p, .int .i64 m, .slice q a.length cv, .int .i64 t, .int .i64 s, .int .i64 e, .bool r]] w fun en w' =>
      ∃ q' c', en = .returned (.agg #[.int .i64 f, .int .i64 i, .string p, .int .i64 m, .slice q' a.length c', .int .i64 t, .int .i64 s, .int .i64 e, .bool r]) ∧ Fresh w w' q' a c' := by
  obtain ⟨i0, hi0, hz0, hs0, hb0⟩ := info_parts info_int
  have g2 := (((Gr.refl w).alloc (objL f i p m (.slice q a.length cv) t s e r)).alloc objZ).alloc (.cells #[] 3)
  have b1 := blk_alloc (blk_alloc (heap_alloc_new w (objL f i p m (.slice q a.length cv) t s e r)) objZ) (.cells #[] 3)
  have b2 := blk_alloc (heap_alloc_new (w.alloc (objL f i p m (.slice q a.length cv) t s e r)) objZ) (.cells #[] 3)
  have b3 := heap_alloc_new ((w.alloc (objL f i p m (.slice q a.length cv) t s e r)).alloc objZ) (.cells #[] 3)
  have e1 : (w.alloc (objL f i p m (.slice q a.length cv) t s e r)).heap.size = w.heap.size + 1 := by simp
  have e2 : ((w.alloc (objL f i p m (.slice q a.length cv) t s e r)).alloc objZ).heap.size = w.heap.size + 1 + 1 := by simp
  rw [e1] at b2
  rw [e2] at b3
  have hv2 := hv.gr g2
  have HB := hide (And.intro g2 (And.intro b1 (And.intro b2 b3)))
  clear b1 b2 hv e1 e2 g2
  go_enter Tryz.func24, Tryz.ntmps24
  go_wp2_with (
    at_builtin
    refine wpList_append_empty _ rfl _ _ 34 rfl 3 i0 Tryz.underlying34 hi0 hz0 hs0 hb0 rfl b3 rfl hv2 hs ?_
    intro q' c' w2 hr ho hm
    obtain ⟨g2, b1, b2, b3⟩ := HB.out
    have c1 := hm.at_ b1 (by simp; omega)
    have c2 := hm.at_ b2 (by simp)
    have hm0 := (g2.mod []).trans hm (U := []) (by simp) (fun x hx hlt => by simp at hx; omega)
    have HF := hide (And.intro hr (And.intro ho hm0))
    clear HB hv2 hm ho g2 hr hm0 b1 b2 b3
    have C1 := blk_cell c1
    have C2 := blk_cell c2
    have F1 := blk_free c1
    have F2 := blk_free c2
    have hb2 : w.heap.size + 1 < w2.heap.size := lt_of_block c2)
  obtain ⟨hr, ho, hm0⟩ := HF.out
  have q := st9_heap (blk_other c2 (a := ⟨w.heap.size, 4, none⟩) (by simp) (.slice q' a.length c')) rfl (.int .i64 f) (.int .i64 i) (.string p) (.int .i64 m) (.slice q' a.length c') (.int .i64 t) (.int .i64 s) (.int .i64 e) (.bool r)
  have qm := st9_mod (w2.setCell ⟨w.heap.size, 4, none⟩ (.slice q' a.length c')) w2 ((Mod.refl [w.heap.size, w.heap.size + 1] w2).setCell (fun _ => by simp) (.slice q' a.length c')) (w.heap.size + 1) (fun _ => by simp) (.int .i64 f) (.int .i64 i) (.string p) (.int .i64 m) (.slice q' a.length c') (.int .i64 t) (.int .i64 s) (.int .i64 e) (.bool r)
  have hqs := qm.size
  refine bodyPost_ret (v := aggL ⟨f, i, p, m, a, t, s, e, r⟩ (.slice q' a.length c')) (res_cell1 Tryz.results24 _ _ rfl q Tryz.isAgg36 Tryz.sizeOf36) rfl ⟨_, _, rfl, ?_, ?_, ?_⟩
  · exact hr.mod qm (fun k hk e => by have := ho k hk; simp at e; omega)
  · exact fun k hk => ⟨by have := ho k hk; omega, Nat.lt_of_lt_of_le (ho k hk).2 hqs⟩
  · exact hm0.trans qm (by simp) (fun x hx hlt => by simp at hx; omega)
end Go.Proofs.YtifllaeldcimgaaGreat
