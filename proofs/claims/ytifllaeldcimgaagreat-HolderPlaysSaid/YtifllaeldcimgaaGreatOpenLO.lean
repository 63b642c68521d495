/-
  ARGUMENTS OPENED: calls on a holder, and slices of such.
-/
import Derived.Test.YtifllaeldcimgaaGreatOpenL
namespace Go.Proofs.YtifllaeldcimgaaGreat
open Go.ChangeShapes Go.WideShapes Go.ChangeAt Go.RowKit Go.Deep Go.Joins

theorem weightsAll_mem {H : Type} {P : Program} {e : TypeId} {d : DataW H} {l : List (DataW H)} (hd : d ∈ l) {n : Nat} (hn : n ∈ d.weights P e) : n ∈ DataW.weightsAll P e l := by
  induction l with
  | nil => cases hd
  | cons x r ih =>
    simp only [DataW.weightsAll, List.mem_append]
    rcases List.mem_cons.1 hd with e | e
    · subst e; exact .inl hn
    · exact .inr (ih e)
structure OpL where
  kind : Int
  now : Int
  sent : Int
  l : Lease
instance : Inhabited OpL := ⟨⟨0, 0, 0, Lease.zero⟩⟩
def opCells (o : OpL) (v : Value) : List Value := [.int .i64 o.kind, .int .i64 o.now, .int .i64 o.sent, .int .i64 o.l.frm, .int .i64 o.l.id, .string o.l.path, .int .i64 o.l.mode, v, .int .i64 o.l.term, .int .i64 o.l.sent, .int .i64 o.l.expiry, .bool o.l.recd]
def inO (o : OpL) : Prop := i64w o.kind ∧ i64w o.now ∧ i64w o.sent ∧ inW o.l
theorem cells_op : Tryz.prog.cellsOf 38 = 12 := by kernel_rfl
theorem op_fields : ∃ f0 f1 f2 f3, Tryz.prog.underlying 38 = some (.struct #[f0, f1, f2, f3]) ∧ (f0.type = 3 ∧ f0.offset = 0) ∧ (f1.type = 3 ∧ f1.offset = 1) ∧ (f2.type = 3 ∧ f2.offset = 2) ∧ (f3.type = 36 ∧ f3.offset = 3) :=
  ⟨_, _, _, _, Tryz.underlying38, ⟨rfl, rfl⟩, ⟨rfl, rfl⟩, ⟨rfl, rfl⟩, ⟨rfl, rfl⟩⟩
set_option maxRecDepth 100000 in
theorem trod_op {H : Type} {enc : TypeId × Value → H} {W : World} {base : Nat} {held : Bool} {fuel : Nat} {cs : List Value} {x : DataW H × List MemPlace}
    (h : DataW.trod enc Tryz.prog W base (fun _ => true) held fuel 38 cs = some x) (hw : ∀ n, n ∈ x.1.weights Tryz.prog 38 → n ≤ reachBytes) :
    ∃ (o : OpL) (q : Option Addr) (c : Nat), cs = opCells o (.slice q o.l.stamp.length c) ∧ RdN W (.slice q o.l.stamp.length c) o.l.stamp ∧ inO o := by
  obtain ⟨f0, f1, f2, f3, hs, ⟨t0, o0⟩, ⟨t1, o1⟩, ⟨t2, o2⟩, ⟨t3, o3⟩⟩ := op_fields
  obtain ⟨xs, n, _, rfl, hl, hxl, hf⟩ := DataW.trod_struct hs h
  rw [cells_op] at hl
  match cs, hl, xs, hxl with
  | [v0, v1, v2, v3, v4, v5, v6, v7, v8, v9, v10, v11], _, [y0, y1, y2, y3], _ =>
    have g0 := hf 0 f0 rfl
    have g1 := hf 1 f1 rfl
    have g2 := hf 2 f2 rfl
    have g3 := hf 3 f3 rfl
    simp [t0, t1, t2, t3, o0, o1, o2, o3, cells_int, cells_lease] at g0 g1 g2 g3
    obtain ⟨a0, ha0, _, w0⟩ := DataW.trod_int Tryz.underlying3 g0
    obtain ⟨a1, ha1, _, w1⟩ := DataW.trod_int Tryz.underlying3 g1
    obtain ⟨a2, ha2, _, w2⟩ := DataW.trod_int Tryz.underlying3 g2
    obtain ⟨y, q, c, hy, hr, hi⟩ := trod_lease g3 (fun n hn => hw n (by
      simp only [DataW.weights, hs, List.map_cons, List.map_nil, DataW.weightsEach, t3, List.mem_append]
      exact .inr (.inr (.inr (.inl hn)))))
    simp at ha0 ha1 ha2
    simp only [cellsL, List.cons.injEq, and_true] at hy
    obtain ⟨e0, e1, e2, e3, e4, e5, e6, e7, e8⟩ := hy
    exact ⟨⟨a0, a1, a2, y⟩, q, c, by rw [ha0, ha1, ha2, e0, e1, e2, e3, e4, e5, e6, e7, e8]; rfl, hr, w0, w1, w2, hi⟩
/-- a slice of calls that reads as the list l -/
def RdOp (w : World) (v : Value) (l : List OpL) : Prop :=
  l.length ≤ maxLen ∧ ((∃ p c, v = .slice p 0 c ∧ l = []) ∨ ∃ b off cap, v = .slice (some ⟨b, off, none⟩) l.length cap ∧ b < w.heap.size ∧
    ∀ i, i < l.length → ∃ q c, (∀ j, j < 12 → w.cell? ⟨b, off + i * 12 + j, none⟩ = (opCells (l.getD i default) (.slice q (l.getD i default).l.stamp.length c))[j]?) ∧ RdN w (.slice q (l.getD i default).l.stamp.length c) (l.getD i default).l.stamp ∧ inO (l.getD i default))
theorem RdOp.same {w w' : World} {v : Value} {l : List OpL} (h : RdOp w v l) (m : Mod [] w w') : RdOp w' v l := by
  refine ⟨h.1, h.2.imp id ?_⟩
  rintro ⟨b, off, cap, rfl, hb, hc⟩
  refine ⟨b, off, cap, rfl, Nat.lt_of_lt_of_le hb m.size, fun i hi => ?_⟩
  obtain ⟨q, c, h1, h2, h3⟩ := hc i hi
  exact ⟨q, c, fun j hj => (m.cell (x := ⟨b, off + i * 12 + j, none⟩) hb (by simp)).trans (h1 j hj), h2.mod m (by simp), h3⟩
theorem RdOp.len {w : World} {v : Value} {l : List OpL} (h : RdOp w v l) : ∃ p c, v = .slice p l.length c := by
  rcases h.2 with ⟨p, c, rfl, rfl⟩ | ⟨b, off, cap, rfl, _⟩
  · exact ⟨p, c, rfl⟩
  · exact ⟨_, cap, rfl⟩
theorem RdOp.at_ {w : World} {p : Option Addr} {n c : Nat} {l : List OpL} (h : RdOp w (.slice p n c) l) (i : Nat) (hi : i < l.length) :
    ∃ b off kd nw st f ii pp m a t s e r q c', p = some ⟨b, off, none⟩ ∧ b < w.heap.size ∧ l.getD i default = ⟨kd, nw, st, ⟨f, ii, pp, m, a, t, s, e, r⟩⟩ ∧ w.cell? ⟨b, off + i * 12, none⟩ = some (.int .i64 kd) ∧ w.cell? ⟨b, off + i * 12 + 1, none⟩ = some (.int .i64 nw) ∧
      w.cell? ⟨b, off + i * 12 + 2, none⟩ = some (.int .i64 st) ∧ w.cell? ⟨b, off + i * 12 + 3, none⟩ = some (.int .i64 f) ∧ w.cell? ⟨b, off + i * 12 + 4, none⟩ = some (.int .i64 ii) ∧ w.cell? ⟨b, off + i * 12 + 5, none⟩ = some (.string pp) ∧
      w.cell? ⟨b, off + i * 12 + 6, none⟩ = some (.int .i64 m) ∧ w.cell? ⟨b, off + i * 12 + 7, none⟩ = some (.slice q a.length c') ∧ w.cell? ⟨b, off + i * 12 + 8, none⟩ = some (.int .i64 t) ∧ w.cell? ⟨b, off + i * 12 + 9, none⟩ = some (.int .i64 s) ∧
      w.cell? ⟨b, off + i * 12 + 10, none⟩ = some (.int .i64 e) ∧ w.cell? ⟨b, off + i * 12 + 11, none⟩ = some (.bool r) ∧ RdN w (.slice q a.length c') a ∧ inO ⟨kd, nw, st, ⟨f, ii, pp, m, a, t, s, e, r⟩⟩ := by
  rcases h.2 with ⟨_, c, _, rfl⟩ | ⟨b, off, cap, hv, hb, hc⟩
  · simp at hi
  · simp only [Value.slice.injEq] at hv
    obtain ⟨q, c', h1, h2, h3⟩ := hc i hi
    generalize l.getD i default = o at h1 h2 h3
    obtain ⟨kd, nw, st, ⟨f, ii, pp, m, a, t, s, e, r⟩⟩ := o
    exact ⟨b, off, kd, nw, st, f, ii, pp, m, a, t, s, e, r, q, c', hv.1, hb, rfl, h1 0 (by omega), h1 1 (by omega), h1 2 (by omega), h1 3 (by omega), h1 4 (by omega), h1 5 (by omega), h1 6 (by omega), h1 7 (by omega), h1 8 (by omega), h1 9 (by omega), h1 10 (by omega), h1 11 (by omega), h2, h3⟩
theorem bytes_op_pos : 0 < Tryz.prog.bytesOf 38 := by rw [show Tryz.prog.bytesOf 38 = 120 by kernel_rfl]; omega
theorem trod_ops {H : Type} {enc : TypeId × Value → H} {W : World} {base : Nat} {held : Bool} {fuel : Nat} {cs : List Value} {x : DataW H × List MemPlace}
    (h : DataW.trod enc Tryz.prog W base (fun _ => true) held fuel 22 cs = some x) (hw : ∀ n, n ∈ x.1.weights Tryz.prog 22 → n ≤ reachBytes) : ∃ p n c l, cs = [.slice p n c] ∧ RdOp W (.slice p n c) l := by
  rcases open_slice Tryz.underlying22 h with ⟨rfl, _⟩ | ⟨a, len, cap, m, n, D, Pl, rfl, _, hl, hm, hmm, rfl, hx⟩
  · exact ⟨none, 0, 0, [], rfl, by simp, .inl ⟨none, 0, rfl, rfl⟩⟩
  · simp only [if_true] at hmm
    subst hmm
    by_cases h0 : len = 0
    · subst h0
      exact ⟨_, _, _, [], rfl, by simp, .inl ⟨_, _, rfl, rfl⟩⟩
    · have each : ∀ i, i < len → ∃ y : OpL × Option Addr × Nat, (∀ j, j < 12 → W.cell? (a.add (i * 12 + j)) = (opCells y.1 (.slice y.2.1 y.1.l.stamp.length y.2.2))[j]?) ∧ RdN W (.slice y.2.1 y.1.l.stamp.length y.2.2) y.1.l.stamp ∧ inO y.1 := by
        intro i hi
        obtain ⟨cs', h1, h2⟩ := hx i (by omega)
        rw [cells_op] at h1
        obtain ⟨_, hlen, hcell⟩ := World.cells?_some h1
        obtain ⟨y, q, c, rfl, hr, hi'⟩ := trod_op h2 (fun n' hn' => hw n' (by
          simp only [DataW.weights, Tryz.underlying22]
          refine List.mem_cons_of_mem _ (List.mem_append_left _ ?_)
          exact weightsAll_mem (List.mem_map.2 ⟨i, List.mem_range.2 hi, rfl⟩) hn'))
        refine ⟨(y, q, c), fun j hj => ?_, hr, hi'⟩
        have e0 := hcell j (by simpa [opCells] using hj)
        rw [add_add] at e0
        rw [e0]
      obtain ⟨f, hf'⟩ := choose_lt each
      obtain ⟨b, off, spot⟩ := a
      have hc00 : W.cell? ((⟨b, off, spot⟩ : Addr).add 0) = some (.int .i64 (f 0).1.kind) := by
        have := (hf' 0 (by omega)).1 0 (by omega)
        simpa [opCells] using this
      have hsp : spot = none := by
        cases spot with
        | none => rfl
        | some s =>
          exfalso
          revert hc00
          simp only [Addr.add]
          unfold World.cell?
          split <;> simp
      subst hsp
      have hlenr : ((List.range len).map fun i => (f i).1).length = len := by simp
      refine ⟨_, _, _, (List.range len).map fun i => (f i).1, rfl, by rw [hlenr]; omega, .inr ⟨b, off, _, by rw [hlenr], ?_, fun i hi => ?_⟩⟩
      · rw [Addr.add_lit] at hc00
        exact World.block_lt_of_cell? W _ hc00
      · rw [hlenr] at hi
        obtain ⟨q0, q1, q2⟩ := hf' i hi
        have eg : ((List.range len).map fun i => (f i).1).getD i default = (f i).1 := by simp [hi]
        rw [eg]
        refine ⟨(f i).2.1, (f i).2.2, fun j hj => ?_, q1, q2⟩
        have := q0 j hj
        rw [Addr.add_lit, ← Nat.add_assoc] at this
        exact this
theorem weights_cons {H : Type} {P : Program} {t : TypeId} {ts : List TypeId} {d : DataW H} {ds : List (DataW H)} (h : (DataW.weightsEach P (t :: ts) (d :: ds)).all (· ≤ reachBytes) = true) :
    (∀ n, n ∈ d.weights P t → n ≤ reachBytes) ∧ (DataW.weightsEach P ts ds).all (· ≤ reachBytes) = true := by
  simp only [DataW.weightsEach, List.all_append, Bool.and_eq_true] at h
  exact ⟨fun n hn => by have := List.all_eq_true.1 h.1 n hn; simpa using this, h.2⟩
set_option maxRecDepth 100000 in
theorem open_ops {H : Type} {enc : TypeId × Value → H} {W : World} {v : Value} {d : DataW H} {p : List MemPlace} {base : Nat}
    (hv : Value.okWide Tryz.prog W .any base 22 v) (h : DataW.Trod enc Tryz.prog W 0 (fun _ => true) true 22 v d p) (hw : ∀ n, n ∈ d.weights Tryz.prog 22 → n ≤ reachBytes) : ∃ l, RdOp W v l := by
  obtain ⟨a0, len, cap, rfl⟩ := okWide_slice Tryz.underlying22 hv
  obtain ⟨fuel, hf⟩ := h
  obtain ⟨p', n', c', l, hcs, hl⟩ := trod_ops hf hw
  simp [Value.cells] at hcs
  obtain ⟨rfl, rfl, rfl⟩ := hcs
  exact ⟨l, hl⟩
set_option maxRecDepth 100000 in
theorem open_op {H : Type} {enc : TypeId × Value → H} {W : World} {v : Value} {d : DataW H} {p : List MemPlace} {base : Nat}
    (hv : Value.okWide Tryz.prog W .any base 38 v) (h : DataW.Trod enc Tryz.prog W 0 (fun _ => true) true 38 v d p) (hw : ∀ n, n ∈ d.weights Tryz.prog 38 → n ≤ reachBytes) :
    ∃ kd nw st f i pp m a t s e r q c, v = .agg #[.int .i64 kd, .int .i64 nw, .int .i64 st, .int .i64 f, .int .i64 i, .string pp, .int .i64 m, .slice q a.length c, .int .i64 t, .int .i64 s, .int .i64 e, .bool r] ∧ RdN W (.slice q a.length c) a ∧ inO ⟨kd, nw, st, ⟨f, i, pp, m, a, t, s, e, r⟩⟩ := by
  obtain ⟨f0, f1, f2, f3, hs, _⟩ := op_fields
  obtain ⟨cs, rfl, hsz⟩ := okWide_struct hs hv
  obtain ⟨fuel, hf⟩ := h
  obtain ⟨⟨kd, nw, st, ⟨f, i, pp, m, a, t, s, e, r⟩⟩, q, c, hcs, hr, hi⟩ := trod_op hf hw
  simp [Value.cells] at hcs
  refine ⟨kd, nw, st, f, i, pp, m, a, t, s, e, r, q, c, ?_, hr, hi⟩
  congr 1
  exact Array.toList_inj.1 hcs
end Go.Proofs.YtifllaeldcimgaaGreat
