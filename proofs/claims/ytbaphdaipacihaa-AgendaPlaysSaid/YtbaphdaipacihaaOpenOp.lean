/-
  ARGUMENTS OPENED: a slice of calls (a kind and an item) reads as a list.
-/
import Derived.Test.YtbaphdaipacihaaOpenI
namespace Go.Proofs.Ytbaphdaipacihaa
open Go.ChangeShapes Go.WideShapes Go.ChangeAt Go.RowKit Go.Deep Go.Joins

/-- a slice of calls that reads as the list l: its kinds, its items -/
def RdO (w : World) (v : Value) (l : List (Int × Item)) : Prop :=
  l.length ≤ maxLen ∧ ((∃ p c, v = .slice p 0 c ∧ l = []) ∨ ∃ b off cap, v = .slice (some ⟨b, off, none⟩) l.length cap ∧ b < w.heap.size ∧
    ∀ i, i < l.length → ∃ k y1 y2 y3, w.cell? ⟨b, off + i * 4, none⟩ = some (.int .i64 k) ∧ w.cell? ⟨b, off + i * 4 + 1, none⟩ = some (.int .i64 y1) ∧ w.cell? ⟨b, off + i * 4 + 2, none⟩ = some (.int .i64 y2) ∧ w.cell? ⟨b, off + i * 4 + 3, none⟩ = some (.int .i64 y3))
theorem RdO.mod {w w' : World} {v : Value} {l : List (Int × Item)} (h : RdO w v l) {S : List Nat} (m : Mod S w w') (h1 : ∀ k, k ∈ ob v → k ∉ S) : RdO w' v l := by
  refine ⟨h.1, h.2.imp id ?_⟩
  rintro ⟨b, off, cap, rfl, hb, hc⟩
  have hs : b ∉ S := h1 b (by simp [ob, Value.ownBlock])
  refine ⟨b, off, cap, rfl, Nat.lt_of_lt_of_le hb m.size, fun i hi => ?_⟩
  obtain ⟨k, y1, y2, y3, c0, c1, c2, c3⟩ := hc i hi
  exact ⟨k, y1, y2, y3, m.kept c0 hs, m.kept c1 hs, m.kept c2 hs, m.kept c3 hs⟩
theorem RdO.len {w : World} {v : Value} {l : List (Int × Item)} (h : RdO w v l) : ∃ p c, v = .slice p l.length c := by
  rcases h.2 with ⟨p, c, rfl, rfl⟩ | ⟨b, off, cap, rfl, _⟩
  · exact ⟨p, c, rfl⟩
  · exact ⟨_, cap, rfl⟩
theorem RdO.at_ {w : World} {v : Value} {l : List (Int × Item)} (h : RdO w v l) (i : Nat) (hi : i < l.length) : ∃ b off cap, v = .slice (some ⟨b, off, none⟩) l.length cap ∧ b < w.heap.size ∧
    ∃ k y1 y2 y3, w.cell? ⟨b, off + i * 4, none⟩ = some (.int .i64 k) ∧ w.cell? ⟨b, off + i * 4 + 1, none⟩ = some (.int .i64 y1) ∧ w.cell? ⟨b, off + i * 4 + 2, none⟩ = some (.int .i64 y2) ∧ w.cell? ⟨b, off + i * 4 + 3, none⟩ = some (.int .i64 y3) := by
  rcases h.2 with ⟨_, c, rfl, rfl⟩ | ⟨b, off, cap, hv, hb, hc⟩
  · simp at hi
  · exact ⟨b, off, cap, hv, hb, hc i hi⟩

theorem cells_op : Try.prog.cellsOf 34 = 4 := by kernel_rfl
theorem op_fields : ∃ f0 f1, Try.prog.underlying 34 = some (.struct #[f0, f1]) ∧ f0.type = 3 ∧ f0.offset = 0 ∧ f1.type = 29 ∧ f1.offset = 1 :=
  ⟨_, _, Try.underlying34, rfl, rfl, rfl, rfl⟩
set_option maxRecDepth 100000 in
theorem trod_op {H : Type} {enc : TypeId × Value → H} {W : World} {base : Nat} {spare : Nat → Bool} {held : Bool} {fuel : Nat} {cs : List Value} {x : DataW H × List MemPlace}
    (h : DataW.trod enc Try.prog W base spare held fuel 34 cs = some x) : ∃ (k : Int) (y : Item), cs = [.int .i64 k, .int .i64 y.1, .int .i64 y.2.1, .int .i64 y.2.2] := by
  obtain ⟨f0, f1, hs, t0, o0, t1, o1⟩ := op_fields
  obtain ⟨xs, n, _, _, hl, hxl, hf⟩ := DataW.trod_struct hs h
  rw [cells_op] at hl
  match cs, hl, xs, hxl with
  | [v0, v1, v2, v3], _, [y0, y1], _ =>
    have g0 := hf 0 f0 rfl
    have g1 := hf 1 f1 rfl
    simp [t0, t1, o0, o1, cells_int, cells_item] at g0 g1
    obtain ⟨a, ha, _⟩ := DataW.trod_int Try.underlying3 g0
    obtain ⟨y, hy⟩ := trod_item g1
    simp at ha hy
    exact ⟨a, y, by rw [ha, hy.1, hy.2.1, hy.2.2]⟩

theorem open_ops {H : Type} {enc : TypeId × Value → H} {W : World} {v : Value} {d : DataW H} {p : List MemPlace} {base : Nat}
    (hv : Value.okWide Try.prog W .any base 31 v) (h : DataW.Trod enc Try.prog W 0 (fun _ => true) true 31 v d p) : ∃ l, RdO W v l := by
  obtain ⟨a0, len, cap, rfl⟩ := okWide_slice Try.underlying31 hv
  obtain ⟨fuel, hf⟩ := h
  rcases open_slice Try.underlying31 hf with ⟨hcs, _⟩ | ⟨a, len', cap', m, n, D, Pl, hcs, _, hl, hm, hmm, _, hx⟩
  · simp [Value.cells] at hcs
    obtain ⟨rfl, rfl, rfl⟩ := hcs
    exact ⟨[], by simp, .inl ⟨none, 0, rfl, rfl⟩⟩
  · simp [Value.cells] at hcs
    obtain ⟨rfl, rfl, rfl⟩ := hcs
    simp only [if_true] at hmm
    subst hmm
    by_cases h0 : len = 0
    · subst h0
      exact ⟨[], by simp, .inl ⟨_, _, rfl, rfl⟩⟩
    · have each : ∀ i, i < len → ∃ y : Int × Item, W.cell? (a.add (i * 4)) = some (.int .i64 y.1) ∧ W.cell? (a.add (i * 4 + 1)) = some (.int .i64 y.2.1) ∧ W.cell? (a.add (i * 4 + 2)) = some (.int .i64 y.2.2.1) ∧ W.cell? (a.add (i * 4 + 3)) = some (.int .i64 y.2.2.2) := by
        intro i hi
        obtain ⟨cs', h1, h2⟩ := hx i (by omega)
        rw [cells_op] at h1
        obtain ⟨_, hlen, hcell⟩ := World.cells?_some h1
        obtain ⟨k, y, rfl⟩ := trod_op h2
        have e0 := hcell 0 (by omega)
        have e1 := hcell 1 (by omega)
        have e2 := hcell 2 (by omega)
        have e3 := hcell 3 (by omega)
        rw [add_add] at e0 e1 e2 e3
        exact ⟨(k, y), by simpa using e0, by simpa using e1, by simpa using e2, by simpa using e3⟩
      obtain ⟨f, hf'⟩ := choose_lt each
      obtain ⟨b, off, spot⟩ := a
      have hsp : spot = none := by
        have := (hf' 0 (by omega)).1
        simp only [Nat.zero_mul, Addr.add, if_true] at this
        cases spot with
        | none => rfl
        | some s =>
          exfalso
          revert this
          unfold World.cell?
          split <;> simp
      subst hsp
      have hc0 := (hf' 0 (by omega)).1
      have hlenr : ((List.range len).map f).length = len := by simp
      refine ⟨(List.range len).map f, by rw [hlenr]; omega, .inr ⟨b, off, _, by rw [hlenr], World.block_lt_of_cell? W _ hc0, fun i hi => ?_⟩⟩
      rw [hlenr] at hi
      obtain ⟨q0, q1, q2, q3⟩ := hf' i hi
      rw [Addr.add_lit] at q0 q1 q2 q3
      exact ⟨_, _, _, _, q0, q1, q2, q3⟩
end Go.Proofs.Ytbaphdaipacihaa
