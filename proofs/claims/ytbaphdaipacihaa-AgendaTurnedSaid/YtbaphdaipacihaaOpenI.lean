/-
  ARGUMENTS OPENED: a slice of items reads as a list; an item by value.
-/
import Derived.Test.YtbaphdaipacihaaRefW
import Derived.Test.YtbaphdaipacihaaLawEnd
import Derived.Deep.Slices
import Derived.Lib.SmallJoins
namespace Go.Proofs.Ytbaphdaipacihaa
open Go.ChangeShapes Go.WideShapes Go.ChangeAt Go.RowKit Go.Deep Go.Joins

theorem cells_item : Try.prog.cellsOf 29 = 3 := by kernel_rfl
theorem cells_int : Try.prog.cellsOf 3 = 1 := by kernel_rfl
theorem cells_kind : Try.prog.cellsOf 27 = 1 := by kernel_rfl
theorem item_fields : ∃ f0 f1 f2, Try.prog.underlying 29 = some (.struct #[f0, f1, f2]) ∧ f0.type = 3 ∧ f0.offset = 0 ∧ f1.type = 27 ∧ f1.offset = 1 ∧ f2.type = 3 ∧ f2.offset = 2 :=
  ⟨_, _, _, Try.underlying29, rfl, rfl, rfl, rfl, rfl, rfl⟩

set_option maxRecDepth 100000 in
theorem trod_item {H : Type} {enc : TypeId × Value → H} {W : World} {base : Nat} {spare : Nat → Bool} {held : Bool} {fuel : Nat} {cs : List Value} {x : DataW H × List MemPlace}
    (h : DataW.trod enc Try.prog W base spare held fuel 29 cs = some x) : ∃ y : Item, cs = [.int .i64 y.1, .int .i64 y.2.1, .int .i64 y.2.2] := by
  obtain ⟨f0, f1, f2, hs, t0, o0, t1, o1, t2, o2⟩ := item_fields
  obtain ⟨xs, n, _, _, hl, hxl, hf⟩ := DataW.trod_struct hs h
  rw [cells_item] at hl
  match cs, hl, xs, hxl with
  | [v0, v1, v2], _, [y0, y1, y2], _ =>
    have g0 := hf 0 f0 rfl
    have g1 := hf 1 f1 rfl
    have g2 := hf 2 f2 rfl
    simp [t0, t1, t2, o0, o1, o2, cells_int, cells_kind] at g0 g1 g2
    obtain ⟨a, ha, _⟩ := DataW.trod_int Try.underlying3 g0
    obtain ⟨b, hb, _⟩ := DataW.trod_int Try.underlying27 g1
    obtain ⟨c, hc, _⟩ := DataW.trod_int Try.underlying3 g2
    simp at ha hb hc
    exact ⟨(a, b, c), by rw [ha, hb, hc]⟩

theorem open_items {H : Type} {enc : TypeId × Value → H} {W : World} {v : Value} {d : DataW H} {p : List MemPlace} {base : Nat}
    (hv : Value.okWide Try.prog W .any base 32 v) (h : DataW.Trod enc Try.prog W 0 (fun _ => true) true 32 v d p) : ∃ l : List Item, RdI W v l := by
  obtain ⟨a0, len, cap, rfl⟩ := okWide_slice Try.underlying32 hv
  obtain ⟨fuel, hf⟩ := h
  rcases open_slice Try.underlying32 hf with ⟨hcs, _⟩ | ⟨a, len', cap', m, n, D, Pl, hcs, _, hl, hm, hmm, _, hx⟩
  · simp [Value.cells] at hcs
    obtain ⟨rfl, rfl, rfl⟩ := hcs
    exact ⟨[], by simp, .inl ⟨none, 0, rfl, rfl⟩⟩
  · simp [Value.cells] at hcs
    obtain ⟨rfl, rfl, rfl⟩ := hcs
    simp only [if_true] at hmm
    subst hmm
    by_cases h0 : len = 0
    · subst h0
      exact ⟨[], by simp, .inl ⟨_, _, rfl, rfl⟩⟩
    · have each : ∀ i, i < len → ∃ y : Item, W.cell? (a.add (i * 3)) = some (.int .i64 y.1) ∧ W.cell? (a.add (i * 3 + 1)) = some (.int .i64 y.2.1) ∧ W.cell? (a.add (i * 3 + 2)) = some (.int .i64 y.2.2) := by
        intro i hi
        obtain ⟨cs', h1, h2⟩ := hx i (by omega)
        rw [cells_item] at h1
        obtain ⟨_, hlen, hcell⟩ := World.cells?_some h1
        obtain ⟨y, rfl⟩ := trod_item h2
        have e0 := hcell 0 (by omega)
        have e1 := hcell 1 (by omega)
        have e2 := hcell 2 (by omega)
        rw [add_add] at e0 e1 e2
        exact ⟨y, by simpa using e0, by simpa using e1, by simpa using e2⟩
      obtain ⟨f, hf'⟩ := choose_lt each
      obtain ⟨b, off, spot⟩ := a
      have hsp : spot = none := by
        have := (hf' 0 (by omega)).1
        simp only [Nat.zero_mul, Addr.add, if_true] at this
        cases spot with
        | none => rfl
        | some s =>
          exfalso
          revert this
          unfold World.cell?
          split <;> simp
      subst hsp
      have hc0 := (hf' 0 (by omega)).1
      have hlenr : ((List.range len).map f).length = len := by simp
      refine ⟨(List.range len).map f, by rw [hlenr]; omega, .inr ⟨b, off, _, by rw [hlenr], World.block_lt_of_cell? W _ hc0, fun i hi => ?_⟩⟩
      rw [hlenr] at hi
      obtain ⟨q0, q1, q2⟩ := hf' i hi
      have eg : get ((List.range len).map f) i = f i := by simp [get, hi]
      rw [eg]
      rw [Addr.add_lit] at q0 q1 q2
      exact ⟨q0, q1, q2⟩

theorem open_item {H : Type} {enc : TypeId × Value → H} {W : World} {v : Value} {d : DataW H} {p : List MemPlace} {base : Nat}
    (hv : Value.okWide Try.prog W .any base 29 v) (h : DataW.Trod enc Try.prog W 0 (fun _ => true) true 29 v d p) : ∃ x1 x2 x3, v = .agg #[.int .i64 x1, .int .i64 x2, .int .i64 x3] := by
  obtain ⟨v0, v1, v2, y0, y1, y2, n, rfl, _, _, g0, g1, g2⟩ := open_agg3 Try.underlying29 (by kernel_rfl) cells_item hv h
  obtain ⟨a, ha, _⟩ := DataW.trod_int Try.underlying3 g0
  obtain ⟨b, hb, _⟩ := DataW.trod_int Try.underlying27 g1
  obtain ⟨c, hc, _⟩ := DataW.trod_int Try.underlying3 g2
  simp at ha hb hc
  exact ⟨a, b, c, by rw [ha, hb, hc]⟩
end Go.Proofs.Ytbaphdaipacihaa
