/-
  ARGUMENTS OPENED: entries, slices of entries.
-/
import Derived.Test.YthkcbennfochmaaGreatDoorPsSame
import Derived.Test.YthkcbennfochmaaGreatDoorLawEnd
import Derived.Deep.Slices
import Derived.ChangeSlices
import Derived.Lib.SmallJoins
namespace Go.Proofs.YthkcbennfochmaaGreatDoor
open Go.ChangeShapes Go.WideShapes Go.ChangeAt Go.RowKit Go.Deep Go.Joins

theorem cells_ent : Tryz.prog.cellsOf 29 = 4 := by kernel_rfl
theorem cells_int : Tryz.prog.cellsOf 3 = 1 := by kernel_rfl
theorem cells_str : Tryz.prog.cellsOf 9 = 1 := by kernel_rfl
theorem cells_mode : Tryz.prog.cellsOf 27 = 1 := by kernel_rfl
/-- what is known of an entry that is handed in -/
def inE (x : Ent) : Prop := (Lit.int .i64 x.id).wf = true ∧ x.path.size ≤ 9223372036854775807
theorem ent_fields : ∃ f0 f1 f2 f3, Tryz.prog.underlying 29 = some (.struct #[f0, f1, f2, f3]) ∧ (f0.type = 3 ∧ f0.offset = 0) ∧ (f1.type = 9 ∧ f1.offset = 1) ∧ (f2.type = 27 ∧ f2.offset = 2) ∧ (f3.type = 3 ∧ f3.offset = 3) :=
  ⟨_, _, _, _, Tryz.underlying29, ⟨rfl, rfl⟩, ⟨rfl, rfl⟩, ⟨rfl, rfl⟩, ⟨rfl, rfl⟩⟩
set_option maxRecDepth 100000 in
theorem trod_ent {H : Type} {enc : TypeId × Value → H} {W : World} {base : Nat} {spare : Nat → Bool} {held : Bool} {fuel : Nat} {cs : List Value} {x : DataW H × List MemPlace}
    (h : DataW.trod enc Tryz.prog W base spare held fuel 29 cs = some x) : ∃ y : Ent, cs = [.int .i64 y.id, .string y.path, .int .i64 y.mode, .int .i64 y.who] ∧ inE y := by
  obtain ⟨f0, f1, f2, f3, hs, ⟨t0, o0⟩, ⟨t1, o1⟩, ⟨t2, o2⟩, ⟨t3, o3⟩⟩ := ent_fields
  obtain ⟨xs, n, _, _, hl, hxl, hf⟩ := DataW.trod_struct hs h
  rw [cells_ent] at hl
  match cs, hl, xs, hxl with
  | [v0, v1, v2, v3], _, [y0, y1, y2, y3], _ =>
    have g0 := hf 0 f0 rfl
    have g1 := hf 1 f1 rfl
    have g2 := hf 2 f2 rfl
    have g3 := hf 3 f3 rfl
    simp [t0, t1, t2, t3, o0, o1, o2, o3, cells_int, cells_str, cells_mode] at g0 g1 g2 g3
    obtain ⟨a0, ha0, _, w0⟩ := DataW.trod_int Tryz.underlying3 g0
    obtain ⟨a1, ha1, _, w1⟩ := DataW.trod_string Tryz.underlying9 g1
    obtain ⟨a2, ha2, _⟩ := DataW.trod_int Tryz.underlying27 g2
    obtain ⟨a3, ha3, _⟩ := DataW.trod_int Tryz.underlying3 g3
    simp at ha0 ha1 ha2 ha3
    exact ⟨⟨a0, a1, a2, a3⟩, by rw [ha0, ha1, ha2, ha3], w0, w1⟩
set_option maxRecDepth 100000 in
theorem open_ents {H : Type} {enc : TypeId × Value → H} {W : World} {v : Value} {d : DataW H} {p : List MemPlace} {base : Nat}
    (hv : Value.okWide Tryz.prog W .any base 26 v) (h : DataW.Trod enc Tryz.prog W 0 (fun _ => true) true 26 v d p) : ∃ (l : List Ent) (q : Option Addr) (c : Nat), v = .slice q l.length c ∧ RdE W (.slice q l.length c) l ∧ (∀ e, e ∈ l → inE e) ∧ l.length ≤ c := by
  obtain ⟨a0, len, cap, rfl⟩ := okWide_slice Tryz.underlying26 hv
  obtain ⟨fuel, hf⟩ := h
  rcases open_slice Tryz.underlying26 hf with ⟨hcs, _⟩ | ⟨a, len', cap', m, n, D, Pl, hcs, _, hl, hm, hmm, _, hx⟩
  · simp [Value.cells] at hcs
    obtain ⟨rfl, rfl, rfl⟩ := hcs
    exact ⟨[], none, 0, rfl, ⟨by simp, .inl ⟨none, 0, rfl, rfl⟩⟩, by simp, by simp⟩
  · simp [Value.cells] at hcs
    obtain ⟨rfl, rfl, rfl⟩ := hcs
    simp only [if_true] at hmm
    subst hmm
    by_cases h0 : len = 0
    · subst h0
      exact ⟨[], _, _, rfl, ⟨by simp, .inl ⟨_, _, rfl, rfl⟩⟩, by simp, by simp⟩
    · have each : ∀ i, i < len → ∃ y : Ent, (W.cell? (a.add (i * 4)) = some (.int .i64 y.id) ∧ W.cell? (a.add (i * 4 + 1)) = some (.string y.path) ∧ W.cell? (a.add (i * 4 + 2)) = some (.int .i64 y.mode) ∧ W.cell? (a.add (i * 4 + 3)) = some (.int .i64 y.who)) ∧ inE y := by
        intro i hi
        obtain ⟨cs', h1, h2⟩ := hx i (by omega)
        rw [cells_ent] at h1
        obtain ⟨_, hlen, hcell⟩ := World.cells?_some h1
        obtain ⟨y, rfl, hin⟩ := trod_ent h2
        have e0 := hcell 0 (by omega)
        have e1 := hcell 1 (by omega)
        have e2 := hcell 2 (by omega)
        have e3 := hcell 3 (by omega)
        rw [add_add] at e0 e1 e2 e3
        exact ⟨y, ⟨by simpa using e0, by simpa using e1, by simpa using e2, by simpa using e3⟩, hin⟩
      obtain ⟨f, hf'⟩ := choose_lt each
      obtain ⟨b, off, spot⟩ := a
      have hsp : spot = none := by
        have := (hf' 0 (by omega)).1.1
        simp only [Nat.zero_mul, Addr.add, if_true] at this
        cases spot with
        | none => rfl
        | some s =>
          exfalso
          revert this
          unfold World.cell?
          split <;> simp
      subst hsp
      have hc0 := (hf' 0 (by omega)).1.1
      have hlenr : ((List.range len).map f).length = len := by simp
      refine ⟨(List.range len).map f, some ⟨b, off, none⟩, _, by rw [hlenr], ⟨by rw [hlenr]; omega, .inr ⟨b, off, _, rfl, World.block_lt_of_cell? W _ hc0, fun i hi => ?_⟩⟩, fun e he => ?_, by rw [hlenr]; omega⟩
      · rw [hlenr] at hi
        obtain ⟨⟨q0, q1, q2, q3⟩, -⟩ := hf' i hi
        have eg : ((List.range len).map f).getD i default = f i := by simp [hi]
        rw [eg]
        rw [Addr.add_lit] at q0 q1 q2 q3
        exact ⟨q0, q1, q2, q3⟩
      · obtain ⟨i, hi, rfl⟩ := List.mem_map.1 he
        exact (hf' i (List.mem_range.1 hi)).2
set_option maxRecDepth 100000 in
theorem open_ent {H : Type} {enc : TypeId × Value → H} {W : World} {v : Value} {d : DataW H} {p : List MemPlace} {base : Nat}
    (hv : Value.okWide Tryz.prog W .any base 29 v) (h : DataW.Trod enc Tryz.prog W 0 (fun _ => true) true 29 v d p) :
    ∃ i q m s, v = .agg #[.int .i64 i, .string q, .int .i64 m, .int .i64 s] ∧ (Lit.int .i64 i).wf = true ∧ q.size ≤ 9223372036854775807 := by
  obtain ⟨f0, f1, f2, f3, hs, _⟩ := ent_fields
  obtain ⟨cs, rfl, hsz⟩ := okWide_struct hs hv
  obtain ⟨fuel, hf⟩ := h
  obtain ⟨⟨i, q, m, s⟩, hcs, hi1, hi2⟩ := trod_ent hf
  simp [Value.cells] at hcs
  exact ⟨i, q, m, s, congrArg Value.agg (Array.toList_inj.1 hcs), hi1, hi2⟩
set_option maxRecDepth 100000 in
theorem open_str {H : Type} {enc : TypeId × Value → H} {W : World} {v : Value} {d : DataW H} {p : List MemPlace} {base : Nat}
    (hv : Value.okWide Tryz.prog W .any base 9 v) (h : DataW.Trod enc Tryz.prog W 0 (fun _ => true) true 9 v d p) : ∃ s : ByteArray, v = .string s ∧ s.size ≤ 9223372036854775807 := by
  obtain ⟨s, rfl⟩ := okWide_string Tryz.underlying9 hv
  obtain ⟨fuel, hf⟩ := h
  obtain ⟨s', h1, _, h2⟩ := DataW.trod_string Tryz.underlying9 hf
  simp [Value.cells] at h1
  subst h1
  exact ⟨s, rfl, h2⟩
set_option maxRecDepth 100000 in
theorem open_num {H : Type} {enc : TypeId × Value → H} {W : World} {v : Value} {d : DataW H} {p : List MemPlace} {base : Nat}
    (hv : Value.okWide Tryz.prog W .any base 3 v) (h : DataW.Trod enc Tryz.prog W 0 (fun _ => true) true 3 v d p) : ∃ x : Int, v = .int .i64 x ∧ (Lit.int .i64 x).wf = true := by
  obtain ⟨x, rfl, _, _, w⟩ := open_int Tryz.underlying3 hv h
  exact ⟨x, rfl, w⟩
end Go.Proofs.YthkcbennfochmaaGreatDoor
