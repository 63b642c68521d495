/-
  ARGUMENTS OPENED: leases, calls on a holder, slices of such.
-/
import Derived.Test.YtifllaeldcimgaaGreatHoldO
import Derived.Test.YtifllaeldcimgaaGreatLawEnd
import Derived.Deep.Slices
import Derived.ChangeSlices
import Derived.Lib.SmallJoins
namespace Go.Proofs.YtifllaeldcimgaaGreat
open Go.ChangeShapes Go.WideShapes Go.ChangeAt Go.RowKit Go.Deep Go.Joins

theorem cells_lease : Tryz.prog.cellsOf 36 = 9 := by kernel_rfl
theorem cells_int : Tryz.prog.cellsOf 3 = 1 := by kernel_rfl
theorem cells_str : Tryz.prog.cellsOf 9 = 1 := by kernel_rfl
theorem cells_mode : Tryz.prog.cellsOf 33 = 1 := by kernel_rfl
theorem cells_ints : Tryz.prog.cellsOf 34 = 1 := by kernel_rfl
theorem cells_bool : Tryz.prog.cellsOf 4 = 1 := by kernel_rfl
theorem bytes_int : Tryz.prog.bytesOf 3 = 8 := by kernel_rfl
/-- what is known of a lease that is handed in -/
def inW (x : Lease) : Prop := (i64w x.frm ∧ i64w x.id ∧ i64w x.mode ∧ i64w x.term ∧ i64w x.sent ∧ i64w x.expiry) ∧ x.path.size ≤ 9223372036854775806 ∧ x.stamp.length * 8 ≤ 140737488355328
theorem trod_ints {H : Type} {enc : TypeId × Value → H} {W : World} {base : Nat} {held : Bool} {fuel : Nat} {cs : List Value} {x : DataW H × List MemPlace}
    (h : DataW.trod enc Tryz.prog W base (fun _ => true) held fuel 34 cs = some x) (hw : ∀ n, n ∈ x.1.weights Tryz.prog 34 → n ≤ reachBytes) : ∃ q c a, cs = [.slice q a.length c] ∧ RdN W (.slice q a.length c) a ∧ a.length * 8 ≤ 140737488355328 := by
  rcases open_ints Tryz.underlying34 Tryz.underlying3 cells_int h with ⟨rfl, rfl⟩ | ⟨ad, len, cap, zs, rfl, _, hl, hm, hz, rfl, hc, _⟩
  · exact ⟨none, 0, [], rfl, ⟨by simp, .inl ⟨none, 0, rfl, rfl⟩⟩, by simp⟩
  · simp only [if_true] at hz
    have h1 : ((lits (H := H) .i64 (zs.take len)).length + (lits (H := H) .i64 (zs.drop len)).length) * Tryz.prog.bytesOf 3 ≤ reachBytes := by
      refine hw _ ?_
      simp only [DataW.weights, Tryz.underlying34]
      exact List.mem_cons_self
    rw [bytes_int] at h1
    simp only [lits, List.length_map, List.length_take, List.length_drop] at h1
    unfold reachBytes at h1
    have ht : (zs.take len).length = len := by rw [List.length_take]; omega
    by_cases h0 : len = 0
    · subst h0
      exact ⟨some ad, cap, [], rfl, ⟨by simp, .inl ⟨_, _, rfl, rfl⟩⟩, by simp⟩
    · obtain ⟨b, off, spot⟩ := ad
      have hc0 := hc 0 (by omega)
      have hsp : spot = none := by
        simp only [Addr.add] at hc0
        cases spot with
        | none => rfl
        | some s =>
          exfalso
          revert hc0
          unfold World.cell?
          split <;> simp
      subst hsp
      refine ⟨some ⟨b, off, none⟩, cap, zs.take len, by rw [ht], ⟨by rw [ht]; omega, .inr ⟨b, off, cap, rfl, World.block_lt_of_cell? W _ hc0, fun i hi => ?_⟩⟩, by rw [ht]; omega⟩
      rw [ht] at hi
      have q := hc i (by omega)
      rw [Addr.add_lit] at q
      rw [q]
      simp [List.getD, hi]
theorem lease_fields : ∃ f0 f1 f2 f3 f4 f5 f6 f7 f8, Tryz.prog.underlying 36 = some (.struct #[f0, f1, f2, f3, f4, f5, f6, f7, f8]) ∧ (f0.type = 3 ∧ f0.offset = 0) ∧ (f1.type = 3 ∧ f1.offset = 1) ∧ (f2.type = 9 ∧ f2.offset = 2) ∧
    (f3.type = 33 ∧ f3.offset = 3) ∧ (f4.type = 34 ∧ f4.offset = 4) ∧ (f5.type = 3 ∧ f5.offset = 5) ∧ (f6.type = 3 ∧ f6.offset = 6) ∧ (f7.type = 3 ∧ f7.offset = 7) ∧ (f8.type = 4 ∧ f8.offset = 8) :=
  ⟨_, _, _, _, _, _, _, _, _, Tryz.underlying36, ⟨rfl, rfl⟩, ⟨rfl, rfl⟩, ⟨rfl, rfl⟩, ⟨rfl, rfl⟩, ⟨rfl, rfl⟩, ⟨rfl, rfl⟩, ⟨rfl, rfl⟩, ⟨rfl, rfl⟩, ⟨rfl, rfl⟩⟩
set_option maxRecDepth 100000 in
theorem trod_lease {H : Type} {enc : TypeId × Value → H} {W : World} {base : Nat} {held : Bool} {fuel : Nat} {cs : List Value} {x : DataW H × List MemPlace}
    (h : DataW.trod enc Tryz.prog W base (fun _ => true) held fuel 36 cs = some x) (hw : ∀ n, n ∈ x.1.weights Tryz.prog 36 → n ≤ reachBytes) :
    ∃ (y : Lease) (q : Option Addr) (c : Nat), cs = (cellsL y (.slice q y.stamp.length c)).toList ∧ RdN W (.slice q y.stamp.length c) y.stamp ∧ inW y := by
  obtain ⟨f0, f1, f2, f3, f4, f5, f6, f7, f8, hs, ⟨t0, o0⟩, ⟨t1, o1⟩, ⟨t2, o2⟩, ⟨t3, o3⟩, ⟨t4, o4⟩, ⟨t5, o5⟩, ⟨t6, o6⟩, ⟨t7, o7⟩, ⟨t8, o8⟩⟩ := lease_fields
  obtain ⟨xs, n, _, rfl, hl, hxl, hf⟩ := DataW.trod_struct hs h
  rw [cells_lease] at hl
  match cs, hl, xs, hxl with
  | [v0, v1, v2, v3, v4, v5, v6, v7, v8], _, [y0, y1, y2, y3, y4, y5, y6, y7, y8], _ =>
    have g0 := hf 0 f0 rfl
    have g1 := hf 1 f1 rfl
    have g2 := hf 2 f2 rfl
    have g3 := hf 3 f3 rfl
    have g4 := hf 4 f4 rfl
    have g5 := hf 5 f5 rfl
    have g6 := hf 6 f6 rfl
    have g7 := hf 7 f7 rfl
    have g8 := hf 8 f8 rfl
    simp [t0, t1, t2, t3, t4, t5, t6, t7, t8, o0, o1, o2, o3, o4, o5, o6, o7, o8, cells_int, cells_str, cells_mode, cells_ints, cells_bool] at g0 g1 g2 g3 g4 g5 g6 g7 g8
    obtain ⟨a0, ha0, _, w0⟩ := DataW.trod_int Tryz.underlying3 g0
    obtain ⟨a1, ha1, _, w1⟩ := DataW.trod_int Tryz.underlying3 g1
    obtain ⟨a2, ha2, hx2, w2⟩ := DataW.trod_string Tryz.underlying9 g2
    have hlen2 : a2.size ≤ reachBytes := by
      have := hw a2.data.toList.length (by
        simp only [DataW.weights, hs, List.map_cons, List.map_nil, DataW.weightsEach, List.mem_append]
        have e : y2.1 = .lit (.string a2.data.toList) := congrArg Prod.fst hx2
        rw [e, t2]
        exact .inr (.inr (.inl (by simp [DataW.weights]))))
      simpa using this
    obtain ⟨a3, ha3, _, w3⟩ := DataW.trod_int Tryz.underlying33 g3
    obtain ⟨a5, ha5, _, w5⟩ := DataW.trod_int Tryz.underlying3 g5
    obtain ⟨a6, ha6, _, w6⟩ := DataW.trod_int Tryz.underlying3 g6
    obtain ⟨a7, ha7, _, w7⟩ := DataW.trod_int Tryz.underlying3 g7
    obtain ⟨a8, ha8, _⟩ := DataW.trod_bool Tryz.underlying4 g8
    obtain ⟨q, c, a, ha4, hr, hb⟩ := trod_ints g4 (fun n hn => hw n (by
      simp only [DataW.weights, hs, List.map_cons, List.map_nil, DataW.weightsEach, t4, List.mem_append]
      exact .inr (.inr (.inr (.inr (.inl hn))))))
    simp at ha0 ha1 ha2 ha3 ha4 ha5 ha6 ha7 ha8
    unfold reachBytes at hlen2
    clear w2 hx2
    exact ⟨⟨a0, a1, a2, a3, a, a5, a6, a7, a8⟩, q, c, by rw [ha0, ha1, ha2, ha3, ha4, ha5, ha6, ha7, ha8]; rfl, hr, ⟨w0, w1, w3, w5, w6, w7⟩, by simp only; omega, hb⟩
end Go.Proofs.YtifllaeldcimgaaGreat
