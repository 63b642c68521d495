/-
  ARGUMENTS OPENED: a case: a lease, and calls.
-/
import Derived.Test.YtifllaeldcimgaaOpenLO
namespace Go.Proofs.Ytifllaeldcimgaa
open Go.ChangeShapes Go.WideShapes Go.ChangeAt Go.RowKit Go.Deep Go.Joins

theorem cells_case : Try.prog.cellsOf 50 = 10 := by kernel_rfl
theorem cells_ops : Try.prog.cellsOf 35 = 1 := by kernel_rfl
theorem case_fields : ∃ f0 f1, Try.prog.underlying 50 = some (.struct #[f0, f1]) ∧ (f0.type = 30 ∧ f0.offset = 0) ∧ (f1.type = 35 ∧ f1.offset = 9) :=
  ⟨_, _, Try.underlying50, ⟨rfl, rfl⟩, ⟨rfl, rfl⟩⟩
set_option maxRecDepth 100000 in
theorem trod_case {H : Type} {enc : TypeId × Value → H} {W : World} {base : Nat} {held : Bool} {fuel : Nat} {cs : List Value} {x : DataW H × List MemPlace}
    (h : DataW.trod enc Try.prog W base (fun _ => true) held fuel 50 cs = some x) (hw : ∀ n, n ∈ x.1.weights Try.prog 50 → n ≤ reachBytes) :
    ∃ (y : Lease) (q : Option Addr) (c : Nat) (p : Option Addr) (n d : Nat) (l : List OpL), cs = (cellsL y (.slice q y.stamp.length c)).toList ++ [.slice p n d] ∧ RdOp W (.slice p n d) l ∧ inW y := by
  obtain ⟨f0, f1, hs, ⟨t0, o0⟩, ⟨t1, o1⟩⟩ := case_fields
  obtain ⟨xs, n, _, rfl, hl, hxl, hf⟩ := DataW.trod_struct hs h
  rw [cells_case] at hl
  match cs, hl, xs, hxl with
  | [v0, v1, v2, v3, v4, v5, v6, v7, v8, v9], _, [y0, y1], _ =>
    have g0 := hf 0 f0 rfl
    have g1 := hf 1 f1 rfl
    simp [t0, t1, o0, o1, cells_lease, cells_ops] at g0 g1
    obtain ⟨y, q, c, hy, _, hi⟩ := trod_lease g0 (fun n hn => hw n (by
      simp only [DataW.weights, hs, List.map_cons, List.map_nil, DataW.weightsEach, t0, List.mem_append]
      exact .inl hn))
    obtain ⟨p, n', d, l, hp, hR⟩ := trod_ops g1 (fun n hn => hw n (by
      simp only [DataW.weights, hs, List.map_cons, List.map_nil, DataW.weightsEach, t1, List.mem_append]
      exact .inr (.inl hn)))
    simp only [List.cons.injEq, and_true] at hp
    subst hp
    exact ⟨y, q, c, p, n', d, l, by rw [← hy]; rfl, hR, hi⟩
set_option maxRecDepth 100000 in
theorem open_case {H : Type} {enc : TypeId × Value → H} {W : World} {v : Value} {d : DataW H} {p : List MemPlace} {base : Nat}
    (hv : Value.okWide Try.prog W .any base 50 v) (h : DataW.Trod enc Try.prog W 0 (fun _ => true) true 50 v d p) (hw : ∀ n, n ∈ d.weights Try.prog 50 → n ≤ reachBytes) :
    ∃ f i pp m a t s e r q c mp mc l, v = .agg #[.int .i64 f, .int .i64 i, .string pp, .int .i64 m, .slice q (a : List Int).length c, .int .i64 t, .int .i64 s, .int .i64 e, .bool r, .slice mp (l : List OpL).length mc] ∧ RdOp W (.slice mp l.length mc) l ∧ inW ⟨f, i, pp, m, a, t, s, e, r⟩ := by
  obtain ⟨f0, f1, hs, _⟩ := case_fields
  obtain ⟨cs, rfl, hsz⟩ := okWide_struct hs hv
  obtain ⟨fuel, hf⟩ := h
  obtain ⟨⟨f, i, pp, m, a, t, s, e, r⟩, q, c, mp, n, mc, l, hcs, hR, hi⟩ := trod_case hf hw
  obtain ⟨_, _, hlen⟩ := hR.len
  simp only [Value.slice.injEq] at hlen
  obtain ⟨-, hlen, -⟩ := hlen
  subst hlen
  simp [Value.cells] at hcs
  refine ⟨f, i, pp, m, a, t, s, e, r, q, c, mp, mc, l, ?_, hR, hi⟩
  congr 1
  apply Array.toList_inj.1
  simpa [cellsL] using hcs
end Go.Proofs.Ytifllaeldcimgaa
