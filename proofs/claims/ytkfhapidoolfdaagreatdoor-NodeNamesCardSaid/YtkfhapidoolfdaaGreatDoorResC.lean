/-
  PLAIN LAWS, OVER ANY PROGRAM: results that lie in a block of their own; a block of five cells stored whole.
-/
import Derived.Test.YtkfhapidoolfdaaGreatDoorBlk
namespace Go.Proofs.YtkfhapidoolfdaaGreatDoor
open Go.RowKit

/-- two results, the first a struct in a block of its own -/
theorem res_cell2 {P : Program} {fn : Func} {p u : Tmp} {ty : TypeId} (h : fn.results = #[.cell p ty, .tmp u]) (tmps : Array Value) (w : World) {r : Nat} {cs : Array Value} {T : TypeId} (hp : tmps.getD p undef = .pointer (some ⟨r, 0, none⟩))
    (hb : w.heap[r]? = some (.cells cs T (0, 0))) (aE : ∀ w, (isAgg ty).run P w = .ok true w) (zE : ∀ w, (Go.sizeOf ty).run P w = .ok cs.size w) {e : Value} (he : e = .tuple #[.agg cs, tmps.getD u undef]) : (results fn tmps).run P w = .ok e w := by
  subst he
  rw [results_cell_tmp h, hp]
  have e1 : (asAddr (.pointer (some ⟨r, 0, none⟩))).run P w = .ok ⟨r, 0, none⟩ w := rfl
  rw [e1]
  have e2 : (loadVar ty ⟨r, 0, none⟩).run P w = .ok (.agg cs) w := by
    have e3 := run_loadCells_list (P := P) (w := w) ⟨r, 0, none⟩ cs.toList (fun i v hi => by
      rw [Addr.add_lit, Nat.zero_add, blk_cell hb]; simpa using hi)
    rw [Array.length_toList] at e3
    unfold loadVar
    simp only [Sem.run_bind, aE, Result.andThen, if_true, zE]
    simp [e3]
  simp only [Result.andThen]
  rw [e2]
/-- one result, a struct in a block of its own -/
theorem res_cell1 {P : Program} {fn : Func} {p : Tmp} {ty : TypeId} (h : fn.results = #[.cell p ty]) (tmps : Array Value) (w : World) {r : Nat} {cs : Array Value} {T : TypeId} (hp : tmps.getD p undef = .pointer (some ⟨r, 0, none⟩))
    (hb : w.heap[r]? = some (.cells cs T (0, 0))) (aE : ∀ w, (isAgg ty).run P w = .ok true w) (zE : ∀ w, (Go.sizeOf ty).run P w = .ok cs.size w) : (results fn tmps).run P w = .ok (.agg cs) w := by
  have e1 : (asAddr (.pointer (some ⟨r, 0, none⟩))).run P w = .ok ⟨r, 0, none⟩ w := rfl
  have e2 : (loadVar ty ⟨r, 0, none⟩).run P w = .ok (.agg cs) w := by
    have e3 := run_loadCells_list (P := P) (w := w) ⟨r, 0, none⟩ cs.toList (fun i v hi => by
      rw [Addr.add_lit, Nat.zero_add, blk_cell hb]; simpa using hi)
    rw [Array.length_toList] at e3
    unfold loadVar
    simp only [Sem.run_bind, aE, Result.andThen, if_true, zE]
    simp [e3]
  have e0 : (results fn tmps).run P w = ((asAddr (tmps.getD p undef)).run P w).andThen fun a w₁ => (loadVar ty a).run P w₁ := by
    simp [results, h, Sem.run_bind, Result.andThen]
  rw [e0, hp, e1]
  simp only [Result.andThen]
  rw [e2]
/-- n cells stored one after the other, from cell i on -/
def stL (w : World) (r : Nat) : Nat → List Value → World
  | _, [] => w
  | i, v :: l => stL (w.setCell ⟨r, i, none⟩ v) r (i + 1) l
theorem stL_mod {S : List Nat} {w0 : World} {r : Nat} (hr : r < w0.heap.size → r ∈ S) : ∀ (l : List Value) (i : Nat) (w : World), Mod S w0 w → Mod S w0 (stL w r i l)
  | [], _, _, h => h
  | v :: l, i, _, h => stL_mod hr l (i + 1) _ (h.setCell hr v)
theorem stL_size (r : Nat) : ∀ (l : List Value) (i : Nat) (w : World), (stL w r i l).heap.size = w.heap.size
  | [], _, _ => rfl
  | v :: l, i, w => by unfold stL; rw [stL_size r l]; simp
theorem stL_heap {r : Nat} {T : TypeId} : ∀ (l : List Value) (i : Nat) (w : World) (pre old : List Value), pre.length = i → old.length = l.length → w.heap[r]? = some (.cells (pre ++ old).toArray T (0, 0)) →
    (stL w r i l).heap[r]? = some (.cells (pre ++ l).toArray T (0, 0))
  | [], _, _, pre, old, _, ho, h => by
    obtain rfl : old = [] := List.length_eq_zero_iff.1 (by simpa using ho)
    exact h
  | v :: l, i, w, pre, o :: old, hp, ho, h => by
    have h1 := blk_set h i v
    have e : ((pre ++ o :: old).toArray.setIfInBounds i v) = ((pre ++ [v]) ++ old).toArray := by
      subst hp
      simp
    rw [e] at h1
    have h2 := stL_heap l (i + 1) (w.setCell ⟨r, i, none⟩ v) (pre ++ [v]) old (by simp [hp]) (by simpa using ho) h1
    rw [List.append_assoc] at h2
    exact h2
  | _ :: _, _, _, _, [], _, ho, _ => by simp at ho
/-- a whole block stored anew -/
theorem stL_all {w : World} {r : Nat} {cs : Array Value} {T : TypeId} (h : w.heap[r]? = some (.cells cs T (0, 0))) (l : List Value) (hl : cs.size = l.length) : (stL w r 0 l).heap[r]? = some (.cells l.toArray T (0, 0)) :=
  stL_heap l 0 w [] cs.toList rfl (by simpa using hl) (by simpa using h)
theorem stL_other {r k : Nat} (hk : k ≠ r) : ∀ (l : List Value) (i : Nat) (w : World), (stL w r i l).heap[k]? = w.heap[k]?
  | [], _, _ => rfl
  | v :: l, i, w => by
    unfold stL
    rw [stL_other hk l, Below.heap_setCell _ _ _ _ hk]
/-- a new block behind draws -/
theorem drewN_new (W : World) : (∀ (n : Nat) (o : Obj) (i : Nat), ((W.drewN n).alloc o).cell? ⟨W.heap.size, i, none⟩ = (W.alloc o).cell? ⟨W.heap.size, i, none⟩) ∧ (∀ (n : Nat) (o : Obj) (i : Nat), ((W.drewN n).alloc o).frozen? ⟨W.heap.size, i, none⟩ = (W.alloc o).frozen? ⟨W.heap.size, i, none⟩) :=
  ⟨fun _ _ _ => rfl, fun _ _ _ => rfl⟩
end Go.Proofs.YtkfhapidoolfdaaGreatDoor
