/-
  PLAIN LAWS OF MEMORY, OVER ANY PROGRAM: worlds that only grew ('Gr'), worlds in which only named blocks may have changed ('Mod'), rows of structs.
-/
import Derived.WalkKit
import Derived.WalkSpells
import Derived.WalkLawsBesides
import Derived.OneCell
import Derived.Sort.Grow
import Derived.Deep.Draws
namespace Go.Proofs.YtkfhapidoolfdaaGreatDoor
open Go.RowKit Go.Sort

theorem hide {p : Prop} (h : p) : Hid p := h

/-- w' is w with some draws made and some blocks laid behind. -/
def Gr (w w' : World) : Prop := ∃ q os, w' = grow (w.drewN q) os
theorem Gr.refl (w : World) : Gr w w := ⟨0, #[], by rw [grow_empty]; rfl⟩
theorem Gr.trans {a b c : World} (h : Gr a b) (k : Gr b c) : Gr a c := by
  obtain ⟨q, os, rfl⟩ := h
  obtain ⟨q', os', rfl⟩ := k
  exact ⟨q + q', os ++ os', by show grow (grow ((a.drewN q).drewN q') os) os' = _; rw [grow_grow, World.drewN_drewN]⟩
theorem Gr.drew {a b : World} (h : Gr a b) : Gr a b.drew := h.trans ⟨1, #[], by rw [grow_empty]; rfl⟩
theorem Gr.drewN {a b : World} (h : Gr a b) (n : Nat) : Gr a (b.drewN n) := h.trans ⟨n, #[], by rw [grow_empty]⟩
theorem Gr.alloc {a b : World} (h : Gr a b) (o : Obj) : Gr a (b.alloc o) := h.trans ⟨0, #[o], by rw [alloc_eq_grow]; rfl⟩
theorem Gr.size {a b : World} (h : Gr a b) : a.heap.size ≤ b.heap.size := by
  obtain ⟨q, os, rfl⟩ := h
  rw [size_grow]
  show a.heap.size ≤ a.heap.size + os.size
  omega
theorem Gr.heap {a b : World} (h : Gr a b) {k : Nat} (hk : k < a.heap.size) : b.heap[k]? = a.heap[k]? := by
  obtain ⟨q, os, rfl⟩ := h
  exact heap_grow_old (a.drewN q) os hk
theorem Gr.cell {a b : World} (h : Gr a b) {x : Addr} (hk : x.block < a.heap.size) : b.cell? x = a.cell? x := World.cell?_of_block (h.heap hk)
theorem Gr.kept {a b : World} (h : Gr a b) {x : Addr} {v : Value} (hc : a.cell? x = some v) : b.cell? x = some v :=
  (h.cell (World.block_lt_of_cell? a x hc)).trans hc

/-- Of the blocks that were, only those of S may have changed. -/
structure Mod (S : List Nat) (w w' : World) : Prop where
  os : w'.os = w.os
  tape : w'.tape = w.tape
  output : w'.output = w.output
  size : w.heap.size ≤ w'.heap.size
  block : ∀ k, k < w.heap.size → k ∉ S → w'.heap[k]? = w.heap[k]?
theorem Mod.refl (S : List Nat) (w : World) : Mod S w w := ⟨rfl, rfl, rfl, Nat.le_refl _, fun _ _ _ => rfl⟩
theorem Gr.mod {a b : World} (h : Gr a b) (S : List Nat) : Mod S a b := by
  have hs := h.size
  have hh := fun k (hk : k < a.heap.size) => h.heap hk
  obtain ⟨q, os, rfl⟩ := h
  exact ⟨rfl, rfl, rfl, hs, fun k hk _ => hh k hk⟩
theorem Mod.trans {S T U : List Nat} {a b c : World} (h : Mod S a b) (k : Mod T b c) (hS : ∀ x, x ∈ S → x < a.heap.size → x ∈ U) (hT : ∀ x, x ∈ T → x < a.heap.size → x ∈ U) : Mod U a c :=
  ⟨k.os.trans h.os, k.tape.trans h.tape, k.output.trans h.output, Nat.le_trans h.size k.size, fun i hi hu =>
    (k.block i (Nat.lt_of_lt_of_le hi h.size) (fun e => hu (hT i e hi))).trans (h.block i hi (fun e => hu (hS i e hi)))⟩
theorem Mod.then {S : List Nat} {a b c : World} (h : Mod S a b) (k : Mod S b c) : Mod S a c := h.trans k (fun _ x _ => x) (fun _ x _ => x)
theorem Mod.mono {S T : List Nat} {a b : World} (h : Mod S a b) (hS : ∀ x, x ∈ S → x < a.heap.size → x ∈ T) : Mod T a b := h.trans (Mod.refl [] b) hS (fun _ x => by cases x)
theorem Mod.gr {S : List Nat} {a b c : World} (h : Mod S a b) (k : Gr b c) : Mod S a c := h.then (k.mod S)
theorem Mod.alloc {S : List Nat} {a b : World} (h : Mod S a b) (o : Obj) : Mod S a (b.alloc o) := h.gr ((Gr.refl b).alloc o)
theorem Mod.drew {S : List Nat} {a b : World} (h : Mod S a b) : Mod S a b.drew := h.gr (Gr.refl b).drew
theorem Mod.drewN {S : List Nat} {a b : World} (h : Mod S a b) (n : Nat) : Mod S a (b.drewN n) := h.gr ((Gr.refl b).drewN n)
theorem Mod.setCell {S : List Nat} {a b : World} (h : Mod S a b) {p : Addr} (hp : p.block < a.heap.size → p.block ∈ S) (u : Value) : Mod S a (b.setCell p u) :=
  ⟨h.os, h.tape, h.output, by have := h.size; simpa [World.setCell] using this, fun k hk hS => by
    rw [Below.heap_setCell _ _ _ _ (fun e => hS (by subst e; exact hp hk))]; exact h.block k hk hS⟩
theorem Mod.grown {S : List Nat} {a b c : World} {row : Option Nat} (h : Mod S a b) (g : b.grownBy c row) (hr : ∀ k, row = some k → k < a.heap.size → k ∈ S) : Mod S a c :=
  ⟨g.os.trans h.os, g.tape.trans h.tape, g.output.trans h.output, Nat.le_trans h.size g.size, fun k hk hS =>
    (g.block k (Nat.lt_of_lt_of_le hk h.size) (fun e => hS (hr k e.symm hk))).trans (h.block k hk hS)⟩
theorem Mod.cell {S : List Nat} {a b : World} (h : Mod S a b) {x : Addr} (hk : x.block < a.heap.size) (hS : x.block ∉ S) : b.cell? x = a.cell? x := World.cell?_of_block (h.block _ hk hS)
theorem Mod.kept {S : List Nat} {a b : World} (h : Mod S a b) {x : Addr} {v : Value} (hc : a.cell? x = some v) (hS : x.block ∉ S) : b.cell? x = some v :=
  (h.cell (World.block_lt_of_cell? a x hc) hS).trans hc
theorem Mod.at_ {S : List Nat} {a b : World} (h : Mod S a b) {k : Nat} {o : Obj} (hc : a.heap[k]? = some o) (hS : k ∉ S) : b.heap[k]? = some o :=
  (h.block k (lt_of_block hc) hS).trans hc
theorem Mod.below {S : List Nat} {a b : World} (h : Mod S a b) {B : Nat} (hB : B ≤ a.heap.size) (hS : ∀ k, k ∈ S → B ≤ k) : Below B a b :=
  ⟨h.os, h.tape, h.output, h.size, fun k hk => h.block k (by omega) (fun e => by have := hS k e; omega)⟩
theorem Mod.row {S : List Nat} {a b : World} (h : Mod S a b) {base : Nat} {e : TypeId} {size : Nat} {v : Value} {n : Nat} {xs : List Value}
    (r : a.ownsRow base e size v n xs) (hS : ∀ k, v.ownBlock = some k → k ∉ S) : b.ownsRow base e size v n xs := by
  refine ⟨r.1, ?_⟩
  rcases r.2 with hn | ⟨g, cap, cur, rfl, hb, hgg, rest⟩
  · exact .inl hn
  · exact .inr ⟨g, cap, cur, rfl, hb, h.at_ hgg (hS g rfl), rest⟩

/-! ### rows of structs -/
section
variable {α : Type} (enc : α → List Value) (k : Nat) (hk : ∀ x, (enc x).length = k)
include hk
theorem flat_length (d : List α) : (d.flatMap enc).length = d.length * k := by
  induction d with
  | nil => simp
  | cons x r ih => simp [List.flatMap_cons, ih, hk, Nat.add_mul]; omega
theorem flat_get [Inhabited α] (d : List α) (i c : Nat) (hi : i < d.length) (hc : c < k) : (d.flatMap enc)[i * k + c]? = (enc (d.getD i default))[c]? := by
  induction d generalizing i with
  | nil => simp at hi
  | cons x r ih =>
    rw [List.flatMap_cons]
    cases i with
    | zero =>
      rw [List.getElem?_append_left (by rw [hk]; omega)]
      simp
    | succ i =>
      rw [List.getElem?_append_right (by rw [hk, Nat.add_mul]; omega), hk]
      have : (i + 1) * k + c - k = i * k + c := by rw [Nat.add_mul]; omega
      rw [this, ih i (by simpa using hi)]
      simp
end
end Go.Proofs.YtkfhapidoolfdaaGreatDoor
