/-
  PLAIN LAWS OF ITEMS, NO PROGRAM: three numbers in order; cmp.Compare, cmp.Or as functions; rows of items in memory.
-/
import Derived.Test.YtbaphdaipacihaaBase
import Derived.Test.YtbaphdaipacihaaHeapLaw
namespace Go.Proofs.Ytbaphdaipacihaa
open Go.RowKit

def cmpInt (x y : Int) : Int := if x < y then -1 else if y < x then 1 else 0
theorem cmpInt_lt {x y : Int} (h : x < y) : cmpInt x y = -1 := by simp [cmpInt, h]
theorem cmpInt_gt {x y : Int} (h : y < x) : cmpInt x y = 1 := by simp [cmpInt, h, show ¬ x < y by omega]
theorem cmpInt_eq (x : Int) : cmpInt x x = 0 := by simp [cmpInt]
theorem cmpInt_cases (x y : Int) : (x < y ∧ cmpInt x y = -1) ∨ (y < x ∧ cmpInt x y = 1) ∨ (x = y ∧ cmpInt x y = 0) := by
  by_cases h1 : x < y
  · exact .inl ⟨h1, cmpInt_lt h1⟩
  · by_cases h2 : y < x
    · exact .inr (.inl ⟨h2, cmpInt_gt h2⟩)
    · exact .inr (.inr ⟨by omega, by simp [cmpInt, h1, h2]⟩)
def orInt : List Int → Int
  | [] => 0
  | x :: r => if x = 0 then orInt r else x
theorem orInt_drop (l : List Int) (k : Nat) (h : k < l.length) : orInt (l.drop k) = if l.getD k 0 = 0 then orInt (l.drop (k + 1)) else l.getD k 0 := by
  rw [List.drop_eq_getElem_cons h]
  simp [orInt, h]

/-- Due, Kind, Key -/
abbrev Item := Int × Int × Int
def encI (x : Item) : List Value := [.int .i64 x.1, .int .i64 x.2.1, .int .i64 x.2.2]
def ordI (x y : Item) : Int := orInt [cmpInt x.1 y.1, cmpInt x.2.1 y.2.1, cmpInt x.2.2 y.2.2]
def ltI (x y : Item) : Bool := decide (ordI x y < 0)
theorem encI_len (x : Item) : (encI x).length = 3 := rfl

/-- 'before', in words -/
def BefI (x y : Item) : Prop := x.1 < y.1 ∨ (x.1 = y.1 ∧ (x.2.1 < y.2.1 ∨ (x.2.1 = y.2.1 ∧ x.2.2 < y.2.2)))
theorem ltI_iff (x y : Item) : ltI x y = true ↔ BefI x y := by
  obtain ⟨a, b, c⟩ := x
  obtain ⟨a', b', c'⟩ := y
  rcases cmpInt_cases a a' with ⟨h1, e1⟩ | ⟨h1, e1⟩ | ⟨h1, e1⟩ <;> rcases cmpInt_cases b b' with ⟨h2, e2⟩ | ⟨h2, e2⟩ | ⟨h2, e2⟩ <;>
    rcases cmpInt_cases c c' with ⟨h3, e3⟩ | ⟨h3, e3⟩ | ⟨h3, e3⟩ <;> simp [ltI, ordI, orInt, BefI, e1, e2, e3] <;> omega
theorem ltI_false (x y : Item) : ltI x y = false ↔ ¬ BefI x y := by
  rw [← ltI_iff]; cases ltI x y <;> simp
theorem lo : HeapLaw.LO ltI where
  irr x := by rw [ltI_false]; unfold BefI; omega
  tr x y z h1 h2 := by rw [ltI_iff] at *; unfold BefI at *; omega
  tot x y h1 h2 := by
    rw [ltI_false] at *
    unfold BefI at *
    obtain ⟨a, b, c⟩ := x
    obtain ⟨a', b', c'⟩ := y
    simp only at *
    have : a = a' := by omega
    have : b = b' := by omega
    have : c = c' := by omega
    subst_vars; rfl

/-! ### a row of items in memory -/
theorem flat_set (d : List Item) (i : Nat) (x : Item) (hi : i < d.length) :
    (((d.flatMap encI).set (i * 3) (.int .i64 x.1)).set (i * 3 + 1) (.int .i64 x.2.1)).set (i * 3 + 2) (.int .i64 x.2.2) = (d.set i x).flatMap encI := by
  induction d generalizing i with
  | nil => simp at hi
  | cons y r ih =>
    cases i with
    | zero => simp [encI]
    | succ i =>
      have e : (i + 1) * 3 = i * 3 + 1 + 1 + 1 := by omega
      have := ih i (by simpa using hi)
      simp only [List.flatMap_cons, encI, List.cons_append, List.nil_append, e, List.set_cons_succ] at this ⊢
      rw [this]

theorem row_cell {w : World} {base g n cap : Nat} {T : TypeId} {d : List Item} (h : w.ownsRow base T 3 (.slice (some ⟨g, 0, none⟩) n cap) n (d.flatMap encI)) (hn : n = d.length) (i : Nat) (hi : i < d.length) :
    w.cell? ⟨g, i * 3, none⟩ = some (.int .i64 (d.getD i default).1) ∧ w.cell? ⟨g, i * 3 + 1, none⟩ = some (.int .i64 (d.getD i default).2.1) ∧ w.cell? ⟨g, i * 3 + 2, none⟩ = some (.int .i64 (d.getD i default).2.2) := by
  subst hn
  have f := flat_get encI 3 encI_len d i
  refine ⟨?_, ?_, ?_⟩
  · have := f 0 hi (by omega); rw [Nat.add_zero] at this
    rw [h.cellAt _ (by omega), this]; rfl
  · rw [h.cellAt _ (by omega), f 1 hi (by omega)]; rfl
  · rw [h.cellAt _ (by omega), f 2 hi (by omega)]; rfl

theorem row_set {w : World} {base g n cap : Nat} {T : TypeId} {d : List Item} (h : w.ownsRow base T 3 (.slice (some ⟨g, 0, none⟩) n cap) n (d.flatMap encI)) (i : Nat) (x : Item) (hi : i < d.length) :
    (((w.setCell ⟨g, i * 3, none⟩ (.int .i64 x.1)).setCell ⟨g, i * 3 + 1, none⟩ (.int .i64 x.2.1)).setCell ⟨g, i * 3 + 2, none⟩ (.int .i64 x.2.2)).ownsRow base T 3 (.slice (some ⟨g, 0, none⟩) n cap) n ((d.set i x).flatMap encI) := by
  have := ((((h.stored (i * 3) (.int .i64 x.1)).1).stored (i * 3 + 1) (.int .i64 x.2.1)).1.stored (i * 3 + 2) (.int .i64 x.2.2)).1
  rw [flat_set d i x hi] at this
  exact this

def swl (d : List Item) (i j : Nat) : List Item := (d.set i (d.getD j default)).set j (d.getD i default)
theorem swl_length (d : List Item) (i j : Nat) : (swl d i j).length = d.length := by simp [swl]
theorem swl_get (d : List Item) (i j : Nat) (hi : i < d.length) (hj : j < d.length) : (fun k => (swl d i j).getD k default) = HeapLaw.sw (fun k => d.getD k default) i j := by
  funext k
  simp only [swl, HeapLaw.sw, List.getD_eq_getElem?_getD, List.getElem?_set]
  by_cases h1 : k = j
  · subst h1
    by_cases h2 : k = i
    · subst h2; simp [hi]
    · simp [h2, hj]
  · by_cases h2 : k = i
    · subst h2; simp [hi, Ne.symm h1]
    · simp [Ne.symm h1, Ne.symm h2, h1, h2]
theorem set_split (l : List Item) (n : Nat) (x : Item) (h : n < l.length) : ∃ a b, l = a ++ l.getD n default :: b ∧ l.set n x = a ++ x :: b ∧ a.length = n := by
  refine ⟨l.take n, l.drop (n + 1), ?_, ?_, by simp; omega⟩
  · have : l.getD n default = l[n] := by simp [h]
    rw [this, List.getElem_cons_drop, List.take_append_drop]
  · rw [List.set_eq_take_append_cons_drop, if_pos h]
theorem swl_perm (d : List Item) (i j : Nat) (hi : i < d.length) (hj : j < d.length) : (swl d i j).Perm d := by
  by_cases e : i = j
  · subst e
    have : swl d i i = d := by
      apply List.ext_getElem?
      intro k
      simp only [swl, List.getElem?_set, List.length_set, List.getD_eq_getElem?_getD]
      by_cases h : i = k
      · subst h; simp [hi]
      · simp [h]
    rw [this]
  · unfold swl
    obtain ⟨a, b, h1, h2, ha⟩ := set_split d i (d.getD j default) hi
    obtain ⟨a', b', h1', h2', ha'⟩ := set_split (d.set i (d.getD j default)) j (d.getD i default) (by simpa using hj)
    have hd : (d.set i (d.getD j default)).getD j default = d.getD j default := by
      simp [List.getD_eq_getElem?_getD, e]
    rw [h2', ← List.perm_cons (d.getD j default)]
    rw [hd] at h1'
    have p1 : (a' ++ d.getD j default :: b').Perm (a ++ d.getD j default :: b) := by rw [← h1', h2]
    have p2 : (a' ++ b').Perm (a ++ b) := by
      have := (List.perm_middle.symm.trans p1).trans List.perm_middle
      exact (List.perm_cons _).1 this
    refine List.Perm.trans (List.Perm.cons _ List.perm_middle) ?_
    refine List.Perm.trans (List.Perm.cons _ (List.Perm.cons _ p2)) ?_
    refine List.Perm.cons _ ?_
    have : (a ++ d.getD i default :: b).Perm d := by rw [← h1]
    exact List.perm_middle.symm.trans this
end Go.Proofs.Ytbaphdaipacihaa
