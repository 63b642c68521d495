/-
  PLAIN LAWS, NO WALK: entries in List's order; what the calls on a set make of them.
-/
import Derived.Test.YthkcbennfochmaaGreatDoorPsLaw
import Derived.Lib.Bytealg
namespace Go.Proofs.YthkcbennfochmaaGreatDoor
open Go.RowKit

/-! ### the order of bytes -/
abbrev cmpB (a b : List UInt8) : Int := Lib.compareBytes a b
theorem cmpB_cons (x y : UInt8) (a b : List UInt8) : cmpB (x :: a) (y :: b) = if x < y then -1 else if y < x then 1 else cmpB a b := rfl
theorem cmpB_cases : ∀ (a b : List UInt8), cmpB a b = -1 ∨ cmpB a b = 0 ∨ cmpB a b = 1
  | [], [] => .inr (.inl rfl)
  | [], _ :: _ => .inl rfl
  | _ :: _, [] => .inr (.inr rfl)
  | x :: a, y :: b => by
    rw [cmpB_cons]
    by_cases h1 : x < y
    · rw [if_pos h1]; exact .inl rfl
    · by_cases h2 : y < x
      · rw [if_neg h1, if_pos h2]; exact .inr (.inr rfl)
      · rw [if_neg h1, if_neg h2]; exact cmpB_cases a b
theorem cmpB_zero : ∀ {a b : List UInt8}, cmpB a b = 0 ↔ a = b
  | [], [] => by simp [cmpB, Lib.compareBytes]
  | [], _ :: _ => by simp [cmpB, Lib.compareBytes]
  | _ :: _, [] => by simp [cmpB, Lib.compareBytes]
  | x :: a, y :: b => by
    have ih := cmpB_zero (a := a) (b := b)
    rw [cmpB_cons]
    by_cases h1 : x < y
    · rw [if_pos h1]
      exact ⟨fun h => by omega, fun e => absurd h1 (by rw [List.cons.inj e |>.1]; exact UInt8.lt_irrefl _)⟩
    · by_cases h2 : y < x
      · rw [if_neg h1, if_pos h2]
        exact ⟨fun h => by omega, fun e => absurd h2 (by rw [List.cons.inj e |>.1]; exact UInt8.lt_irrefl _)⟩
      · have : x = y := UInt8.le_antisymm (UInt8.not_lt.1 h2) (UInt8.not_lt.1 h1)
        rw [if_neg h1, if_neg h2, ih, this]
        simp
theorem cmpB_neg : ∀ (a b : List UInt8), cmpB b a = - cmpB a b
  | [], [] => rfl
  | [], _ :: _ => rfl
  | _ :: _, [] => rfl
  | x :: a, y :: b => by
    have ih := cmpB_neg a b
    rw [cmpB_cons, cmpB_cons]
    by_cases h1 : x < y
    · have h2 : ¬ y < x := fun h => UInt8.lt_irrefl _ (UInt8.lt_trans h1 h)
      rw [if_neg h2, if_pos h1, if_pos h1]; rfl
    · by_cases h2 : y < x
      · rw [if_pos h2, if_neg h1, if_pos h2]
      · rw [if_neg h1, if_neg h2, if_neg h1, if_neg h2]; exact ih
theorem cmpB_tr : ∀ {a b c : List UInt8}, cmpB a b < 0 → cmpB b c < 0 → cmpB a c < 0
  | [], [], _, h, _ => by simp [cmpB, Lib.compareBytes] at h
  | [], _ :: _, [], _, h => by simp [cmpB, Lib.compareBytes] at h
  | [], _ :: _, _ :: _, _, _ => by simp [cmpB, Lib.compareBytes]
  | _ :: _, [], _, h, _ => by simp [cmpB, Lib.compareBytes] at h
  | _ :: _, _ :: _, [], _, h => by simp [cmpB, Lib.compareBytes] at h
  | x :: a, y :: b, z :: c, h1, h2 => by
    have ih := @cmpB_tr a b c
    rw [cmpB_cons] at h1 h2 ⊢
    by_cases e1 : x < y
    · by_cases e2 : y < z
      · rw [if_pos (UInt8.lt_trans e1 e2)]; decide
      · rw [if_neg e2] at h2
        by_cases e3 : z < y
        · rw [if_pos e3] at h2; omega
        · have : y = z := UInt8.le_antisymm (UInt8.not_lt.1 e3) (UInt8.not_lt.1 e2)
          rw [if_pos (this ▸ e1)]; decide
    · rw [if_neg e1] at h1
      by_cases e1' : y < x
      · rw [if_pos e1'] at h1; omega
      · rw [if_neg e1'] at h1
        have exy : x = y := UInt8.le_antisymm (UInt8.not_lt.1 e1') (UInt8.not_lt.1 e1)
        subst exy
        by_cases e2 : x < z
        · rw [if_pos e2]; decide
        · rw [if_neg e2] at h2 ⊢
          by_cases e3 : z < x
          · rw [if_pos e3] at h2; omega
          · rw [if_neg e3] at h2 ⊢; exact ih h1 h2
/-! ### entries in order -/
def Ent.bs (e : Ent) : List UInt8 := e.path.data.toList
def ltE (a b : Ent) : Prop := cmpB a.bs b.bs < 0 ∨ (a.bs = b.bs ∧ a.id < b.id)
instance (a b : Ent) : Decidable (ltE a b) := by unfold ltE; exact inferInstance
theorem ltE_irr (a : Ent) : ¬ ltE a a := by
  unfold ltE
  have := (cmpB_zero (a := a.bs) (b := a.bs)).2 rfl
  omega
theorem ltE_tr {a b c : Ent} (h : ltE a b) (k : ltE b c) : ltE a c := by
  unfold ltE at *
  rcases h with h | ⟨h, h'⟩ <;> rcases k with k | ⟨k, k'⟩
  · exact .inl (cmpB_tr h k)
  · rw [← k]; exact .inl h
  · rw [h]; exact .inl k
  · exact .inr ⟨h.trans k, by omega⟩
theorem ltE_tot {a b : Ent} (h : ¬ ltE a b) (k : a.id ≠ b.id) : ltE b a := by
  unfold ltE at *
  rw [not_or] at h
  obtain ⟨h1, h2⟩ := h
  rcases cmpB_cases a.bs b.bs with e | e | e
  · omega
  · have := cmpB_zero.1 e
    rw [not_and] at h2
    have := h2 this
    exact .inr ⟨(cmpB_zero.1 e).symm, by omega⟩
  · exact .inl (by rw [cmpB_neg, e]; decide)
def SrtE (l : List Ent) : Prop := l.Pairwise ltE
def insE (e : Ent) : List Ent → List Ent
  | [] => [e]
  | x :: r => if ltE x e then x :: insE e r else e :: x :: r
theorem insE_perm (e : Ent) (l : List Ent) : (insE e l).Perm (e :: l) := by
  induction l with
  | nil => exact .refl _
  | cons x r ih =>
    unfold insE
    split
    · exact (List.Perm.cons x ih).trans (List.Perm.swap e x r)
    · exact .refl _
theorem mem_insE {e x : Ent} {l : List Ent} : x ∈ insE e l ↔ x = e ∨ x ∈ l := by rw [(insE_perm e l).mem_iff, List.mem_cons]
theorem insE_srt {e : Ent} {l : List Ent} (h : SrtE l) (hid : ∀ x, x ∈ l → x.id ≠ e.id) : SrtE (insE e l) := by
  induction l with
  | nil => exact List.pairwise_cons.2 ⟨by simp, List.Pairwise.nil⟩
  | cons x r ih =>
    have h' := List.pairwise_cons.1 h
    unfold insE
    by_cases hx : ltE x e
    · rw [if_pos hx]
      refine List.pairwise_cons.2 ⟨fun y hy => ?_, ih h'.2 fun y hy => hid y (List.mem_cons_of_mem _ hy)⟩
      rcases mem_insE.1 hy with rfl | hy
      · exact hx
      · exact h'.1 y hy
    · rw [if_neg hx]
      have hex := ltE_tot hx (hid x List.mem_cons_self)
      refine List.pairwise_cons.2 ⟨fun y hy => ?_, h⟩
      rcases List.mem_cons.1 hy with rfl | hy
      · exact hex
      · exact ltE_tr hex (h'.1 y hy)
theorem srtE_unique {l m : List Ent} (hl : SrtE l) (hm : SrtE m) (p : l.Perm m) : l = m := by
  induction l generalizing m with
  | nil => exact (List.nil_perm.1 p).symm
  | cons x r ih =>
    cases m with
    | nil => exact absurd p.length_eq (by simp)
    | cons y s =>
      have e : x = y := by
        have hx := p.mem_iff.1 (List.mem_cons_self (a := x) (l := r))
        have hy := p.mem_iff.2 (List.mem_cons_self (a := y) (l := s))
        rcases List.mem_cons.1 hx with e | e
        · exact e
        · rcases List.mem_cons.1 hy with e2 | e2
          · exact e2.symm
          · exact absurd (ltE_tr ((List.pairwise_cons.1 hl).1 _ e2) ((List.pairwise_cons.1 hm).1 _ e)) (ltE_irr _)
      subst e
      rw [ih (List.pairwise_cons.1 hl).2 (List.pairwise_cons.1 hm).2 ((List.perm_cons _).1 p)]
/-! ### the calls -/
def modE (m : Int) : Bool := decide (m = 1) || decide (m = 2)
def hasId (l : List Ent) (id : Int) : Bool := l.any fun e => decide (e.id = id)
def putS5 (l : List Ent) (e : Ent) : List Ent × Int :=
  if pathOk e.bs = false then (l, 10) else if modE e.mode = false then (l, 11) else if hasId l e.id then (l, 50) else if l.length = 64 then (l, 51) else (insE e l, 0)
def dropS5 (l : List Ent) (id : Int) : List Ent := l.filter fun e => decide (e.id ≠ id)
def getS5 (l : List Ent) (id : Int) : Option Ent := l.find? fun e => decide (e.id = id)
def sortI (l : List Int) : List Int := l.mergeSort fun x y => decide (x ≤ y)
def overS5 (l : List Ent) (p : List UInt8) : List Int := sortI ((l.filter fun e => coversB e.bs p).map Ent.id)
def underS5 (l : List Ent) (p : List UInt8) : List Int := sortI ((l.filter fun e => coversB p e.bs).map Ent.id)
def standsB (p : List UInt8) (m who : Int) (e : Ent) : Bool := modE m && (coversB e.bs p || coversB p e.bs) && decide (e.who ≠ who) && (decide (m = 2) || decide (e.mode = 2))
def clashS5 (l : List Ent) (p : List UInt8) (m who : Int) : List Int := sortI ((l.filter (standsB p m who)).map Ent.id)
theorem sortI_srt (l : List Int) : (sortI l).Pairwise (· ≤ ·) := by
  have := List.pairwise_mergeSort (le := fun x y : Int => decide (x ≤ y)) (fun a b c h1 h2 => by simp at h1 h2 ⊢; omega) (fun a b => by simp; omega) l
  exact this.imp fun h => by simpa using h
theorem sortI_perm (l : List Int) : (sortI l).Perm l := List.mergeSort_perm _ _
theorem sortI_eq {l m : List Int} (hm : m.Pairwise (· ≤ ·)) (p : m.Perm l) : sortI l = m := by
  have hs := sortI_srt l
  have hp : (sortI l).Perm m := (sortI_perm l).trans p.symm
  exact hp.eq_of_pairwise (fun a b _ _ h1 h2 => Int.le_antisymm h1 h2) hs hm
theorem sortI_congr {l m : List Int} (p : l.Perm m) : sortI l = sortI m := sortI_eq (sortI_srt m) ((sortI_perm m).trans p.symm)
end Go.Proofs.YthkcbennfochmaaGreatDoor
