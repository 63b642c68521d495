/-
  PLAIN LAWS, NO WALK: the document's way to split a path, byte by byte.
-/
import Derived.Test.YthkcbennfochmaaGreatDoorPsSegs
namespace Go.Proofs.YthkcbennfochmaaGreatDoor
open Go.RowKit

def lettersB (s : List UInt8) : Bool := s.all fun c => letter c.toNat
/-- a segment -/
def segB (s : List UInt8) : Bool := decide (1 ≤ s.length ∧ s.length ≤ 6) && lettersB s
/-- D: the segments so far; cur: the bytes since; and these bytes to come -/
def splGo : List Seg → List UInt8 → List UInt8 → Option (List Seg)
  | D, cur, [] => if D.length = 4 ∨ segB cur = false then none else some (D ++ [cur])
  | D, cur, c :: r => if (c.toNat : Int) = 47 then (if D.length = 4 ∨ segB cur = false then none else splGo (D ++ [cur]) [] r) else splGo D (cur ++ [c]) r
def fineX (cur r : List UInt8) : Bool := decide (cur.length ≤ 6) && (lettersB cur && fineGo r cur.length)
theorem is47 (c : UInt8) : (c.toNat : Int) = 47 ↔ c = 47 := by
  constructor
  · intro h
    have : c.toNat = 47 := by omega
    exact UInt8.toNat_inj.1 this
  · intro h; subst h; rfl
theorem head_tail_split (r : List UInt8) : (split47 r).headD [] :: (split47 r).tail = split47 r := by
  cases h : split47 r with
  | nil => exact absurd h (split47_ne r)
  | cons a b => rfl
theorem fineX_nil (r : List UInt8) : fineX [] r = fineGo r 0 := by simp [fineX, lettersB]
theorem fineX_end (cur : List UInt8) : fineX cur [] = segB cur := by
  unfold segB fineX
  rw [show fineGo [] cur.length = decide (0 < cur.length ∧ cur.length ≤ 6) from rfl]
  rw [Bool.eq_iff_iff]
  simp only [Bool.and_eq_true, decide_eq_true_eq]
  constructor
  · rintro ⟨a, b, c, d⟩; exact ⟨⟨c, d⟩, b⟩
  · rintro ⟨⟨a, b⟩, c⟩; exact ⟨b, c, a, b⟩
theorem fineX_cut (cur r : List UInt8) (c : UInt8) (hc : (c.toNat : Int) = 47) : fineX cur (c :: r) = (segB cur && fineGo r 0) := by
  unfold fineX segB
  rw [show fineGo (c :: r) cur.length = if cur.length = 0 then false else fineGo r 0 by
    show (if (c.toNat : Int) = 47 then _ else _) = _
    rw [if_pos hc]]
  generalize fineGo r 0 = z
  by_cases h0 : cur.length = 0
  · rw [if_pos h0, h0]; simp
  · rw [if_neg h0]
    by_cases h1 : cur.length ≤ 6 <;> cases lettersB cur <;> cases z <;> simp [h1] <;> omega
theorem fineX_go (cur r : List UInt8) (c : UInt8) (hc : ¬ (c.toNat : Int) = 47) : fineX (cur ++ [c]) r = fineX cur (c :: r) := by
  unfold fineX
  rw [show fineGo (c :: r) cur.length = (if letter c.toNat then (if 6 < cur.length + 1 then false else fineGo r (cur.length + 1)) else false) by
    show (if (c.toNat : Int) = 47 then _ else _) = _
    rw [if_neg hc]]
  have hl : lettersB (cur ++ [c]) = (lettersB cur && letter c.toNat) := by simp [lettersB]
  rw [hl, List.length_append, List.length_singleton]
  generalize fineGo r (cur.length + 1) = z
  by_cases hl2 : letter c.toNat = true
  · rw [if_pos hl2, hl2, Bool.and_true]
    by_cases h6 : cur.length + 1 ≤ 6
    · rw [if_neg (by omega), decide_eq_true h6, decide_eq_true (show cur.length ≤ 6 by omega)]
    · rw [if_pos (by omega), decide_eq_false h6]
      simp
  · rw [if_neg hl2]
    have : letter c.toNat = false := by simpa using hl2
    rw [this]
    simp
theorem splGo_eq (r : List UInt8) : ∀ (D : List Seg) (cur : List UInt8), D.length ≤ 4 →
    splGo D cur r = if D.length + Lib.countByte r 47 < 4 ∧ fineX cur r = true then some (D ++ ((cur ++ (split47 r).headD []) :: (split47 r).tail)) else none := by
  induction r with
  | nil =>
    intro D cur hD
    have e0 : Lib.countByte [] 47 = 0 := rfl
    have e1 : splGo D cur [] = if D.length = 4 ∨ segB cur = false then none else some (D ++ [cur]) := rfl
    rw [e1, e0, fineX_end]
    by_cases h1 : D.length = 4
    · rw [if_pos (.inl h1), if_neg (fun x => by have := x.1; omega)]
    · cases h2 : segB cur
      · rw [if_pos (.inr rfl), if_neg (fun x => by cases x.2)]
      · rw [if_neg (by simp [h1]), if_pos ⟨by omega, rfl⟩]
        simp [split47]
  | cons c r ih =>
    intro D cur hD
    have e1 : splGo D cur (c :: r) = if (c.toNat : Int) = 47 then (if D.length = 4 ∨ segB cur = false then none else splGo (D ++ [cur]) [] r) else splGo D (cur ++ [c]) r := rfl
    have e0 : Lib.countByte (c :: r) 47 = Lib.countByte r 47 + if c = 47 then 1 else 0 := by
      unfold Lib.countByte
      rw [List.count_cons]
      by_cases h : c = 47 <;> simp [h]
    rw [e1, e0]
    by_cases hc : (c.toNat : Int) = 47
    · have hc' := (is47 c).1 hc
      rw [if_pos hc, fineX_cut _ _ _ hc, if_pos hc', split47_cons, if_pos hc']
      by_cases h1 : D.length = 4
      · rw [if_pos (.inl h1), if_neg (fun x => by have := x.1; omega)]
      · cases h2 : segB cur
        · rw [if_pos (.inr rfl), if_neg (fun x => by simp at x)]
        · rw [if_neg (by simp [h1]), ih _ _ (by simp; omega), fineX_nil]
          have e : (D ++ [cur]).length + Lib.countByte r 47 = D.length + (Lib.countByte r 47 + 1) := by simp; omega
          rw [e]
          simp only [Bool.true_and, List.nil_append, List.headD_cons, List.tail_cons, List.append_nil, head_tail_split, List.append_assoc, List.singleton_append]
    · have hc' : ¬ c = 47 := fun e => hc ((is47 c).2 e)
      rw [if_neg hc, if_neg hc', ih _ _ hD, split47_cons, if_neg hc', fineX_go _ _ _ hc]
      simp
theorem splGo_path {l : List UInt8} (h : l ≠ []) : splGo [] [] l = if pathOk l = true then some (segsOf l) else none := by
  rw [splGo_eq l [] [] (by simp), fineX_nil]
  unfold segsOf pathOk fineB
  rw [if_neg h]
  have h2 : l.isEmpty = false := by simpa using h
  rw [h2]
  simp only [List.nil_append, head_tail_split, List.length_nil, Nat.zero_add, Bool.false_or, Bool.and_eq_true, decide_eq_true_eq]
  by_cases h3 : Lib.countByte l 47 < 4
  · by_cases h4 : fineGo l 0 = true
    · rw [if_pos ⟨h3, h4⟩, if_pos ⟨h4, by omega⟩]
    · rw [if_neg (fun x => h4 x.2), if_neg (fun x => h4 x.1)]
  · rw [if_neg (fun x => h3 x.1), if_neg (fun x => h3 (by omega))]
end Go.Proofs.YthkcbennfochmaaGreatDoor
