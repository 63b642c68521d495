/-
  PLAIN LAWS, NO WALK: a path's segments; covers, by segments.
-/
import Derived.Test.YthkcbennfochmaaGreatDoorPaths2
namespace Go.Proofs.YthkcbennfochmaaGreatDoor
open Go.RowKit

abbrev Seg := List UInt8
def split47 : List UInt8 → List Seg
  | [] => [[]]
  | c :: r => if c = 47 then [] :: split47 r else (c :: (split47 r).headD []) :: (split47 r).tail
def join47 : List Seg → List UInt8
  | [] => []
  | [s] => s
  | s :: t => s ++ 47 :: join47 t
def segsOf (l : List UInt8) : List Seg := if l = [] then [] else split47 l
theorem split47_cons (c : UInt8) (r : List UInt8) : split47 (c :: r) = if c = 47 then [] :: split47 r else (c :: (split47 r).headD []) :: (split47 r).tail := rfl
theorem split47_ne (l : List UInt8) : split47 l ≠ [] := by
  cases l with
  | nil => simp [split47]
  | cons c r => unfold split47; split <;> simp
theorem join47_cons {s : Seg} {t : List Seg} (h : t ≠ []) : join47 (s :: t) = s ++ 47 :: join47 t := by
  cases t with
  | nil => exact absurd rfl h
  | cons a b => rfl
theorem join_split (l : List UInt8) : join47 (split47 l) = l := by
  induction l with
  | nil => rfl
  | cons c r ih =>
    unfold split47
    by_cases hc : c = 47
    · rw [if_pos hc, join47_cons (split47_ne r), ih, hc]; rfl
    · rw [if_neg hc]
      have hne := split47_ne r
      cases hs : split47 r with
      | nil => exact absurd hs hne
      | cons a b =>
        rw [hs] at ih
        simp only [List.headD_cons, List.tail_cons]
        cases b with
        | nil => simp only [join47] at ih ⊢; rw [ih]
        | cons d e => rw [join47_cons (by simp)] at ih ⊢; rw [← ih]; rfl
theorem join_append {a b : List Seg} (ha : a ≠ []) (hb : b ≠ []) : join47 (a ++ b) = join47 a ++ 47 :: join47 b := by
  induction a with
  | nil => exact absurd rfl ha
  | cons x r ih =>
    cases r with
    | nil => rw [List.singleton_append, join47_cons hb]; rfl
    | cons y z =>
      rw [List.cons_append, join47_cons (t := y :: z ++ b) (by simp), ih (by simp), join47_cons (t := y :: z) (by simp)]
      simp
theorem split_append (p r : List UInt8) : split47 (p ++ 47 :: r) = split47 p ++ split47 r := by
  induction p with
  | nil => simp [split47]
  | cons c q ih =>
    rw [List.cons_append, split47_cons, split47_cons]
    by_cases hc : c = 47
    · rw [if_pos hc, if_pos hc, ih]; rfl
    · rw [if_neg hc, if_neg hc, ih]
      have hne := split47_ne q
      cases hs : split47 q with
      | nil => exact absurd hs hne
      | cons a b => simp
theorem split_inj {p q : List UInt8} (h : split47 p = split47 q) : p = q := by rw [← join_split p, ← join_split q, h]
theorem split_prefix {p q : List UInt8} : split47 p <+: split47 q ↔ p = q ∨ Lib.hasPrefix q (p ++ [47]) = true := by
  constructor
  · rintro ⟨t, ht⟩
    cases t with
    | nil => exact .inl (split_inj (by simpa using ht))
    | cons a b =>
      right
      have : q = p ++ 47 :: join47 (a :: b) := by
        rw [← join_split q, ← ht, join_append (split47_ne p) (by simp), join_split]
      rw [this]
      simp [Lib.hasPrefix]
  · rintro (rfl | h)
    · exact List.prefix_refl _
    · have : ∃ r, q = p ++ 47 :: r := by
        simp only [Lib.hasPrefix] at h
        obtain ⟨r, hr⟩ := List.isPrefixOf_iff_prefix.1 h
        exact ⟨r, by rw [← hr]; simp⟩
      obtain ⟨r, rfl⟩ := this
      rw [split_append]
      exact List.prefix_append _ _
theorem segs_empty {l : List UInt8} : segsOf l = [] ↔ l = [] := by
  unfold segsOf
  by_cases h : l = []
  · simp [h]
  · rw [if_neg h]; exact ⟨fun e => absurd e (split47_ne l), fun e => absurd e h⟩
theorem segs_inj {p q : List UInt8} (h : segsOf p = segsOf q) : p = q := by
  by_cases hp : p = []
  · subst hp
    exact (segs_empty.1 (h.symm.trans (segs_empty.2 rfl))).symm
  · by_cases hq : q = []
    · subst hq
      exact segs_empty.1 (h.trans (segs_empty.2 rfl))
    · unfold segsOf at h
      rw [if_neg hp, if_neg hq] at h
      exact split_inj h
theorem covers_segs {p q : List UInt8} (hp : pathOk p = true) (hq : pathOk q = true) : coversB p q = true ↔ segsOf p <+: segsOf q := by
  unfold coversB
  rw [hp, hq]
  simp only [Bool.and_self, Bool.true_and, Bool.or_eq_true, decide_eq_true_eq]
  by_cases h : p = []
  · subst h; simp [segsOf]
  · have h1 : ¬ p.isEmpty = true := by simpa using h
    by_cases h2 : q = []
    · subst h2
      constructor
      · rintro ((e | e) | e)
        · exact absurd e h1
        · exact absurd e h
        · simp [Lib.hasPrefix] at e
      · intro e
        have : segsOf p = [] := by
          have := e.length_le
          simp only [segsOf, if_pos] at this
          exact List.length_eq_zero_iff.1 (by simpa [segsOf] using this)
        exact absurd (segs_empty.1 this) h
    · unfold segsOf
      rw [if_neg h, if_neg h2, split_prefix]
      constructor
      · rintro ((e | e) | e)
        · exact absurd e h1
        · exact .inl e
        · exact .inr e
      · rintro (e | e)
        · exact .inl (.inr e)
        · exact .inr e
theorem split_length (l : List UInt8) : (split47 l).length = Lib.countByte l 47 + 1 := by
  unfold Lib.countByte
  induction l with
  | nil => rfl
  | cons c r ih =>
    unfold split47
    rw [List.count_cons]
    by_cases hc : c = 47
    · rw [if_pos hc, List.length_cons, ih, hc]; simp
    · rw [if_neg hc, List.length_cons, List.length_tail, ih, if_neg (by simpa using hc)]; omega
theorem segs_length {l : List UInt8} (h : pathOk l = true) : (segsOf l).length ≤ 4 := by
  unfold segsOf
  by_cases h0 : l = []
  · simp [h0]
  · rw [if_neg h0, split_length]
    unfold pathOk at h
    rw [Bool.or_eq_true, Bool.and_eq_true] at h
    rcases h with h | ⟨_, h⟩
    · exact absurd (by simpa using h) h0
    · have := of_decide_eq_true h; omega
end Go.Proofs.YthkcbennfochmaaGreatDoor
