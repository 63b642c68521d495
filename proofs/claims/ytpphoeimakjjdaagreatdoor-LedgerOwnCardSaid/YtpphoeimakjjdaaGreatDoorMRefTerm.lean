/-
  WALKS: the document's layer 3: terms. (The great seat alone.)
-/
import Derived.Test.YtpphoeimakjjdaaGreatDoorMTerm
import Derived.Lib.Hide
import Derived.LoopTactic
namespace Go.Proofs.YtpphoeimakjjdaaGreatDoor
open Go.RowKit

theorem rlegal_any (t : Int) (w : World) : Calls Tryz.prog 128 #[.int .i64 t] w fun e w' => e = .returned (.bool (decide (4 ≤ t ∧ t ≤ 1048576))) ∧ w' = w := by
  go_enter Tryz.func128, Tryz.ntmps128
  by_cases h : 4 ≤ t
  · go_wp2
    go_ret
    exact ⟨by simp [h], rfl⟩
  · have e : decide (4 ≤ t ∧ t ≤ 1048576) = false := decide_eq_false fun x => h x.1
    rw [e]
    go_wp2
    go_ret
    exact ⟨rfl, rfl⟩
/-- half of the steps' way: n is no more than the quotient, and less than two steps short of it -/
def Halve (y c a s : Int) : Prop := 0 ≤ a ∧ a ≤ 1048576 ∧ a * c ≤ y ∧ ((s = 0 ∧ y < (a + 1) * c) ∨ ∃ k : Nat, k ≤ 20 ∧ s = 2 ^ k ∧ y < (a + 2 * s) * c)
theorem halve_next {y c a s : Int} (hc : 1000 ≤ c) (hy : y ≤ 1048576000) (h : Halve y c a s) (hs : 0 < s) : Halve y c (if (a + s) * c ≤ y then a + s else a) (s / 2) ∧ s ≤ 1048576 := by
  obtain ⟨h1, h2, h3, h4⟩ := h
  rcases h4 with ⟨h4, _⟩ | ⟨k, hk, rfl, h5⟩
  · omega
  · have hp : (2 : Int) ^ k ≤ 1048576 := by
      have : (2 : Int) ^ k ≤ 2 ^ 20 := by exact_mod_cast Nat.pow_le_pow_right (by omega) hk
      simpa using this
    refine ⟨?_, hp⟩
    have key : ∀ b : Int, 0 ≤ b → b * c ≤ y → y < (b + 2 ^ k) * c → Halve y c b (2 ^ k / 2) := by
      intro b hb hb1 hb2
      refine ⟨hb, ?_, hb1, ?_⟩
      · have : b * 1000 ≤ b * c := Int.mul_le_mul_of_nonneg_left hc hb
        omega
      · cases k with
        | zero => exact .inl ⟨by decide, by simpa using hb2⟩
        | succ k =>
          right
          have e : (2 : Int) ^ (k + 1) / 2 = 2 ^ k := by rw [Int.pow_succ]; omega
          have e2 : 2 * (2 : Int) ^ k = 2 ^ (k + 1) := by rw [Int.pow_succ]; omega
          exact ⟨k, by omega, e, by rw [e, e2]; exact hb2⟩
    split
    · rename_i hle
      refine key _ (by omega) hle ?_
      have : a + 2 ^ k + 2 ^ k = a + 2 * 2 ^ k := by omega
      rw [this]; exact h5
    · rename_i hgt
      exact key a h1 h3 (by omega)
theorem halve_done {y c a : Int} (hc : 1000 ≤ c) (h : Halve y c a 0) : a = y / c := by
  obtain ⟨h1, h2, h3, h4⟩ := h
  rcases h4 with ⟨_, h4⟩ | ⟨k, _, e, _⟩
  · have l1 : a ≤ y / c := (Int.le_ediv_iff_mul_le (by omega)).2 h3
    have l2 : y / c < a + 1 := Int.ediv_lt_of_lt_mul (by omega) h4
    omega
  · have : (0 : Int) < 2 ^ k := Int.pow_pos (by decide)
    omega
def HalveRel (y c : Int) (n s : Value) : Prop := ∃ a b : Int, n = .int .i64 a ∧ s = .int .i64 b ∧ Halve y c a b
theorem halve_s {y c a s : Int} (h : Halve y c a s) : 0 ≤ s := by
  rcases h.2.2.2 with ⟨h, _⟩ | ⟨k, _, h, _⟩
  · omega
  · rw [h]; exact Int.le_of_lt (Int.pow_pos (by decide))
end Go.Proofs.YtpphoeimakjjdaaGreatDoor
