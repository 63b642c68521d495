/-
  WALKS: the document's layer 3: terms. (The great seat alone.)
-/
import Derived.Test.YtifllaeldcimgaaGreatTerm
import Derived.Lib.Hide
import Derived.LoopTactic
namespace Go.Proofs.YtifllaeldcimgaaGreat
open Go.RowKit

theorem rlegal_any (t : Int) (w : World) : Calls Tryz.prog 29 #[.int .i64 t] w fun e w' => e = .returned (.bool (decide (4 ≤ t ∧ t ≤ 1048576))) ∧ w' = w := by
  go_enter Tryz.func29, Tryz.ntmps29
  by_cases h : 4 ≤ t
  · go_wp2
    go_ret
    exact ⟨by simp [h], rfl⟩
  · have e : decide (4 ≤ t ∧ t ≤ 1048576) = false := decide_eq_false fun x => h x.1
    rw [e]
    go_wp2
    go_ret
    exact ⟨rfl, rfl⟩
/-- half of the steps' way: n is no more than the quotient, and less than two steps short of it -/
def Halve (y c a s : Int) : Prop := 0 ≤ a ∧ a ≤ 1048576 ∧ a * c ≤ y ∧ ((s = 0 ∧ y < (a + 1) * c) ∨ ∃ k : Nat, k ≤ 20 ∧ s = 2 ^ k ∧ y < (a + 2 * s) * c)
theorem halve_next {y c a s : Int} (hc : 1000 ≤ c) (hy : y ≤ 1048576000) (h : Halve y c a s) (hs : 0 < s) : Halve y c (if (a + s) * c ≤ y then a + s else a) (s / 2) ∧ s ≤ 1048576 := by
  obtain ⟨h1, h2, h3, h4⟩ := h
  rcases h4 with ⟨h4, _⟩ | ⟨k, hk, rfl, h5⟩
  · omega
  · have hp : (2 : Int) ^ k ≤ 1048576 := by
      have : (2 : Int) ^ k ≤ 2 ^ 20 := by exact_mod_cast Nat.pow_le_pow_right (by omega) hk
      simpa using this
    refine ⟨?_, hp⟩
    have key : ∀ b : Int, 0 ≤ b → b * c ≤ y → y < (b + 2 ^ k) * c → Halve y c b (2 ^ k / 2) := by
      intro b hb hb1 hb2
      refine ⟨hb, ?_, hb1, ?_⟩
      · have : b * 1000 ≤ b * c := Int.mul_le_mul_of_nonneg_left hc hb
        omega
      · cases k with
        | zero => exact .inl ⟨by decide, by simpa using hb2⟩
        | succ k =>
          right
          have e : (2 : Int) ^ (k + 1) / 2 = 2 ^ k := by rw [Int.pow_succ]; omega
          have e2 : 2 * (2 : Int) ^ k = 2 ^ (k + 1) := by rw [Int.pow_succ]; omega
          exact ⟨k, by omega, e, by rw [e, e2]; exact hb2⟩
    split
    · rename_i hle
      refine key _ (by omega) hle ?_
      have : a + 2 ^ k + 2 ^ k = a + 2 * 2 ^ k := by omega
      rw [this]; exact h5
    · rename_i hgt
      exact key a h1 h3 (by omega)
theorem halve_done {y c a : Int} (hc : 1000 ≤ c) (h : Halve y c a 0) : a = y / c := by
  obtain ⟨h1, h2, h3, h4⟩ := h
  rcases h4 with ⟨_, h4⟩ | ⟨k, _, e, _⟩
  · have l1 : a ≤ y / c := (Int.le_ediv_iff_mul_le (by omega)).2 h3
    have l2 : y / c < a + 1 := Int.ediv_lt_of_lt_mul (by omega) h4
    omega
  · have : (0 : Int) < 2 ^ k := Int.pow_pos (by decide)
    omega
def HalveRel (y c : Int) (n s : Value) : Prop := ∃ a b : Int, n = .int .i64 a ∧ s = .int .i64 b ∧ Halve y c a b
theorem halve_s {y c a s : Int} (h : Halve y c a s) : 0 ≤ s := by
  rcases h.2.2.2 with ⟨h, _⟩ | ⟨k, _, h, _⟩
  · omega
  · rw [h]; exact Int.le_of_lt (Int.pow_pos (by decide))
set_option maxHeartbeats 1000000 in
set_option maxRecDepth 100000 in
theorem rshrink_ok {t rho : Int} (h : termOk t rho) (w : World) : Calls Tryz.prog 31 #[.int .i64 t, .int .i64 rho] w fun e w' =>
    e = .returned (.tuple #[.int .i64 (shrinkI t rho), .int .i64 0]) ∧ w' = w := by
  have hb := prod_bound h
  obtain ⟨h1, h2, h3, h4⟩ := h
  have hS : shrinkI t rho = t * (1000 - rho) / (1000 + rho) := rfl
  have hc : 1000 ≤ 1000 + rho := by omega
  have hst : Halve (t * (1000 - rho)) (1000 + rho) 0 1048576 := by
    refine ⟨by omega, by omega, by omega, .inr ⟨20, by omega, by decide, ?_⟩⟩
    have : (2097152 : Int) * 1000 ≤ 2097152 * (1000 + rho) := Int.mul_le_mul_of_nonneg_left (by omega) (by omega)
    omega
  have e1 : IntKind.i64.wrap (1000 - rho) = 1000 - rho := IntWalk.i64_in _ (by omega)
  have e2 : IntKind.i64.wrap (1000 + rho) = 1000 + rho := IntWalk.i64_in _ (by omega)
  have e3 : IntKind.i64.wrap (t * (1000 - rho)) = t * (1000 - rho) := IntWalk.i64_in _ (by omega)
  generalize hy : t * (1000 - rho) = y at hb hS hst e3
  have HY := Lib.hid hy
  have HE3 := Lib.hid e3
  have HS := Lib.hid hS
  have HST := Lib.hid hst
  clear hy e3 hS hst
  go_enter Tryz.func31, Tryz.ntmps31
  go_wp2
  go_loop [6, 7] (fun n s => HalveRel y (1000 + rho) n s) (fun _ s => (intOf s).toNat)
  case atStart => exact ⟨0, 1048576, rfl, rfl, HST.out⟩
  case round =>
    obtain ⟨a, s, rfl, rfl, hr⟩ := hrel
    by_cases hs : 0 < s
    · obtain ⟨hn, hsm⟩ := halve_next hc hb.2 hr hs
      have ha := hr.1
      have ha2 := hr.2.1
      have m1 : (0 : Int) ≤ (a + s) * (1000 + rho) := Int.mul_nonneg (by omega) (by omega)
      have m2 : (a + s) * (1000 + rho) ≤ 2097152 * 1999 := Int.le_trans (Int.mul_le_mul_of_nonneg_right (by omega) (by omega)) (Int.mul_le_mul_of_nonneg_left (by omega) (by omega))
      have e4 : IntKind.i64.wrap (a + s) = a + s := IntWalk.i64_in _ (by omega)
      have e5 : IntKind.i64.wrap ((a + s) * (1000 + rho)) = (a + s) * (1000 + rho) := IntWalk.i64_in _ (by omega)
      have hdiv : s.tdiv 2 = s / 2 := Int.tdiv_eq_ediv_of_nonneg (by omega)
      have e6 : IntKind.i64.wrap (s / 2) = s / 2 := IntWalk.i64_in _ (by omega)
      have HN := Lib.hid hn
      have e3 : IntKind.i64.wrap (t * (1000 - rho)) = t * (1000 - rho) := by rw [HY.out]; exact HE3.out
      clear hn hr m1 m2
      by_cases hx : (a + s) * (1000 + rho) ≤ t * (1000 - rho)
      · have HN2 := Lib.hid (show Halve y (1000 + rho) (a + s) (s / 2) by have := HN.out; rwa [if_pos (by rw [← HY.out]; exact hx)] at this)
        clear HN
        go_wp2
        go_round
        case rel => exact ⟨_, _, rfl, rfl, HN2.out⟩
        case measure => simp [intOf]; omega
      · have HN2 := Lib.hid (show Halve y (1000 + rho) a (s / 2) by have := HN.out; rwa [if_neg (by rw [← HY.out]; exact hx)] at this)
        have hx2 : t * (1000 - rho) < (a + s) * (1000 + rho) := by omega
        clear HN hx
        go_wp2
        go_round
        case rel => exact ⟨_, _, rfl, rfl, HN2.out⟩
        case measure => simp [intOf]; omega
    · have := halve_s hr
      obtain rfl : s = 0 := by omega
      have hd := halve_done hc hr
      rw [← HS.out] at hd
      have HD := Lib.hid hd
      clear hd hr
      go_wp2
      go_ret2
      exact ⟨by rw [← HD.out]; rfl, rfl⟩
theorem rshrink_bad {t rho : Int} (h : ¬ termOk t rho) (w : World) : Calls Tryz.prog 31 #[.int .i64 t, .int .i64 rho] w fun e w' =>
    e = .returned (.tuple #[.int .i64 0, .int .i64 2]) ∧ w' = w := by
  go_enter Tryz.func31, Tryz.ntmps31
  have h' : ¬ (((0 ≤ t ∧ t ≤ 1048576) ∧ 0 ≤ rho) ∧ rho ≤ 999) := fun x => h ⟨x.1.1.1, x.1.1.2, x.1.2, x.2⟩
  go_wp2
  all_goals first | contradiction | (go_ret2; exact ⟨rfl, rfl⟩)
end Go.Proofs.YtifllaeldcimgaaGreat
