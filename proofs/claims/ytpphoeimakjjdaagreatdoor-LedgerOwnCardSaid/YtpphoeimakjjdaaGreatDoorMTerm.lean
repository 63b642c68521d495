/-
  WALKS: layer 3: terms, and the document's.
-/
import Derived.Test.YtpphoeimakjjdaaGreatDoorMResC
import Derived.Test.YtpphoeimakjjdaaGreatDoorProg
import Derived.IntWalk
import Derived.BigQuiet
namespace Go.Proofs.YtpphoeimakjjdaaGreatDoor
open Go.RowKit

/-- how long a holder may count on a term -/
def shrinkI (t rho : Int) : Int := t * (1000 - rho) / (1000 + rho)
def termOk (t rho : Int) : Prop := 0 ≤ t ∧ t ≤ 1048576 ∧ 0 ≤ rho ∧ rho ≤ 999
instance (t rho : Int) : Decidable (termOk t rho) := by unfold termOk; exact inferInstance
theorem prod_bound {t rho : Int} (h : termOk t rho) : 0 ≤ t * (1000 - rho) ∧ t * (1000 - rho) ≤ 1048576000 := by
  obtain ⟨h1, h2, h3, h4⟩ := h
  refine ⟨Int.mul_nonneg h1 (by omega), ?_⟩
  calc t * (1000 - rho) ≤ 1048576 * (1000 - rho) := Int.mul_le_mul_of_nonneg_right h2 (by omega)
    _ ≤ 1048576 * 1000 := Int.mul_le_mul_of_nonneg_left (by omega) (by omega)
theorem shrinkI_bound {t rho : Int} (h : termOk t rho) : 0 ≤ shrinkI t rho ∧ shrinkI t rho ≤ 1048576 := by
  have hb := prod_bound h
  obtain ⟨h1, h2, h3, h4⟩ := h
  refine ⟨Int.ediv_nonneg hb.1 (by omega), ?_⟩
  unfold shrinkI
  have : t * (1000 - rho) / (1000 + rho) < 1048577 := Int.ediv_lt_of_lt_mul (by omega) (by omega)
  omega

theorem legal_any (t : Int) (w : World) : Calls Tryz.prog 115 #[.int .i64 t] w fun e w' => e = .returned (.bool (decide (4 ≤ t ∧ t ≤ 1048576))) ∧ w' = w := by
  go_enter Tryz.func115, Tryz.ntmps115
  by_cases h : 4 ≤ t
  · go_wp2
    go_ret
    exact ⟨by simp [h], rfl⟩
  · have e : decide (4 ≤ t ∧ t ≤ 1048576) = false := decide_eq_false fun x => h x.1
    rw [e]
    go_wp2
    go_ret
    exact ⟨rfl, rfl⟩
end Go.Proofs.YtpphoeimakjjdaaGreatDoor
