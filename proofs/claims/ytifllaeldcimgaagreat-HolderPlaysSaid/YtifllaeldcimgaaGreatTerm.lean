/-
  WALKS: layer 3: terms, and the document's.
-/
import Derived.Test.YtifllaeldcimgaaGreatBase
import Derived.Test.YtifllaeldcimgaaGreatProg
import Derived.IntWalk
import Derived.BigQuiet
namespace Go.Proofs.YtifllaeldcimgaaGreat
open Go.RowKit

/-- how long a holder may count on a term -/
def shrinkI (t rho : Int) : Int := t * (1000 - rho) / (1000 + rho)
def termOk (t rho : Int) : Prop := 0 ≤ t ∧ t ≤ 1048576 ∧ 0 ≤ rho ∧ rho ≤ 999
instance (t rho : Int) : Decidable (termOk t rho) := by unfold termOk; exact inferInstance
theorem prod_bound {t rho : Int} (h : termOk t rho) : 0 ≤ t * (1000 - rho) ∧ t * (1000 - rho) ≤ 1048576000 := by
  obtain ⟨h1, h2, h3, h4⟩ := h
  refine ⟨Int.mul_nonneg h1 (by omega), ?_⟩
  calc t * (1000 - rho) ≤ 1048576 * (1000 - rho) := Int.mul_le_mul_of_nonneg_right h2 (by omega)
    _ ≤ 1048576 * 1000 := Int.mul_le_mul_of_nonneg_left (by omega) (by omega)
theorem shrinkI_bound {t rho : Int} (h : termOk t rho) : 0 ≤ shrinkI t rho ∧ shrinkI t rho ≤ 1048576 := by
  have hb := prod_bound h
  obtain ⟨h1, h2, h3, h4⟩ := h
  refine ⟨Int.ediv_nonneg hb.1 (by omega), ?_⟩
  unfold shrinkI
  have : t * (1000 - rho) / (1000 + rho) < 1048577 := Int.ediv_lt_of_lt_mul (by omega) (by omega)
  omega

theorem legal_any (t : Int) (w : World) : Calls Tryz.prog 35 #[.int .i64 t] w fun e w' => e = .returned (.bool (decide (4 ≤ t ∧ t ≤ 1048576))) ∧ w' = w := by
  go_enter Tryz.func35, Tryz.ntmps35
  by_cases h : 4 ≤ t
  · go_wp2
    go_ret
    exact ⟨by simp [h], rfl⟩
  · have e : decide (4 ≤ t ∧ t ≤ 1048576) = false := decide_eq_false fun x => h x.1
    rw [e]
    go_wp2
    go_ret
    exact ⟨rfl, rfl⟩
theorem shrink_ok {t rho : Int} (h : termOk t rho) (w : World) : Calls Tryz.prog 64 #[.int .i64 t, .int .i64 rho] w fun e w' =>
    e = .returned (.tuple #[.int .i64 (shrinkI t rho), .int .i64 0]) ∧ w' = w := by
  go_enter Tryz.func64, Tryz.ntmps64
  have hb := prod_bound h
  have hs := shrinkI_bound h
  obtain ⟨h1, h2, h3, h4⟩ := h
  have e1 : IntKind.i64.wrap (1000 - rho) = 1000 - rho := IntWalk.i64_in _ (by omega)
  have e2 : IntKind.i64.wrap (1000 + rho) = 1000 + rho := IntWalk.i64_in _ (by omega)
  have e3 : IntKind.i64.wrap (t * (1000 - rho)) = t * (1000 - rho) := IntWalk.i64_in _ (by omega)
  have e5 : (t * (1000 - rho)).tdiv (1000 + rho) = shrinkI t rho := Int.tdiv_eq_ediv_of_nonneg hb.1
  have e4 : IntKind.i64.wrap (shrinkI t rho) = shrinkI t rho := IntWalk.i64_in _ (by omega)
  go_wp2
  go_ret2
  exact ⟨rfl, rfl⟩
theorem shrink_bad {t rho : Int} (h : ¬ termOk t rho) (w : World) : Calls Tryz.prog 64 #[.int .i64 t, .int .i64 rho] w fun e w' =>
    e = .returned (.tuple #[.int .i64 0, .int .i64 2]) ∧ w' = w := by
  go_enter Tryz.func64, Tryz.ntmps64
  have h' : ¬ (((0 ≤ t ∧ t ≤ 1048576) ∧ 0 ≤ rho) ∧ rho ≤ 999) := fun x => h ⟨x.1.1.1, x.1.1.2, x.1.2, x.2⟩
  go_wp2
  all_goals first | contradiction | (go_ret2; exact ⟨rfl, rfl⟩)
end Go.Proofs.YtifllaeldcimgaaGreat
