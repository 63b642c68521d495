/-
  CmpI Term: see the remarks below.
-/
import Derived.Test.YtpphoeimakjjdaaGreatDoorProg
import Derived.Test.YtpphoeimakjjdaaGreatDoorMInts
import Derived.Lib.Hide
import Derived.IntWalk
import Derived.BigQuiet
/-
  WALKS: cmp.Compare, cmp.Or at int.
-/
namespace Go.Proofs.YtpphoeimakjjdaaGreatDoor
open Go.RowKit

def cmpInt (x y : Int) : Int := if x < y then -1 else if y < x then 1 else 0
theorem cmpInt_lt {x y : Int} (h : x < y) : cmpInt x y = -1 := by simp [cmpInt, h]
theorem cmpInt_gt {x y : Int} (h : y < x) : cmpInt x y = 1 := by simp [cmpInt, h, show ¬ x < y by omega]
theorem cmpInt_eq (x : Int) : cmpInt x x = 0 := by simp [cmpInt]
theorem cmpInt_cases (x y : Int) : (x < y ∧ cmpInt x y = -1) ∨ (y < x ∧ cmpInt x y = 1) ∨ (x = y ∧ cmpInt x y = 0) := by
  by_cases h1 : x < y
  · exact .inl ⟨h1, cmpInt_lt h1⟩
  · by_cases h2 : y < x
    · exact .inr (.inl ⟨h2, cmpInt_gt h2⟩)
    · exact .inr (.inr ⟨by omega, by simp [cmpInt, h1, h2]⟩)
def orInt : List Int → Int
  | [] => 0
  | x :: r => if x = 0 then orInt r else x
theorem orInt_drop (l : List Int) (k : Nat) (h : k < l.length) : orInt (l.drop k) = if l.getD k 0 = 0 then orInt (l.drop (k + 1)) else l.getD k 0 := by
  rw [List.drop_eq_getElem_cons h]
  simp [orInt, h]

/-- Due, Kind, Key -/
abbrev Item := Int × Int × Int
def encI (x : Item) : List Value := [.int .i64 x.1, .int .i64 x.2.1, .int .i64 x.2.2]
theorem compare_int (x y : Int) (w : World) : Calls Tryz.prog 157 #[.int .i64 x, .int .i64 y] w fun e w' => e = .returned (.int .i64 (cmpInt x y)) ∧ w = w' := by
  rcases cmpInt_cases x y with ⟨h, e⟩ | ⟨h, e⟩ | ⟨h, e⟩
  · rw [e]; clear e
    go_enter Tryz.func157, Tryz.ntmps157
    go_wp2
    go_ret
    exact ⟨rfl, rfl⟩
  · rw [e]; clear e
    go_enter Tryz.func157, Tryz.ntmps157
    go_wp2
    go_ret
    exact ⟨rfl, rfl⟩
  · rw [e]; clear e
    subst h
    go_enter Tryz.func157, Tryz.ntmps157
    go_wp2
    go_ret
    exact ⟨rfl, rfl⟩
end Go.Proofs.YtpphoeimakjjdaaGreatDoor
/-
  WALKS: layer 3: terms, and the document's.
-/
namespace Go.Proofs.YtpphoeimakjjdaaGreatDoor
open Go.RowKit

/-- how long a holder may count on a term -/
def shrinkI (t rho : Int) : Int := t * (1000 - rho) / (1000 + rho)
def termOk (t rho : Int) : Prop := 0 ≤ t ∧ t ≤ 1048576 ∧ 0 ≤ rho ∧ rho ≤ 999
instance (t rho : Int) : Decidable (termOk t rho) := by unfold termOk; exact inferInstance
theorem prod_bound {t rho : Int} (h : termOk t rho) : 0 ≤ t * (1000 - rho) ∧ t * (1000 - rho) ≤ 1048576000 := by
  obtain ⟨h1, h2, h3, h4⟩ := h
  refine ⟨Int.mul_nonneg h1 (by omega), ?_⟩
  calc t * (1000 - rho) ≤ 1048576 * (1000 - rho) := Int.mul_le_mul_of_nonneg_right h2 (by omega)
    _ ≤ 1048576 * 1000 := Int.mul_le_mul_of_nonneg_left (by omega) (by omega)
theorem shrinkI_bound {t rho : Int} (h : termOk t rho) : 0 ≤ shrinkI t rho ∧ shrinkI t rho ≤ 1048576 := by
  have hb := prod_bound h
  obtain ⟨h1, h2, h3, h4⟩ := h
  refine ⟨Int.ediv_nonneg hb.1 (by omega), ?_⟩
  unfold shrinkI
  have : t * (1000 - rho) / (1000 + rho) < 1048577 := Int.ediv_lt_of_lt_mul (by omega) (by omega)
  omega

theorem legal_any (t : Int) (w : World) : Calls Tryz.prog 115 #[.int .i64 t] w fun e w' => e = .returned (.bool (decide (4 ≤ t ∧ t ≤ 1048576))) ∧ w' = w := by
  go_enter Tryz.func115, Tryz.ntmps115
  by_cases h : 4 ≤ t
  · go_wp2
    go_ret
    exact ⟨by simp [h], rfl⟩
  · have e : decide (4 ≤ t ∧ t ≤ 1048576) = false := decide_eq_false fun x => h x.1
    rw [e]
    go_wp2
    go_ret
    exact ⟨rfl, rfl⟩
end Go.Proofs.YtpphoeimakjjdaaGreatDoor
