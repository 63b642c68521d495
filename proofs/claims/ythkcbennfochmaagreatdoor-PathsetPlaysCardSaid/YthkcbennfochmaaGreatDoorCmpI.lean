/-
  WALKS: cmp.Compare, cmp.Or at int.
-/
import Derived.Test.YthkcbennfochmaaGreatDoorProg
import Derived.Test.YthkcbennfochmaaGreatDoorBase
import Derived.Lib.Hide
namespace Go.Proofs.YthkcbennfochmaaGreatDoor
open Go.RowKit

def cmpInt (x y : Int) : Int := if x < y then -1 else if y < x then 1 else 0
theorem cmpInt_lt {x y : Int} (h : x < y) : cmpInt x y = -1 := by simp [cmpInt, h]
theorem cmpInt_gt {x y : Int} (h : y < x) : cmpInt x y = 1 := by simp [cmpInt, h, show ¬ x < y by omega]
theorem cmpInt_eq (x : Int) : cmpInt x x = 0 := by simp [cmpInt]
theorem cmpInt_cases (x y : Int) : (x < y ∧ cmpInt x y = -1) ∨ (y < x ∧ cmpInt x y = 1) ∨ (x = y ∧ cmpInt x y = 0) := by
  by_cases h1 : x < y
  · exact .inl ⟨h1, cmpInt_lt h1⟩
  · by_cases h2 : y < x
    · exact .inr (.inl ⟨h2, cmpInt_gt h2⟩)
    · exact .inr (.inr ⟨by omega, by simp [cmpInt, h1, h2]⟩)
def orInt : List Int → Int
  | [] => 0
  | x :: r => if x = 0 then orInt r else x
theorem orInt_drop (l : List Int) (k : Nat) (h : k < l.length) : orInt (l.drop k) = if l.getD k 0 = 0 then orInt (l.drop (k + 1)) else l.getD k 0 := by
  rw [List.drop_eq_getElem_cons h]
  simp [orInt, h]

/-- Due, Kind, Key -/
abbrev Item := Int × Int × Int
def encI (x : Item) : List Value := [.int .i64 x.1, .int .i64 x.2.1, .int .i64 x.2.2]
theorem compare_int (x y : Int) (w : World) : Calls Tryz.prog 29 #[.int .i64 x, .int .i64 y] w fun e w' => e = .returned (.int .i64 (cmpInt x y)) ∧ w = w' := by
  rcases cmpInt_cases x y with ⟨h, e⟩ | ⟨h, e⟩ | ⟨h, e⟩
  · rw [e]; clear e
    go_enter Tryz.func29, Tryz.ntmps29
    go_wp2
    go_ret
    exact ⟨rfl, rfl⟩
  · rw [e]; clear e
    go_enter Tryz.func29, Tryz.ntmps29
    go_wp2
    go_ret
    exact ⟨rfl, rfl⟩
  · rw [e]; clear e
    subst h
    go_enter Tryz.func29, Tryz.ntmps29
    go_wp2
    go_ret
    exact ⟨rfl, rfl⟩
set_option maxHeartbeats 400000 in
theorem or_int (b n c : Nat) (l : List Int) (w : World) (hn : n = l.length) (hs : l.length ≤ 9223372036854775807) (hc : ∀ k, k < l.length → w.cell? ⟨b, k, none⟩ = some (.int .i64 (l.getD k 0))) :
    Calls Tryz.prog 27 #[.slice (some ⟨b, 0, none⟩) n c] w fun e w' => e = .returned (.int .i64 (orInt l)) ∧ w = w' := by
  obtain rfl : l.length = n := hn.symm
  clear hn
  go_enter Tryz.func27, Tryz.ntmps27
  go_wp2
  go_loop [5, 8] (fun _ i => ∃ k : Nat, k ≤ l.length ∧ i = .int .i64 k ∧ Hid (orInt (l.drop k) = orInt l)) (fun _ i => l.length - (intOf i).toNat)
  case atStart => exact ⟨0, Nat.zero_le _, rfl, rfl⟩
  case round =>
    obtain ⟨k, hk, rfl, hd⟩ := hrel
    by_cases hlt : k < l.length
    · have h1 := hc k hlt
      clear hc
      have e := orInt_drop l k hlt
      have E := hide e
      clear e
      generalize hz : l.getD k 0 = z at *
      clear hz
      by_cases hz0 : z = 0
      · subst hz0
        go_wp2
        go_round
        case rel => exact ⟨k + 1, by omega, by go_num, by have := E.out; rw [if_pos rfl] at this; exact this.symm.trans hd⟩
        case measure => simp [intOf]; omega
      · have hb : (z != 0) = true := by simpa using hz0
        go_wp2
        go_ret
        exact ⟨by have := E.out; rw [if_neg hz0] at this; rw [← hd.out, this]; rfl, rfl⟩
    · clear hc
      go_wp2
      go_ret
      exact ⟨by rw [← hd.out, List.drop_of_length_le (by omega)]; rfl, rfl⟩

end Go.Proofs.YthkcbennfochmaaGreatDoor
