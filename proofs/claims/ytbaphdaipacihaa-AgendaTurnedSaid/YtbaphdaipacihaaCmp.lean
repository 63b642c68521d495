/-
  WALKS: cmp.Compare, cmp.Or at int; agenda.inOrder; the heap's Less and Swap.
-/
import Derived.Test.YtbaphdaipacihaaProg
import Derived.Test.YtbaphdaipacihaaItem
import Derived.StillTailTactics
import Derived.Deep.RegionHeld3
import Derived.BigRegion
namespace Go.Proofs.Ytbaphdaipacihaa
open Go.RowKit

theorem compare_int (x y : Int) (w : World) : Calls Try.prog 38 #[.int .i64 x, .int .i64 y] w fun e w' => e = .returned (.int .i64 (cmpInt x y)) ∧ w = w' := by
  rcases cmpInt_cases x y with ⟨h, e⟩ | ⟨h, e⟩ | ⟨h, e⟩
  · rw [e]; clear e
    go_enter Try.func38, Try.ntmps38
    go_wp2
    go_ret
    exact ⟨rfl, rfl⟩
  · rw [e]; clear e
    go_enter Try.func38, Try.ntmps38
    go_wp2
    go_ret
    exact ⟨rfl, rfl⟩
  · rw [e]; clear e
    subst h
    go_enter Try.func38, Try.ntmps38
    go_wp2
    go_ret
    exact ⟨rfl, rfl⟩
theorem compare_kind (x y : Int) (w : World) : Calls Try.prog 39 #[.int .i64 x, .int .i64 y] w fun e w' => e = .returned (.int .i64 (cmpInt x y)) ∧ w = w' := by
  rcases cmpInt_cases x y with ⟨h, e⟩ | ⟨h, e⟩ | ⟨h, e⟩
  · rw [e]; clear e
    go_enter Try.func39, Try.ntmps39
    go_wp2
    go_ret
    exact ⟨rfl, rfl⟩
  · rw [e]; clear e
    go_enter Try.func39, Try.ntmps39
    go_wp2
    go_ret
    exact ⟨rfl, rfl⟩
  · rw [e]; clear e
    subst h
    go_enter Try.func39, Try.ntmps39
    go_wp2
    go_ret
    exact ⟨rfl, rfl⟩

set_option maxHeartbeats 400000 in
theorem or_int (b n c : Nat) (l : List Int) (w : World) (hn : n = l.length) (hs : l.length ≤ 9223372036854775807) (hc : ∀ k, k < l.length → w.cell? ⟨b, k, none⟩ = some (.int .i64 (l.getD k 0))) :
    Calls Try.prog 37 #[.slice (some ⟨b, 0, none⟩) n c] w fun e w' => e = .returned (.int .i64 (orInt l)) ∧ w = w' := by
  obtain rfl : l.length = n := hn.symm
  clear hn
  go_enter Try.func37, Try.ntmps37
  go_wp2
  go_loop [5, 8] (fun _ i => ∃ k : Nat, k ≤ l.length ∧ i = .int .i64 k ∧ Hid (orInt (l.drop k) = orInt l)) (fun _ i => l.length - (intOf i).toNat)
  case atStart => exact ⟨0, Nat.zero_le _, rfl, rfl⟩
  case round =>
    obtain ⟨k, hk, rfl, hd⟩ := hrel
    by_cases hlt : k < l.length
    · have h1 := hc k hlt
      clear hc
      have e := orInt_drop l k hlt
      have E := hide e
      clear e
      generalize hz : l.getD k 0 = z at *
      clear hz
      by_cases hz0 : z = 0
      · subst hz0
        go_wp2
        go_round
        case rel => exact ⟨k + 1, by omega, by go_num, by have := E.out; rw [if_pos rfl] at this; exact this.symm.trans hd⟩
        case measure => simp [intOf]; omega
      · have hb : (z != 0) = true := by simpa using hz0
        go_wp2
        go_ret
        exact ⟨by have := E.out; rw [if_neg hz0] at this; rw [← hd.out, this]; rfl, rfl⟩
    · clear hc
      go_wp2
      go_ret
      exact ⟨by rw [← hd.out, List.drop_of_length_le (by omega)]; rfl, rfl⟩

theorem get3 {w : World} {b : Nat} {x y z : Int} (h0 : w.cell? ⟨b, 0, none⟩ = some (.int .i64 x)) (h1 : w.cell? ⟨b, 1, none⟩ = some (.int .i64 y)) (h2 : w.cell? ⟨b, 2, none⟩ = some (.int .i64 z)) :
    ∀ k, k < [x, y, z].length → w.cell? ⟨b, k, none⟩ = some (.int .i64 ([x, y, z].getD k 0)) := by
  intro k hk
  match k, hk with
  | 0, _ => exact h0
  | 1, _ => exact h1
  | 2, _ => exact h2
def itv (x : Item) : Value := .agg #[.int .i64 x.1, .int .i64 x.2.1, .int .i64 x.2.2]
set_option maxHeartbeats 400000 in
set_option maxRecDepth 100000 in
theorem inOrder_raw (a1 a2 a3 b1 b2 b3 : Int) (w : World) :
    Calls Try.prog 30 #[.agg #[.int .i64 a1, .int .i64 a2, .int .i64 a3], .agg #[.int .i64 b1, .int .i64 b2, .int .i64 b3]] w
      fun e w' => e = .returned (.int .i64 (orInt [cmpInt a1 b1, cmpInt a2 b2, cmpInt a3 b3])) ∧ Gr w w' := by
  go_enter Try.func30, Try.ntmps30
  go_wp2_with fail
  go_region_held3 (fun w' => w'.cell? ⟨w.heap.size, 0, none⟩ = some (.int .i64 a1) ∧ w'.cell? ⟨w.heap.size, 1, none⟩ = some (.int .i64 a2) ∧ w'.cell? ⟨w.heap.size, 2, none⟩ = some (.int .i64 a3) ∧ w'.cell? ⟨w.heap.size + 1, 0, none⟩ = some (.int .i64 b1) ∧ w'.cell? ⟨w.heap.size + 1, 1, none⟩ = some (.int .i64 b2) ∧ w'.cell? ⟨w.heap.size + 1, 2, none⟩ = some (.int .i64 b3))
    (first | go_keep)
    (first | (go_at_call 38; refine (compare_int _ _ _).mono ?_; rintro e w' ⟨rfl, rfl⟩) | (go_at_call 39; refine (compare_kind _ _ _).mono ?_; rintro e w' ⟨rfl, rfl⟩) | (go_at_call 37; refine (or_int _ 3 _ [cmpInt a1 b1, cmpInt a2 b2, cmpInt a3 b3] _ rfl (by simp) (get3 (by go_simp) (by go_simp) (by go_simp))).mono ?_; rintro e w' ⟨rfl, rfl⟩))
  go_wp2
  go_ret
  exact ⟨rfl, by repeat (first | exact Gr.refl _ | apply Gr.drew | apply Gr.alloc)⟩
theorem inOrder_any (x y : Item) (w : World) : Calls Try.prog 30 #[itv x, itv y] w fun e w' => e = .returned (.int .i64 (ordI x y)) ∧ Gr w w' := inOrder_raw _ _ _ _ _ _ w

set_option maxHeartbeats 400000 in
set_option maxRecDepth 100000 in
theorem less_raw (g n cap i j : Nat) (a1 a2 a3 b1 b2 b3 : Int) (w : World) (hi : i < n) (hj : j < n)
   (c1 : w.cell? ⟨g, i * 3, none⟩ = some (.int .i64 a1)) (c2 : w.cell? ⟨g, i * 3 + 1, none⟩ = some (.int .i64 a2)) (c3 : w.cell? ⟨g, i * 3 + 2, none⟩ = some (.int .i64 a3))
   (d1 : w.cell? ⟨g, j * 3, none⟩ = some (.int .i64 b1)) (d2 : w.cell? ⟨g, j * 3 + 1, none⟩ = some (.int .i64 b2)) (d3 : w.cell? ⟨g, j * 3 + 2, none⟩ = some (.int .i64 b3)) :
    Calls Try.prog 75 #[.slice (some ⟨g, 0, none⟩) n cap, .int .i64 i, .int .i64 j] w
      fun e w' => e = .returned (.bool (decide (orInt [cmpInt a1 b1, cmpInt a2 b2, cmpInt a3 b3] < 0))) ∧ Gr w w' := by
  have i0 : (0 : Int) ≤ (i : Int) := by omega
  have i1 : (i : Int) < (n : Int) := by omega
  have j0 : (0 : Int) ≤ (j : Int) := by omega
  have j1 : (j : Int) < (n : Int) := by omega
  go_enter Try.func75, Try.ntmps75
  go_wp2_with fail
  go_still_tail 8, (by kernel_rfl)
  clear c1 c2 c3 d1 d2 d3
  go_wp2_with (go_at_call 30; refine (inOrder_raw _ _ _ _ _ _ _).mono ?_; rintro e w' ⟨rfl, hg⟩)
  go_ret
  exact ⟨rfl, ((Gr.refl _).drew).trans hg⟩

set_option maxHeartbeats 400000 in
set_option maxRecDepth 100000 in
theorem swap_raw (g n cap i j : Nat) (a1 a2 a3 b1 b2 b3 : Int) (w : World) (hi : i < n) (hj : j < n) (hij : i ≠ j)
   (c1 : w.cell? ⟨g, i * 3, none⟩ = some (.int .i64 a1)) (c2 : w.cell? ⟨g, i * 3 + 1, none⟩ = some (.int .i64 a2)) (c3 : w.cell? ⟨g, i * 3 + 2, none⟩ = some (.int .i64 a3))
   (d1 : w.cell? ⟨g, j * 3, none⟩ = some (.int .i64 b1)) (d2 : w.cell? ⟨g, j * 3 + 1, none⟩ = some (.int .i64 b2)) (d3 : w.cell? ⟨g, j * 3 + 2, none⟩ = some (.int .i64 b3))
   (fz : ∀ o, w.frozen? ⟨g, o, none⟩ = false) :
    Calls Try.prog 76 #[.slice (some ⟨g, 0, none⟩) n cap, .int .i64 i, .int .i64 j] w
      fun e w' => e = .returned (.tuple #[]) ∧ w' = ((((((w.setCell ⟨g, i * 3, none⟩ (.int .i64 b1)).setCell ⟨g, i * 3 + 1, none⟩ (.int .i64 b2)).setCell ⟨g, i * 3 + 2, none⟩ (.int .i64 b3)).setCell ⟨g, j * 3, none⟩ (.int .i64 a1)).setCell ⟨g, j * 3 + 1, none⟩ (.int .i64 a2)).setCell ⟨g, j * 3 + 2, none⟩ (.int .i64 a3)).drew := by
  have i0 : (0 : Int) ≤ (i : Int) := by omega
  have i1 : (i : Int) < (n : Int) := by omega
  have j0 : (0 : Int) ≤ (j : Int) := by omega
  have j1 : (j : Int) < (n : Int) := by omega
  have n1 : i * 3 ≠ j * 3 := by omega
  have n2 : i * 3 ≠ j * 3 + 1 := by omega
  have n3 : i * 3 ≠ j * 3 + 2 := by omega
  have n4 : i * 3 + 1 ≠ j * 3 := by omega
  have n5 : i * 3 + 1 ≠ j * 3 + 2 := by omega
  have n6 : i * 3 + 2 ≠ j * 3 := by omega
  have n7 : i * 3 + 2 ≠ j * 3 + 1 := by omega
  go_enter Try.func76, Try.ntmps76
  go_wp2_with fail
  go_region
  go_end0
  exact ⟨rfl, rfl⟩
end Go.Proofs.Ytbaphdaipacihaa
