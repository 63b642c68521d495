/-
  WALK: the law AgendaNames.
-/
import Derived.Test.YtbaphdaipacihaaAgAwake
namespace Go.Proofs.Ytbaphdaipacihaa
open Go.RowKit Go.Sort Go.Shelf

def listN (k : Nat) : List Item := (List.range k).map fun i : Nat => (((i : Nat) : Int), 1, ((i : Nat) : Int))
theorem listN_put : ∀ k, k < 32 → putI (listN k) ((k : Int), 1, (k : Int)) = (listN (k + 1), 0) := by decide +kernel
theorem listN_len (k : Nat) : (listN k).length = k := by simp [listN]
theorem last1 : putI (listN 32) (0, 1, 32) = (listN 32, 51) := by decide +kernel
def listZ : List Item := insI (99, 1, 0) (dropI (listN 32) 1 0)
theorem last2 : putI (listN 32) (99, 1, 0) = (listZ, 0) := by decide +kernel
theorem last3 : putI listZ (4611686018427387905, 1, 0) = (listZ, 2) := by decide +kernel
theorem last4 : putI listZ (0, 5, 0) = (listZ, 2) := by decide +kernel
theorem last5 : (32 : Int) = (listZ.length : Int) := by decide +kernel

set_option maxHeartbeats 2000000 in
set_option maxRecDepth 100000 in
theorem names_any (w : World) : Calls Try.prog 3 #[] w fun e w' => e = .returned (.bool true) ∧ Mod [] w w' := by
  go_enter Try.func3, Try.ntmps3
  go_wp2_with fail
  refine (new_any w).mono ?_
  rintro e w1 ⟨rfl, hr, hg1, hs1⟩
  have hA : Ag w1 w.heap.size [] [] := ⟨⟨_, [], hr, .refl _, rfl⟩, List.Pairwise.nil, List.Pairwise.nil, by simp⟩
  have s1 : Since w w1 w.heap.size [] := ⟨hg1.mod [], by simp⟩
  clear hr hg1 hs1
  generalize w.heap.size = pa at hA s1 ⊢
  go_wp2_with fail
  refine (awake_any w1).mono ?_
  rintro e w2 ⟨rfl, hm2⟩
  have hA2 := hA.mod hm2 (by simp) (by simp)
  have s2 := s1.then hm2
  clear hA s1 hm2
  go_wp2_with fail
  go_loopw [2] (fun i wr => ∃ k : Nat, k ≤ 32 ∧ i = .int .i64 k ∧ ∃ own, Ag wr pa own (listN k) ∧ Since w wr pa own) (fun i _ => 32 - (intOf i).toNat)
  case atStart => exact ⟨0, by omega, rfl, [], hA2, s2⟩
  case round =>
    clear hA2 s2
    obtain ⟨k, hk, rfl, own, hA, s⟩ := hrel
    by_cases hlt : k < 32
    · go_wp2_with fail
      refine (put_eq hA k 1 k (listN_put k hlt)).mono ?_
      rintro e w3 ⟨rfl, own3, hA3, ht3⟩
      have s3 := s.to ht3
      clear hA s ht3
      go_wp2_with fail
      go_roundw
      case rel => exact ⟨k + 1, by omega, by go_num, own3, hA3, s3⟩
      case measure => simp [intOf]; omega
    · obtain rfl : k = 32 := by omega
      go_wp2_with fail
      refine (put_eq hA 0 1 32 last1).mono ?_
      rintro e w3 ⟨rfl, own3, hA3, ht3⟩
      have s3 := s.to ht3
      clear hA s ht3
      go_wp2_with fail
      refine (put_eq hA3 99 1 0 last2).mono ?_
      rintro e w4 ⟨rfl, own4, hA4, ht4⟩
      have s4 := s3.to ht4
      clear hA3 s3 ht4
      go_wp2_with fail
      refine (put_eq hA4 4611686018427387905 1 0 last3).mono ?_
      rintro e w5 ⟨rfl, own5, hA5, ht5⟩
      have s5 := s4.to ht5
      clear hA4 s4 ht5
      go_wp2_with fail
      refine (put_eq hA5 0 5 0 last4).mono ?_
      rintro e w6 ⟨rfl, own6, hA6, ht6⟩
      have s6 := s5.to ht6
      clear hA5 s5 ht6
      go_wp2_with fail
      refine (aglen hA6 last5).mono ?_
      rintro e w7 ⟨rfl, rfl⟩
      go_wp2_with fail
      go_ret
      exact ⟨rfl, s6.mod⟩
end Go.Proofs.Ytbaphdaipacihaa
