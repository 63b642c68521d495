/-
  WALKS: the document's layers 4, 5: stamps: Valid; Mode. (Lines of RefStamps and RefSmall.)
-/
import Derived.Test.YtpphoeimakjjdaaGreatDoorMStamps3
import Derived.Test.YtpphoeimakjjdaaGreatDoorMRefTerm
import Derived.LoopTactic
namespace Go.Proofs.YtpphoeimakjjdaaGreatDoor
open Go.RowKit

def modeOk (m : Int) : Prop := m = 1 ∨ m = 2
instance (m : Int) : Decidable (modeOk m) := by unfold modeOk; exact inferInstance
def UpTo (a : List Int) (i : Value) : Prop := ∃ k : Nat, k ≤ a.length ∧ i = .int .i64 (k : Int) ∧ ∀ n, n ∈ a.take k → countOk n
theorem upto_step {a : List Int} {k : Nat} (hk : k < a.length) (h : ∀ n, n ∈ a.take k → countOk n) (h2 : countOk (a.getD k 0)) : ∀ n, n ∈ a.take (k + 1) → countOk n := by
  intro n hn
  have : a.take (k + 1) = a.take k ++ [a.getD k 0] := by rw [List.take_add_one]; simp [hk]
  rw [this] at hn
  rcases List.mem_append.1 hn with e | e
  · exact h n e
  · rw [List.mem_singleton.1 e]; exact h2
set_option maxHeartbeats 1000000 in
set_option maxRecDepth 100000 in
theorem rsvalid_any {w : World} {u : Value} {a : List Int} (hu : RdN w u a) :
    Calls Tryz.prog 132 #[u] w fun e w' => e = .returned (.bool (decide (stampOk a))) ∧ w' = w := by
  have h1 : a.length ≤ 9223372036854775807 := hu.1
  obtain ⟨p, c, rfl⟩ := hu.len
  by_cases h : a.length ≤ 4
  · have h' : (a.length : Int) ≤ 4 := by omega
    go_enter Tryz.func132, Tryz.ntmps132
    go_wp2_with fail
    go_loop [3] (fun i => UpTo a i) (fun i => a.length - (intOf i).toNat)
    case atStart => exact ⟨0, Nat.zero_le _, rfl, by simp⟩
    case round =>
      obtain ⟨k, hk, rfl, hall⟩ := hrel
      by_cases hlt : k < a.length
      · have hlt' : (k : Int) < (a.length : Int) := by omega
        obtain ⟨b, o, rfl, hb, hc⟩ := hu.at_ k hlt
        have hst := upto_step hlt hall
        have hbad : ¬ countOk (a.getD k 0) → decide (stampOk a) = false := fun hn => decide_eq_false fun hs => hn (hs.2 _ (by simp [hlt]))
        generalize a.getD k 0 = x at hc hst hbad
        have HA := hide hall
        have HST := hide hst
        have HB := hide hbad
        clear hall hst hbad hu
        by_cases hx : countOk x
        · have hx1 := hx.1
          have hx2 := hx.2
          have HX := hide hx
          clear hx
          go_wp2_with fail
          go_round
          case rel => exact ⟨k + 1, by omega, by go_num, HST.out HX.out⟩
          case measure => simp [intOf]; omega
        · have hf := HB.out hx
          have HF := hide hf
          by_cases hx1 : x < 1
          · clear hx hf
            go_wp2_with fail
            go_ret
            exact ⟨by rw [HF.out]; rfl, rfl⟩
          · have hx2 : 1099511627776 < x := by unfold countOk at hx; omega
            clear hx hf
            go_wp2_with fail
            go_ret
            exact ⟨by rw [HF.out]; rfl, rfl⟩
      · obtain rfl : k = a.length := by omega
        rw [List.take_length] at hall
        have e : decide (stampOk a) = true := decide_eq_true ⟨h, hall⟩
        have HE := hide e
        clear hall hu e
        go_wp2_with fail
        go_ret
        exact ⟨by rw [HE.out]; rfl, rfl⟩
  · have h' : ¬ (a.length : Int) ≤ 4 := by omega
    have e : decide (stampOk a) = false := decide_eq_false fun x => h x.1
    rw [e]
    clear hu
    go_enter Tryz.func132, Tryz.ntmps132
    go_wp2_with fail
    go_ret
    exact ⟨rfl, rfl⟩
theorem rmode_any (m : Int) (w : World) : Calls Tryz.prog 162 #[.int .i64 m] w fun e w' => e = .returned (.bool (decide (modeOk m))) ∧ w' = w := by
  go_enter Tryz.func162, Tryz.ntmps162
  by_cases h1 : m = 1
  · subst h1
    go_wp2
    go_ret
    exact ⟨rfl, rfl⟩
  · by_cases h2 : m = 2
    · subst h2
      go_wp2
      go_ret
      exact ⟨rfl, rfl⟩
    · have e0 : decide (modeOk m) = false := decide_eq_false fun h => h.elim h1 h2
      rw [e0]
      have b1 : (m == 1) = false := by simpa using h1
      have b2 : (m == 2) = false := by simpa using h2
      clear e0 h1 h2
      go_wp2
      go_ret
      exact ⟨rfl, rfl⟩
end Go.Proofs.YtpphoeimakjjdaaGreatDoor
