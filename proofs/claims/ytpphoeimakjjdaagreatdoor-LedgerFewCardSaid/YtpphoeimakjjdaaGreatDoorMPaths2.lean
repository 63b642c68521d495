/-
  WALKS: layer 1: paths: Valid, Covers.
-/
import Derived.Test.YtpphoeimakjjdaaGreatDoorMPaths
import Derived.Test.YtpphoeimakjjdaaGreatDoorShelfStr
import Derived.BigQuiet
import Derived.Deep.RegionWith
namespace Go.Proofs.YtpphoeimakjjdaaGreatDoor
open Go.RowKit Go.Shelf

def pathOk (l : List UInt8) : Bool := l.isEmpty || (fineB l && decide ((Lib.countByte l 47 : Int) < 4))
theorem count_any (s : ByteArray) (c : UInt8) (w : World) : Calls Tryz.prog 172 #[.string s, .string ⟨#[c]⟩] w fun e w' => e = .returned (.int .i64 (Lib.countByte s.data.toList c)) ∧ w' = w := Any.strings_Count_one Tryz.lays138 s c w

theorem pvalid_any (s : ByteArray) (hs : s.size ≤ 9223372036854775807) (w : World) : Calls Tryz.prog 152 #[.string s] w fun e w' => e = .returned (.bool (pathOk s.data.toList)) ∧ w' = w := by
  cases h0 : s.data.toList with
  | nil =>
    have h1 : s.toList.isEmpty = true := by rw [Lib.toList_data, h0]; rfl
    have h2 : pathOk [] = true := rfl
    rw [h2]
    clear h2
    go_enter Tryz.func152, Tryz.ntmps152
    go_wp2_with fail
    go_ret
    exact ⟨rfl, rfl⟩
  | cons x r =>
    have h1 : s.toList.isEmpty = false := by rw [Lib.toList_data, h0]; rfl
    have h2 : pathOk s.data.toList = (fineB s.data.toList && decide ((Lib.countByte s.data.toList 47 : Int) < 4)) := by simp [pathOk, h0]
    rw [← h0, h2]
    clear h0 h2
    go_enter Tryz.func152, Tryz.ntmps152
    go_wp2_with fail
    refine (fine_any s hs _).mono ?_
    rintro e w' ⟨rfl, rfl⟩
    generalize hc : Lib.countByte s.data.toList 47 = n
    cases hf : fineB s.data.toList
    · clear hc
      have HF := hide hf
      clear hf
      go_wp2_with fail
      go_ret
      exact ⟨by rw [HF.out]; rfl, rfl⟩
    · have HF := hide hf
      have HC := hide hc
      clear hf hc
      go_wp2_with fail
      refine (count_any s 47 _).mono ?_
      rintro e w' ⟨rfl, rfl⟩
      rw [HC.out]
      go_wp2_with fail
      go_ret
      exact ⟨by rw [HF.out, HC.out, Bool.true_and]; rfl, rfl⟩

def coversB (p q : List UInt8) : Bool := pathOk p && pathOk q && (p.isEmpty || decide (p = q) || Lib.hasPrefix q (p ++ [47]))
theorem fineGo_len (l : List UInt8) : ∀ n, n ≤ 6 → fineGo l n = true → l.length + n ≤ 7 * Lib.countByte l 47 + 6 := by
  unfold Lib.countByte
  induction l with
  | nil => intro n hn h; simp; omega
  | cons c r ih =>
    intro n hn h
    unfold fineGo at h
    rw [List.count_cons]
    by_cases q : (c.toNat : Int) = 47
    · rw [if_pos q] at h
      have e : c = 47 := by
        have : c.toNat = 47 := by omega
        exact UInt8.toNat_inj.1 this
      have e2 : (c == 47) = true := by rw [e]; rfl
      by_cases h0 : n = 0
      · rw [if_pos h0] at h; cases h
      · rw [if_neg h0] at h
        have := ih 0 (by omega) h
        rw [if_pos e2]
        simp
        omega
    · rw [if_neg q] at h
      have e2 : ¬ (c == 47) = true := by
        intro e
        have : c = 47 := by simpa using e
        rw [this] at q
        exact q rfl
      rw [if_neg e2]
      by_cases hl : letter c.toNat = true
      · rw [if_pos hl] at h
        by_cases h6 : 6 < n + 1
        · rw [if_pos h6] at h; cases h
        · rw [if_neg h6] at h
          have := ih (n + 1) (by omega) h
          simp
          omega
      · rw [if_neg hl] at h; cases h
theorem pathOk_len {l : List UInt8} (h : pathOk l = true) : l.length ≤ 27 := by
  unfold pathOk at h
  rw [Bool.or_eq_true, Bool.and_eq_true] at h
  rcases h with h | ⟨h, h2⟩
  · have : l = [] := by simpa using h
    rw [this]; simp
  · have := fineGo_len l 0 (by omega) h
    have h2 := of_decide_eq_true h2
    omega
end Go.Proofs.YtpphoeimakjjdaaGreatDoor
