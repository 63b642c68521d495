/-
  WALKS: the document's layers 5 and 17: Mode, moments, stamped, Due. (The great seat alone.)
-/
import Derived.Test.YtifllaeldcimgaaGreatRefStamps
import Derived.Test.YtifllaeldcimgaaGreatHoldF
namespace Go.Proofs.YtifllaeldcimgaaGreat
open Go.RowKit

theorem rmode_any (m : Int) (w : World) : Calls Tryz.prog 49 #[.int .i64 m] w fun e w' => e = .returned (.bool (decide (modeOk m))) ∧ w' = w := by
  go_enter Tryz.func49, Tryz.ntmps49
  by_cases h1 : m = 1
  · subst h1
    go_wp2
    go_ret
    exact ⟨rfl, rfl⟩
  · by_cases h2 : m = 2
    · subst h2
      go_wp2
      go_ret
      exact ⟨rfl, rfl⟩
    · have e0 : decide (modeOk m) = false := decide_eq_false fun h => h.elim h1 h2
      rw [e0]
      have b1 : (m == 1) = false := by simpa using h1
      have b2 : (m == 2) = false := by simpa using h2
      clear e0 h1 h2
      go_wp2
      go_ret
      exact ⟨rfl, rfl⟩
theorem rmoments_any (now sent : Int) (w : World) : Calls Tryz.prog 28 #[.int .i64 now, .int .i64 sent] w fun e w' => e = .returned (.bool (decide (0 ≤ sent ∧ sent ≤ now ∧ now ≤ 1152921504606846976))) ∧ w' = w := by
  go_enter Tryz.func28, Tryz.ntmps28
  by_cases h1 : 0 ≤ sent
  · by_cases h2 : sent ≤ now
    · go_wp2
      go_ret
      exact ⟨by simp [h1, h2], rfl⟩
    · have e : decide (0 ≤ sent ∧ sent ≤ now ∧ now ≤ 1152921504606846976) = false := decide_eq_false fun x => h2 x.2.1
      rw [e]
      go_wp2
      go_ret
      exact ⟨rfl, rfl⟩
  · have e : decide (0 ≤ sent ∧ sent ≤ now ∧ now ≤ 1152921504606846976) = false := decide_eq_false fun x => h1 x.1
    rw [e]
    go_wp2
    go_ret
    exact ⟨rfl, rfl⟩
set_option maxRecDepth 100000 in
theorem rdue_any (f i m t s e : Int) (p : ByteArray) (v : Value) (r : Bool) (w : World) :
    Calls Tryz.prog 17 #[.agg #[.int .i64 f, .int .i64 i, .string p, .int .i64 m, v, .int .i64 t, .int .i64 s, .int .i64 e, .bool r]] w fun en w' => en = .returned (.int .i64 (dueI s e)) ∧ Gr w w' := by
  have g := (Gr.refl w).alloc (.cells #[.int .i64 f, .int .i64 i, .string p, .int .i64 m, v, .int .i64 t, .int .i64 s, .int .i64 e, .bool r] 36)
  have G := hide g
  clear g
  by_cases h1 : s < 0
  · have e0 : dueI s e = 0 := by unfold dueI; rw [if_pos (.inl h1)]
    rw [e0]; clear e0
    go_enter Tryz.func17, Tryz.ntmps17
    go_wp2
    go_ret
    exact ⟨rfl, G.out⟩
  · by_cases h2 : e < s
    · have e0 : dueI s e = 0 := by unfold dueI; rw [if_pos (.inr (.inl h2))]
      rw [e0]; clear e0
      go_enter Tryz.func17, Tryz.ntmps17
      go_wp2
      go_ret
      exact ⟨rfl, G.out⟩
    · by_cases h3 : 4611686018427387904 < e
      · have e0 : dueI s e = 0 := by unfold dueI; rw [if_pos (.inr (.inr h3))]
        rw [e0]; clear e0
        go_enter Tryz.func17, Tryz.ntmps17
        go_wp2
        go_ret
        exact ⟨rfl, G.out⟩
      · have e0 : dueI s e = s + (e - s) / 2 := by unfold dueI; rw [if_neg (by omega)]
        rw [e0]; clear e0
        have h4 : 0 ≤ s := by omega
        have h5 : s ≤ e := by omega
        have h6 : e ≤ 4611686018427387904 := by omega
        clear h1 h2 h3
        go_enter Tryz.func17, Tryz.ntmps17
        go_wp2
        go_ret
        exact ⟨rfl, G.out⟩
theorem rstamped_any {w : World} {u : Value} {a : List Int} (hu : RdN w u a) :
    Calls Tryz.prog 30 #[u] w fun e w' => e = .returned (.bool (decide (a ≠ [] ∧ stampOk a))) ∧ w' = w := by
  have h1 : a.length ≤ 9223372036854775807 := hu.1
  obtain ⟨p, c, rfl⟩ := hu.len
  go_enter Tryz.func30, Tryz.ntmps30
  go_wp2_with fail
  refine (rsvalid_any hu).mono ?_
  rintro e w' ⟨rfl, rfl⟩
  by_cases hs : stampOk a
  · have hd : decide (stampOk a) = true := decide_eq_true hs
    by_cases h : a = []
    · subst h
      clear hu hs
      rw [hd]
      clear hd
      go_wp2_with fail
      go_ret
      exact ⟨by simp, rfl⟩
    · have h' : 0 < a.length := List.length_pos_iff.2 h
      have h2 : (0 : Int) < (a.length : Int) := by omega
      have e0 := hide (show decide (a ≠ [] ∧ stampOk a) = true from decide_eq_true ⟨h, hs⟩)
      rw [hd]
      clear h hs hd hu
      go_wp2_with fail
      go_ret
      exact ⟨by rw [e0.out]; rfl, rfl⟩
  · have hd : decide (stampOk a) = false := decide_eq_false hs
    have e0 := hide (show decide (a ≠ [] ∧ stampOk a) = false from decide_eq_false fun x => hs x.2)
    rw [hd]
    clear hs hd hu
    go_wp2_with fail
    go_ret
    exact ⟨by rw [e0.out]; rfl, rfl⟩
end Go.Proofs.YtifllaeldcimgaaGreat
