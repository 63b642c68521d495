/-
  WALKS: the document's answers for layer 5: Compare, Overlap, before, Mode, Together, Find, Drop.
-/
import Derived.Test.YthkcbennfochmaaGreatDoorRefPaths
import Derived.Test.YthkcbennfochmaaGreatDoorPsK
import Derived.Test.YthkcbennfochmaaGreatDoorPsOpen
import Derived.Deep.AppendLies
import Derived.BigQuiet
namespace Go.Proofs.YthkcbennfochmaaGreatDoor
open Go.RowKit Go.Maps

/-! ### Compare -/
def RCmpRel (p q : ByteArray) (i : Value) (w wr : World) : Prop := ∃ k : Nat, k ≤ p.size ∧ k ≤ q.size ∧ i = .int .i64 k ∧ Hid (cmpB (p.data.toList.drop k) (q.data.toList.drop k) = cmpB p.data.toList q.data.toList) ∧ Gr w wr
theorem drop_byte (s : ByteArray) {k : Nat} (hk : k < s.size) : s.data.toList.drop k = s[k] :: s.data.toList.drop (k + 1) := by
  have hl : k < s.data.toList.length := by simpa using hk
  rw [List.drop_eq_getElem_cons hl]
  rfl
theorem drop_fin (s : ByteArray) {k : Nat} (hk : k = s.size) : s.data.toList.drop k = [] := List.drop_of_length_le (by rw [hk]; simp)
set_option maxHeartbeats 1000000 in
set_option maxRecDepth 100000 in
theorem rcompare_any (p q : ByteArray) (hp : p.size ≤ 9223372036854775807) (w : World) : Calls Tryz.prog 54 #[.string p, .string q] w fun e w' => e = .returned (.int .i64 (cmpB p.data.toList q.data.toList)) ∧ Mod [] w w' := by
  go_enter Tryz.func54, Tryz.ntmps54
  go_wp2_with fail
  go_loopw [5] (fun i wr => RCmpRel p q i w wr) (fun i _ => p.size - (intOf i).toNat)
  case atStart => exact ⟨0, Nat.zero_le _, Nat.zero_le _, rfl, rfl, Gr.refl _⟩
  case round =>
    obtain ⟨k, hk, hk2, rfl, hd, hg⟩ := hrel
    have HG := hide hg
    clear hg
    by_cases h1 : k < p.size
    · have i1 : (0 : Int) ≤ (k : Int) := by omega
      have i2 : (k : Int) < (p.size : Int) := by omega
      by_cases h2 : k < q.size
      · have i3 : (k : Int) < (q.size : Int) := by omega
        have hdo := hd.out
        rw [drop_byte p h1, drop_byte q h2, cmpB_cons] at hdo
        have HD := hide hdo
        have e1 : (p[k] < q[k]) ↔ ((p[k]).toNat : Int) < ((q[k]).toNat : Int) := by rw [UInt8.lt_iff_toNat_lt]; omega
        have e2 : (q[k] < p[k]) ↔ ((q[k]).toNat : Int) < ((p[k]).toNat : Int) := by rw [UInt8.lt_iff_toNat_lt]; omega
        have HE := hide (And.intro e1 e2)
        clear hd hdo e1 e2
        rcases (by omega : ((p[k]).toNat : Int) < ((q[k]).toNat : Int) ∨ ((q[k]).toNat : Int) < ((p[k]).toNat : Int) ∨ ((p[k]).toNat : Int) = ((q[k]).toNat : Int)) with hc | hc | hc
        · have HR : Hid (cmpB p.data.toList q.data.toList = -1) := hide (by
            have := HD.out
            rw [if_pos (HE.out.1.2 hc)] at this
            exact this.symm)
          clear HD HE
          generalize hx : ((p[k]).toNat : Int) = x at hc
          generalize hy : ((q[k]).toNat : Int) = y at hc
          have HX := hide hx
          have HY := hide hy
          go_wp2_with fail
          go_quiet (fail)
          go_wp2_with fail
          go_ret
          exact ⟨by rw [HR.out]; rfl, Gr.mod (by repeat (first | exact HG.out | apply Gr.drewN)) []⟩
        · have HR : Hid (cmpB p.data.toList q.data.toList = 1) := hide (by
            have := HD.out
            rw [if_neg (fun e => by have := HE.out.1.1 e; omega), if_pos (HE.out.2.2 hc)] at this
            exact this.symm)
          clear HD HE
          generalize hx : ((p[k]).toNat : Int) = x at hc
          generalize hy : ((q[k]).toNat : Int) = y at hc
          have HX := hide hx
          have HY := hide hy
          have hc2 : ¬ x < y := by omega
          go_wp2_with fail
          go_quiet (fail)
          go_wp2_with fail
          go_quiet (fail)
          go_wp2_with fail
          go_ret
          exact ⟨by rw [HR.out]; rfl, Gr.mod (by repeat (first | exact HG.out | apply Gr.drewN)) []⟩
        · have HR : Hid (cmpB (p.data.toList.drop (k + 1)) (q.data.toList.drop (k + 1)) = cmpB p.data.toList q.data.toList) := hide (by
            have := HD.out
            rw [if_neg (fun e => by have := HE.out.1.1 e; omega), if_neg (fun e => by have := HE.out.2.1 e; omega)] at this
            exact this)
          clear HD HE
          generalize hx : ((p[k]).toNat : Int) = x at hc
          generalize hy : ((q[k]).toNat : Int) = y at hc
          have HX := hide hx
          have HY := hide hy
          subst hc
          have hc2 : ¬ x < x := by omega
          go_wp2_with fail
          go_quiet (fail)
          go_wp2_with fail
          go_quiet (fail)
          go_wp2_with fail
          go_roundw
          case rel => exact ⟨k + 1, by omega, by omega, by go_num, HR, (by repeat (first | exact HG.out | apply Gr.drewN))⟩
          case measure => simp [intOf]; omega
      · have e0 : k = q.size := by omega
        have hdo := hd.out
        rw [drop_byte p h1, drop_fin q e0] at hdo
        have HD := hide (show cmpB p.data.toList q.data.toList = 1 from hdo.symm)
        have i3 : ¬ (k : Int) < (q.size : Int) := by omega
        have i4 : ¬ (p.size : Int) < (q.size : Int) := by omega
        have i5 : (q.size : Int) < (p.size : Int) := by omega
        clear hd hdo
        go_wp2_with fail
        go_ret
        exact ⟨by rw [HD.out]; rfl, HG.out.mod []⟩
    · have e0 : k = p.size := by omega
      have hdo := hd.out
      rw [drop_fin p e0] at hdo
      have i2 : ¬ (k : Int) < (p.size : Int) := by omega
      by_cases h2 : k < q.size
      · rw [drop_byte q h2] at hdo
        have HD := hide (show cmpB p.data.toList q.data.toList = -1 from hdo.symm)
        have i4 : (p.size : Int) < (q.size : Int) := by omega
        clear hd hdo
        go_wp2_with fail
        go_ret
        exact ⟨by rw [HD.out]; rfl, HG.out.mod []⟩
      · rw [drop_fin q (by omega)] at hdo
        have HD := hide (show cmpB p.data.toList q.data.toList = 0 from hdo.symm)
        have i4 : ¬ (p.size : Int) < (q.size : Int) := by omega
        have i5 : ¬ (q.size : Int) < (p.size : Int) := by omega
        clear hd hdo
        go_wp2_with fail
        go_ret
        exact ⟨by rw [HD.out]; rfl, HG.out.mod []⟩
/-! ### Overlap -/
set_option maxRecDepth 100000 in
theorem roverlap_any (s t : ByteArray) (hs : s.size ≤ 9223372036854775806) (ht : t.size ≤ 9223372036854775806) (w : World) : Calls Tryz.prog 37 #[.string s, .string t] w fun e w' => e = .returned (.bool (coversB s.data.toList t.data.toList || coversB t.data.toList s.data.toList)) ∧ Mod [] w w' := by
  have h1 := rcovers_any s t hs ht
  have h2 := rcovers_any t s ht hs
  generalize coversB s.data.toList t.data.toList = b1 at h1 ⊢
  generalize coversB t.data.toList s.data.toList = b2 at h2 ⊢
  go_enter Tryz.func37, Tryz.ntmps37
  go_wp2_with fail
  refine (h1 _).mono ?_
  rintro e w1 ⟨rfl, m1⟩
  have M1 := hide m1
  clear m1 h1
  go_wp2_with fail
  refine (h2 _).mono ?_
  rintro e w2 ⟨rfl, m2⟩
  have M2 := hide (M1.out.then m2)
  clear m2 h2 M1
  cases b1 <;> cases b2
  all_goals
    go_wp2_with fail
    go_ret
    exact ⟨rfl, M2.out⟩
/-! ### before, Mode, Together -/
def befB (a b : Ent) : Bool := decide (ltE a b)
set_option maxHeartbeats 1000000 in
set_option maxRecDepth 100000 in
theorem rbefore_any (a b : Ent) (ha : a.path.size ≤ 9223372036854775807) (w : World) : Calls Tryz.prog 43 #[.agg #[.int .i64 a.id, .string a.path, .int .i64 a.mode, .int .i64 a.who], .agg #[.int .i64 b.id, .string b.path, .int .i64 b.mode, .int .i64 b.who]] w fun e w' => e = .returned (.bool (befB a b)) ∧ Mod [] w w' := by
  have hc := rcompare_any a.path b.path ha
  have HC : Hid (befB a b = decide (cmpB a.path.data.toList b.path.data.toList < 0 ∨ (cmpB a.path.data.toList b.path.data.toList = 0 ∧ a.id < b.id))) := hide (by
    rw [Bool.eq_iff_iff]
    unfold befB
    rw [decide_eq_true_eq, decide_eq_true_eq]
    unfold ltE
    rw [← cmpB_zero]
    exact Iff.rfl)
  generalize hk : cmpB a.path.data.toList b.path.data.toList = k at hc HC
  have HK := hide hk
  have bl1 := blk_alloc (heap_alloc_new w (objE a.id a.path a.mode a.who)) (objE b.id b.path b.mode b.who)
  have bl2 := heap_alloc_new (w.alloc (objE a.id a.path a.mode a.who)) (objE b.id b.path b.mode b.who)
  rw [World.size_alloc] at bl2
  have HB := hide (And.intro bl1 bl2)
  clear bl1 bl2
  have gB := (((Gr.refl w).alloc (objE a.id a.path a.mode a.who)).alloc (objE b.id b.path b.mode b.who)).mod []
  have HG := hide gB
  clear hk gB
  go_enter Tryz.func43, Tryz.ntmps43
  rcases (by omega : k < 0 ∨ 0 < k ∨ k = 0) with h | h | h
  · go_wp2_with (
      go_at_call 54
      refine (hc _).mono ?_
      rintro e w1 ⟨rfl, hm1⟩
      have C1 := blk_cell (hm1.at_ HB.out.1 (by simp))
      have C2 := blk_cell (hm1.at_ HB.out.2 (by simp))
      have HM := hide (HG.out.then hm1)
      clear hm1 hc)
    go_ret
    exact ⟨by rw [HC.out, decide_eq_true (.inl h)]; rfl, HM.out⟩
  · have h1 : decide (k < 0) = false := decide_eq_false (by omega)
    have h2 : (k == 0) = false := by simp; omega
    have hr : befB a b = false := by
      have hf : ¬ (k < 0 ∨ k = 0 ∧ a.id < b.id) := by omega
      rw [HC.out, decide_eq_false hf]
    have HR := hide hr
    clear hr h
    go_wp2_with (
      go_at_call 54
      refine (hc _).mono ?_
      rintro e w1 ⟨rfl, hm1⟩
      have C1 := blk_cell (hm1.at_ HB.out.1 (by simp))
      have C2 := blk_cell (hm1.at_ HB.out.2 (by simp))
      have HM := hide (HG.out.then hm1)
      clear hm1 hc)
    go_ret
    exact ⟨by rw [HR.out]; rfl, HM.out⟩
  · subst h
    obtain ⟨bl, hbl⟩ : ∃ b', decide (a.id < b.id) = b' := ⟨_, rfl⟩
    have hr : befB a b = bl := by
      rw [HC.out, ← hbl]
      simp
    have HR := hide hr
    clear hr HC
    go_wp2_with (
      go_at_call 54
      refine (hc _).mono ?_
      rintro e w1 ⟨rfl, hm1⟩
      have C1 := blk_cell (hm1.at_ HB.out.1 (by simp))
      have C2 := blk_cell (hm1.at_ HB.out.2 (by simp))
      have HM := hide (HG.out.then hm1)
      clear hm1 hc)
    go_ret
    exact ⟨by rw [HR.out]; rfl, HM.out⟩
theorem rmode_any (m : Int) (w : World) : Calls Tryz.prog 38 #[.int .i64 m] w fun e w' => e = .returned (.bool (modE m)) ∧ w' = w := by
  rcases (by omega : m = 1 ∨ m = 2 ∨ (m ≠ 1 ∧ m ≠ 2)) with rfl | rfl | ⟨h1, h2⟩
  · go_enter Tryz.func38, Tryz.ntmps38
    go_wp2_with fail
    go_ret
    exact ⟨rfl, rfl⟩
  · go_enter Tryz.func38, Tryz.ntmps38
    go_wp2_with fail
    go_ret
    exact ⟨rfl, rfl⟩
  · have e : modE m = false := by simp [modE, h1, h2]
    rw [e]
    have b1 : (m == 1) = false := by simpa using h1
    have b2 : (m == 2) = false := by simpa using h2
    clear e
    go_enter Tryz.func38, Tryz.ntmps38
    go_wp2_with fail
    go_ret
    exact ⟨rfl, rfl⟩
theorem rtogether_any (a b : Int) (w : World) : Calls Tryz.prog 39 #[.int .i64 a, .int .i64 b] w fun e w' => e = .returned (.bool ((a == 1) && (b == 1))) ∧ w' = w := by
  generalize h1 : (a == 1) = x
  generalize h2 : (b == 1) = y
  cases x <;> cases y
  all_goals
    go_enter Tryz.func39, Tryz.ntmps39
    go_wp2_with fail
    go_ret
    exact ⟨rfl, rfl⟩
end Go.Proofs.YthkcbennfochmaaGreatDoor
