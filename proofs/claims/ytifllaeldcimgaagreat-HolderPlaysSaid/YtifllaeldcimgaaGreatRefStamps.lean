/-
  WALKS: the document's layer 4: stamps: Valid. (The great seat alone.)
-/
import Derived.Test.YtifllaeldcimgaaGreatStamps3
import Derived.Test.YtifllaeldcimgaaGreatLease
import Derived.Test.YtifllaeldcimgaaGreatStamps2
import Derived.LoopTactic
namespace Go.Proofs.YtifllaeldcimgaaGreat
open Go.RowKit

def UpTo (a : List Int) (i : Value) : Prop := ∃ k : Nat, k ≤ a.length ∧ i = .int .i64 (k : Int) ∧ ∀ n, n ∈ a.take k → countOk n
theorem upto_step {a : List Int} {k : Nat} (hk : k < a.length) (h : ∀ n, n ∈ a.take k → countOk n) (h2 : countOk (a.getD k 0)) : ∀ n, n ∈ a.take (k + 1) → countOk n := by
  intro n hn
  have : a.take (k + 1) = a.take k ++ [a.getD k 0] := by rw [List.take_add_one]; simp [hk]
  rw [this] at hn
  rcases List.mem_append.1 hn with e | e
  · exact h n e
  · rw [List.mem_singleton.1 e]; exact h2
set_option maxHeartbeats 1000000 in
set_option maxRecDepth 100000 in
theorem rsvalid_any {w : World} {u : Value} {a : List Int} (hu : RdN w u a) :
    Calls Tryz.prog 61 #[u] w fun e w' => e = .returned (.bool (decide (stampOk a))) ∧ w' = w := by
  have h1 : a.length ≤ 9223372036854775807 := hu.1
  obtain ⟨p, c, rfl⟩ := hu.len
  by_cases h : a.length ≤ 4
  · have h' : (a.length : Int) ≤ 4 := by omega
    go_enter Tryz.func61, Tryz.ntmps61
    go_wp2_with fail
    go_loop [3] (fun i => UpTo a i) (fun i => a.length - (intOf i).toNat)
    case atStart => exact ⟨0, Nat.zero_le _, rfl, by simp⟩
    case round =>
      obtain ⟨k, hk, rfl, hall⟩ := hrel
      by_cases hlt : k < a.length
      · have hlt' : (k : Int) < (a.length : Int) := by omega
        obtain ⟨b, o, rfl, hb, hc⟩ := hu.at_ k hlt
        have hst := upto_step hlt hall
        have hbad : ¬ countOk (a.getD k 0) → decide (stampOk a) = false := fun hn => decide_eq_false fun hs => hn (hs.2 _ (by simp [hlt]))
        generalize a.getD k 0 = x at hc hst hbad
        have HA := hide hall
        have HST := hide hst
        have HB := hide hbad
        clear hall hst hbad hu
        by_cases hx : countOk x
        · have hx1 := hx.1
          have hx2 := hx.2
          have HX := hide hx
          clear hx
          go_wp2_with fail
          go_round
          case rel => exact ⟨k + 1, by omega, by go_num, HST.out HX.out⟩
          case measure => simp [intOf]; omega
        · have hf := HB.out hx
          have HF := hide hf
          by_cases hx1 : x < 1
          · clear hx hf
            go_wp2_with fail
            go_ret
            exact ⟨by rw [HF.out]; rfl, rfl⟩
          · have hx2 : 1099511627776 < x := by unfold countOk at hx; omega
            clear hx hf
            go_wp2_with fail
            go_ret
            exact ⟨by rw [HF.out]; rfl, rfl⟩
      · obtain rfl : k = a.length := by omega
        rw [List.take_length] at hall
        have e : decide (stampOk a) = true := decide_eq_true ⟨h, hall⟩
        have HE := hide e
        clear hall hu e
        go_wp2_with fail
        go_ret
        exact ⟨by rw [HE.out]; rfl, rfl⟩
  · have h' : ¬ (a.length : Int) ≤ 4 := by omega
    have e : decide (stampOk a) = false := decide_eq_false fun x => h x.1
    rw [e]
    clear hu
    go_enter Tryz.func61, Tryz.ntmps61
    go_wp2_with fail
    go_ret
    exact ⟨rfl, rfl⟩
def RInRel (w : World) (a b : List Int) (i : Value) (wr : World) : Prop := ∃ k : Nat, k ≤ min a.length b.length ∧ i = .int .i64 k ∧ Hid (cmpL (a.drop k) (b.drop k) = cmpL a b) ∧ Gr w wr
theorem cmpL_step2 {a b : List Int} {k : Nat} (ha : k < a.length) (hb : k < b.length) : cmpL (a.drop k) (b.drop k) = if a.getD k 0 < b.getD k 0 then -1 else if b.getD k 0 < a.getD k 0 then 1 else cmpL (a.drop (k + 1)) (b.drop (k + 1)) := by
  rw [List.drop_eq_getElem_cons ha, List.drop_eq_getElem_cons hb]
  have e1 : a.getD k 0 = a[k] := by simp [ha]
  have e2 : b.getD k 0 = b[k] := by simp [hb]
  rw [e1, e2]
  rfl
set_option maxHeartbeats 1000000 in
set_option maxRecDepth 100000 in
theorem rcompare_any {w : World} {u v : Value} {a b : List Int} (hu : RdN w u a) (hv : RdN w v b) :
    Calls Tryz.prog 62 #[u, v] w fun e w' => e = .returned (.int .i64 (cmpL a b)) ∧ Gr w w' := by
  have h1 : a.length ≤ 9223372036854775807 := hu.1
  have h2 : b.length ≤ 9223372036854775807 := hv.1
  obtain ⟨p, c, rfl⟩ := hu.len
  obtain ⟨q, d, rfl⟩ := hv.len
  go_enter Tryz.func62, Tryz.ntmps62
  go_wp2_with fail
  go_loopw [5] (fun i wr => RInRel w a b i wr) (fun i _ => min a.length b.length - (intOf i).toNat)
  case atStart => exact ⟨0, Nat.zero_le _, rfl, rfl, Gr.refl _⟩
  case round =>
    obtain ⟨k, hk, rfl, hd, hg⟩ := hrel
    by_cases hlt : k < min a.length b.length
    · have ha : k < a.length := by omega
      have hb : k < b.length := by omega
      obtain ⟨b1, o1, rfl, hb1, c1⟩ := (hu.gr hg).at_ k ha
      obtain ⟨b2, o2, rfl, hb2, c2⟩ := (hv.gr hg).at_ k hb
      have hst := cmpL_step2 ha hb
      have HS := hide (hst.symm.trans hd.out)
      clear hst hd
      generalize hx : a.getD k 0 = x at c1 HS
      generalize hy : b.getD k 0 = y at c2 HS
      clear hx hy hu hv
      have i1 : (0 : Int) ≤ (k : Int) := by omega
      have i2 : (k : Int) < (a.length : Int) := by omega
      have i3 : (k : Int) < (b.length : Int) := by omega
      by_cases q1 : x < y
      · have HS1 := hide (by have := HS.out; rwa [if_pos q1] at this)
        clear HS
        go_wp2_with fail
        go_quiet (fail)
        go_wp2_with fail
        go_ret
        exact ⟨by rw [← HS1.out]; rfl, hg.drewN _⟩
      · by_cases q2 : y < x
        · have HS1 := hide (by have := HS.out; rwa [if_neg q1, if_pos q2] at this)
          clear HS
          go_wp2_with fail
          go_quiet (fail)
          go_wp2_with fail
          go_quiet (fail)
          go_wp2_with fail
          go_ret
          exact ⟨by rw [← HS1.out]; rfl, (hg.drewN _).drewN _⟩
        · have HS1 := hide (by have := HS.out; rwa [if_neg q1, if_neg q2] at this)
          clear HS
          go_wp2_with fail
          go_quiet (fail)
          go_wp2_with fail
          go_quiet (fail)
          go_wp2_with fail
          go_roundw
          case rel => exact ⟨k + 1, by omega, by go_num, HS1.out, hg.drewN _⟩
          case measure => simp [intOf]; omega
    · have hE := cmpL_end (a := a) (b := b) (k := k) (by omega)
      have HE := hide (hE.symm.trans hd.out)
      clear hE hu hv hd
      rcases Nat.lt_trichotomy a.length b.length with q | q | q
      · have HE1 := hide (by have := HE.out; rwa [cmpInt_lt (by omega)] at this)
        clear HE
        have i1 : (a.length : Int) < (b.length : Int) := by omega
        have i2 : ¬ (k : Int) < (a.length : Int) := by omega
        go_wp2_with fail
        go_ret
        exact ⟨by rw [← HE1.out]; rfl, hg⟩
      · have HE1 := hide (by have := HE.out; rwa [q, cmpInt_eq] at this)
        clear HE
        have i1 : ¬ (a.length : Int) < (b.length : Int) := by omega
        have i3 : ¬ (b.length : Int) < (a.length : Int) := by omega
        have i2 : ¬ (k : Int) < (a.length : Int) := by omega
        go_wp2_with fail
        go_ret
        exact ⟨by rw [← HE1.out]; rfl, hg⟩
      · have HE1 := hide (by have := HE.out; rwa [cmpInt_gt (by omega)] at this)
        clear HE
        have i1 : ¬ (a.length : Int) < (b.length : Int) := by omega
        have i3 : (b.length : Int) < (a.length : Int) := by omega
        have i4 : (k : Int) < (a.length : Int) := by omega
        have i2 : ¬ (k : Int) < (b.length : Int) := by omega
        go_wp2_with fail
        go_ret
        exact ⟨by rw [← HE1.out]; rfl, hg⟩
def RCopyRel (w : World) (a : List Int) (u i : Value) (wr : World) : Prop := ∃ k : Nat, k ≤ a.length ∧ i = .int .i64 k ∧ wr.ownsRow w.heap.size 3 1 u k ((a.take k).map (Value.int .i64)) ∧ Mod [] w wr
set_option maxHeartbeats 1000000 in
set_option maxRecDepth 100000 in
theorem rcopy_any {w : World} {u : Value} {a : List Int} (hu : RdN w u a) (hs : a.length ≤ 1000000) :
    Calls Tryz.prog 57 #[u] w fun e w' => NewInts w a e w' := by
  obtain ⟨i0, hi0, hz0, hs0, hb0⟩ := info_parts info_int
  have h1 : a.length ≤ 9223372036854775807 := hu.1
  obtain ⟨p, c, rfl⟩ := hu.len
  go_enter Tryz.func57, Tryz.ntmps57
  go_wp2_with fail
  go_loopw [3, 4] (fun u i wr => RCopyRel w a u i wr) (fun _ i _ => a.length - (intOf i).toNat)
  case atStart => exact ⟨0, Nat.zero_le _, rfl, World.ownsRow_nil _ _ _ _, Mod.refl _ _⟩
  case round =>
    obtain ⟨k, hk, rfl, hown, hm⟩ := hrel
    have hwr : w.heap.size ≤ wr.heap.size := hm.size
    by_cases hlt : k < a.length
    · obtain ⟨b, o, rfl, hb, c1⟩ := (hu.mod hm (by simp)).at_ k hlt
      have hnx : (a.take k).map (Value.int .i64) ++ [.int .i64 (a.getD k 0)] = (a.take (k + 1)).map (Value.int .i64) := by
        rw [List.take_succ_eq_append_getElem hlt, List.map_append, List.map_singleton]
        have e : a.getD k 0 = a[k] := by simp [hlt]
        rw [e]
      have HN := hide hnx
      clear hnx
      generalize a.getD k 0 = x at c1 HN
      have i1 : (0 : Int) ≤ (k : Int) := by omega
      have i2 : (k : Int) < (a.length : Int) := by omega
      clear hu
      go_wp2_with (at_builtin; refine wpList_append_own _ rfl _ _ 34 rfl w.heap.size 3 i0 _ 1 8 Tryz.underlying34 hi0 hz0 hs0 hb0 rfl (by decide) _ _ _ rfl (hown.alloc _) ⟨wr.heap.size, 0, none⟩ 1 1 [.int .i64 x] rfl rfl (World.news_of_block (cs := #[.int .i64 x]) (t := 3) (fr := (0, 0)) (heap_alloc_new wr _)) (by simp [Value.oneCell']) (by unfold maxLen; omega) (by omega) (by simp; omega) ?_; intro u' w1 ho hg _)
      have hm1 := (hm.alloc _).grown hg (fun q e hq => absurd hq (by have := (hown.lt q e).1; omega))
      rw [HN.out] at ho
      clear hown hg c1
      go_wp2_with fail
      go_roundw
      case rel => exact ⟨k + 1, by omega, by go_num, ho, hm1⟩
      case measure => simp [intOf]; omega
    · obtain rfl : k = a.length := by omega
      rw [List.take_length] at hown
      have hv : ∃ p c, u3 = .slice p a.length c := (RdN.of_row hown).len
      obtain ⟨p', c', rfl⟩ := hv
      clear hu
      go_wp2_with fail
      go_ret
      exact ⟨_, rfl, hown, hm⟩
set_option maxRecDepth 100000 in
theorem rlater_any {w : World} {u v : Value} {a b : List Int} (hu : RdN w u a) (hv : RdN w v b) (ha : a.length ≤ 1000000) (hb : b.length ≤ 1000000) :
    Calls Tryz.prog 32 #[u, v] w fun e w' => NewInts w (laterL a b) e w' := by
  go_enter Tryz.func32, Tryz.ntmps32
  go_wp2_with fail
  refine (rcompare_any hu hv).mono ?_
  rintro e w' ⟨rfl, hg⟩
  by_cases h : cmpL a b < 0
  · have hl : laterL a b = b := by simp [laterL, h]
    go_wp2_with fail
    refine (rcopy_any (hv.gr hg) hb).mono ?_
    rintro e w2 ⟨v', rfl, ho, hm⟩
    go_wp2_with fail
    go_ret
    exact ⟨v', rfl, by rw [hl]; exact row_base ho hg.size, (hg.mod []).then hm⟩
  · have hl : laterL a b = a := by simp [laterL, h]
    go_wp2_with fail
    refine (rcopy_any (hu.gr hg) ha).mono ?_
    rintro e w2 ⟨v', rfl, ho, hm⟩
    go_wp2_with fail
    go_ret
    exact ⟨v', rfl, by rw [hl]; exact row_base ho hg.size, (hg.mod []).then hm⟩
end Go.Proofs.YtifllaeldcimgaaGreat
