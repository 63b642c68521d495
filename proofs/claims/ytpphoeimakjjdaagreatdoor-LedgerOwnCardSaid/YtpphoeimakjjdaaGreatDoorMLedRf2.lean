/-
  WALKS: the document's layer 1: segment, Split, Valid, Covers.
-/
import Derived.Test.YtpphoeimakjjdaaGreatDoorMSplLaw
import Derived.Test.YtpphoeimakjjdaaGreatDoorMLedRf1
import Derived.Test.YtpphoeimakjjdaaGreatDoorMAppend
import Derived.Test.YtpphoeimakjjdaaGreatDoorMResC
import Derived.Test.YtpphoeimakjjdaaGreatDoorMBytes
import Derived.StillTailTactics
namespace Go.Proofs.YtpphoeimakjjdaaGreatDoor
open Go.RowKit Go.Shelf

def SegRel (s : ByteArray) (i : Value) (w wr : World) : Prop := ∃ k : Nat, k ≤ s.size ∧ i = .int .i64 k ∧ Hid (lettersB (s.data.toList.drop k) = lettersB s.data.toList) ∧ wr = w
theorem letters_step (s : ByteArray) (k : Nat) (hk : k < s.size) : lettersB (s.data.toList.drop k) = (letter (s[k]).toNat && lettersB (s.data.toList.drop (k + 1))) := by
  have hl : k < s.data.toList.length := by simpa using hk
  rw [List.drop_eq_getElem_cons hl]
  rfl
theorem segB_size (s : ByteArray) : segB s.data.toList = (decide (1 ≤ s.size ∧ s.size ≤ 6) && lettersB s.data.toList) := by
  unfold segB
  rw [Lib.size_eq]
set_option maxHeartbeats 1000000 in
set_option maxRecDepth 100000 in
theorem rsegment_any (s : ByteArray) (hs : s.size ≤ 9223372036854775807) (w : World) : Calls Tryz.prog 187 #[.string s] w fun e w' => e = .returned (.bool (segB s.data.toList)) ∧ w' = w := by
  by_cases h1 : 1 ≤ s.size
  · by_cases h2 : s.size ≤ 6
    · have e : segB s.data.toList = lettersB s.data.toList := by rw [segB_size, decide_eq_true ⟨h1, h2⟩, Bool.true_and]
      rw [e]
      clear e
      go_enter Tryz.func187, Tryz.ntmps187
      go_wp2_with fail
      go_loopw [3] (fun i wr => SegRel s i w wr) (fun i _ => s.size - (intOf i).toNat)
      case atStart => exact ⟨0, Nat.zero_le _, rfl, rfl, rfl⟩
      case round =>
        obtain ⟨k, hk, rfl, hd, rfl⟩ := hrel
        by_cases hlt : k < s.size
        · have i1 : (0 : Int) ≤ (k : Int) := by omega
          have i2 : (k : Int) < (s.size : Int) := by omega
          have hst := letters_step s k hlt
          have HS := hide (hst.symm.trans hd)
          have hcb : ((s[k]).toNat : Int) ≤ 255 := by have := (s[k]).toNat_lt; omega
          clear hst hd
          generalize hx : ((s[k]).toNat : Int) = x at HS hcb
          have HX := hide hx
          by_cases hl : letter x = true
          · have h3 : (97 ≤ x ∧ x ≤ 122) ∨ (48 ≤ x ∧ x ≤ 57) := by simpa [letter] using hl
            have HS5 := hide (by have := HS.out; rw [hl, Bool.true_and] at this; exact this : lettersB (s.data.toList.drop (k + 1)) = lettersB s.data.toList)
            clear HS hl
            rcases h3 with ⟨a1, a2⟩ | ⟨a1, a2⟩
            all_goals
              go_wp2_with fail
              go_roundw
              case rel => exact ⟨k + 1, by omega, by go_num, HS5.out, rfl⟩
              case measure => simp [intOf]; omega
          · have h3 : ¬ ((97 ≤ x ∧ x ≤ 122) ∨ (48 ≤ x ∧ x ≤ 57)) := by simpa [letter] using hl
            have hl' : letter x = false := by simpa using hl
            have HS5 := hide (by have := HS.out; rw [hl', Bool.false_and] at this; exact this : false = lettersB s.data.toList)
            clear HS hl hl'
            rcases (by omega : (122 < x) ∨ (57 < x ∧ x < 97) ∨ (x < 48)) with a1 | ⟨a1, a2⟩ | a1
            all_goals
              clear h3
              go_wp2_with fail
              go_ret
              exact ⟨by rw [← HS5.out]; rfl, rfl⟩
        · have hke : k = s.size := by omega
          subst hke
          have hE := hd.out
          rw [List.drop_of_length_le (by simp)] at hE
          have HE := hide hE
          clear hE hd
          go_wp2_with fail
          go_ret
          exact ⟨by rw [← HE.out]; rfl, rfl⟩
    · have e : segB s.data.toList = false := by rw [segB_size, decide_eq_false (fun x => h2 x.2)]; rfl
      rw [e]
      clear e
      go_enter Tryz.func187, Tryz.ntmps187
      go_wp2_with fail
      go_ret
      exact ⟨rfl, rfl⟩
  · have e : segB s.data.toList = false := by rw [segB_size, decide_eq_false (fun x => h1 x.1)]; rfl
    rw [e]
    clear e
    go_enter Tryz.func187, Tryz.ntmps187
    go_wp2_with fail
    go_ret
    exact ⟨rfl, rfl⟩
/-- a row of strings -/
def RowB (w : World) (base : Nat) (v : Value) (D : List ByteArray) : Prop := w.ownsRow base 9 1 v D.length (D.map Value.string)
theorem RowB.len {w : World} {base : Nat} {v : Value} {D : List ByteArray} (h : RowB w base v D) : ∃ p c, v = .slice p D.length c := by
  rcases h.2 with ⟨rfl, hn⟩ | ⟨g, cap, cur, rfl, _⟩
  · exact ⟨none, 0, by rw [hn]⟩
  · exact ⟨_, cap, rfl⟩
theorem RowB.small {w : World} {base : Nat} {v : Value} {D : List ByteArray} (h : RowB w base v D) : D.length ≤ maxLen := by
  rcases h.2 with ⟨rfl, hn⟩ | ⟨g, cap, cur, rfl, _, hg, hh1, hh2, _⟩
  · omega
  · omega
def bsD (D : List ByteArray) : List Seg := D.map fun d => d.data.toList
theorem info_str : (Tryz.prog.info? 9).map (fun i => (i.zero, i.size, i.bytes)) = some (some (.string ByteArray.empty), 1, 16) := by kernel_rfl
theorem piece_list (s : ByteArray) (a b : Nat) : (s.extract a b).data.toList = (s.data.toList.drop a).take (b - a) := by
  rw [ByteArray.data_extract, Array.toList_extract]
def SplRel (s : ByteArray) (o : Option (List Seg)) (w : World) (u f i : Value) (wr : World) : Prop :=
  ∃ (k g : Nat) (D : List ByteArray), i = .int .i64 k ∧ f = .int .i64 g ∧ D.length ≤ 4 ∧ RowB wr w.heap.size u D ∧ Mod [] w wr ∧
    ((k ≤ s.size ∧ g ≤ k ∧ Hid (splGo (bsD D) ((s.data.toList.drop g).take (k - g)) (s.data.toList.drop k) = o)) ∨ (k = s.size + 1 ∧ Hid (o = some (bsD D))))
/-- what Split answers -/
def SplitTo (w : World) (s : ByteArray) (e : Ending) (w' : World) : Prop :=
  (pathOk s.data.toList = false ∧ e = .returned (.tuple #[.slice none 0 0, .int .i64 10]) ∧ Mod [] w w') ∨
  (pathOk s.data.toList = true ∧ ∃ (v : Value) (D : List ByteArray), e = .returned (.tuple #[v, .int .i64 0]) ∧ bsD D = segsOf s.data.toList ∧ RowB w' w.heap.size v D ∧ Mod [] w w')
theorem split_some {w : World} {s : ByteArray} {D : List ByteArray} {v : Value} {w' : World} (hne : s.data.toList ≠ []) (h : splGo [] [] s.data.toList = some (bsD D)) (hr : RowB w' w.heap.size v D) (hm : Mod [] w w') :
    SplitTo w s (.returned (.tuple #[v, .int .i64 0])) w' := by
  rw [splGo_path hne] at h
  by_cases hp : pathOk s.data.toList = true
  · rw [if_pos hp] at h
    exact .inr ⟨hp, v, D, rfl, (Option.some.inj h).symm, hr, hm⟩
  · rw [if_neg hp] at h; cases h
theorem split_none {w : World} {s : ByteArray} {w' : World} (hne : s.data.toList ≠ []) (h : splGo [] [] s.data.toList = none) (hm : Mod [] w w') :
    SplitTo w s (.returned (.tuple #[.slice none 0 0, .int .i64 10])) w' := by
  rw [splGo_path hne] at h
  by_cases hp : pathOk s.data.toList = true
  · rw [if_pos hp] at h; cases h
  · exact .inl ⟨by simpa using hp, rfl, hm⟩
theorem spl_cont (s : ByteArray) (D : List Seg) (g k : Nat) (hg : g ≤ k) (hk : k < s.size) (hc : ¬ ((s[k]).toNat : Int) = 47) :
    splGo D ((s.data.toList.drop g).take (k - g)) (s.data.toList.drop k) = splGo D ((s.data.toList.drop g).take (k + 1 - g)) (s.data.toList.drop (k + 1)) := by
  have hl : k < s.data.toList.length := by simpa using hk
  rw [List.drop_eq_getElem_cons hl]
  have e : s.data.toList[k] = s[k] := rfl
  rw [e]
  have e2 : (s.data.toList.drop g).take (k + 1 - g) = (s.data.toList.drop g).take (k - g) ++ [s[k]] := by
    rw [show k + 1 - g = (k - g) + 1 by omega, List.take_succ_eq_append_getElem (by simp; omega)]
    congr 2
    rw [List.getElem_drop]
    simp only [show g + (k - g) = k by omega]
    rfl
  rw [e2]
  show (if ((s[k]).toNat : Int) = 47 then _ else _) = _
  rw [if_neg hc]
theorem spl_cut (s : ByteArray) (D : List Seg) (cur : List UInt8) (k : Nat) (hk : k < s.size) (hc : ((s[k]).toNat : Int) = 47) :
    splGo D cur (s.data.toList.drop k) = if D.length = 4 ∨ segB cur = false then none else splGo (D ++ [cur]) [] (s.data.toList.drop (k + 1)) := by
  have hl : k < s.data.toList.length := by simpa using hk
  rw [List.drop_eq_getElem_cons hl]
  show (if ((s[k]).toNat : Int) = 47 then _ else _) = _
  rw [if_pos hc]
theorem spl_end (s : ByteArray) (D : List Seg) (cur : List UInt8) : splGo D cur (s.data.toList.drop s.size) = if D.length = 4 ∨ segB cur = false then none else some (D ++ [cur]) := by
  rw [List.drop_of_length_le (by simp)]
  rfl
set_option maxHeartbeats 2000000 in
set_option maxRecDepth 100000 in
theorem rsplit_any (s : ByteArray) (hs : s.size ≤ 9223372036854775806) (w : World) : Calls Tryz.prog 178 #[.string s] w fun e w' => SplitTo w s e w' := by
  obtain ⟨i0, hi0, hz0, hs0, hb0⟩ := info_parts info_str
  by_cases h0 : s.data.toList = []
  · have h1 : s.toList.isEmpty = true := by rw [Lib.toList_data, h0]; rfl
    have fin : SplitTo w s (.returned (.tuple #[.slice none 0 0, .int .i64 0])) w :=
      .inr ⟨by rw [h0]; rfl, .slice none 0 0, [], rfl, by rw [h0]; rfl, World.ownsRow_nil _ _ _ _, Mod.refl _ _⟩
    have F := hide fin
    clear h0 fin
    go_enter Tryz.func178, Tryz.ntmps178
    go_wp2_with fail
    go_ret2
    exact F.out
  · have h1 : s.toList.isEmpty = false := by rw [Lib.toList_data]; simpa using h0
    obtain ⟨o, ho⟩ : ∃ o, splGo [] [] s.data.toList = o := ⟨_, rfl⟩
    have H0 := hide (And.intro h0 ho)
    have hst : splGo (bsD []) ((s.data.toList.drop 0).take (0 - 0)) (s.data.toList.drop 0) = o := by simpa [bsD] using ho
    have HST := hide hst
    clear h0 ho hst
    go_enter Tryz.func178, Tryz.ntmps178
    go_wp2_with fail
    go_loopw [4, 5, 6] (fun u f i wr => SplRel s o w u f i wr) (fun _ _ i _ => s.size + 1 - (intOf i).toNat)
    case atStart => exact ⟨0, 0, [], rfl, rfl, by simp, World.ownsRow_nil _ _ _ _, Mod.refl _ _, .inl ⟨Nat.zero_le _, Nat.le_refl _, HST.out⟩⟩
    case round =>
      obtain ⟨k, g, D, rfl, rfl, hD, hown, hm, hk⟩ := hrel
      have hwr : w.heap.size ≤ wr.heap.size := hm.size
      rcases hk with ⟨hk, hg, hgo⟩ | ⟨hk, hgo⟩
      · have i1 : (0 : Int) ≤ (k : Int) := by omega
        have i3 : (0 : Int) ≤ (g : Int) := by omega
        have i4 : (g : Int) ≤ (k : Int) := by omega
        have i5 : (k : Int) ≤ (s.size : Int) := by omega
        by_cases hcont : ∃ hlt : k < s.size, ¬ ((s[k]).toNat : Int) = 47
        · obtain ⟨hlt, hc⟩ := hcont
          have i2 : (k : Int) < (s.size : Int) := by omega
          have hcb : ((s[k]).toNat : Int) ≤ 255 := by have := (s[k]).toNat_lt; omega
          have HS := hide ((spl_cont s (bsD D) g k hg hlt hc).symm.trans hgo.out)
          generalize hx : ((s[k]).toNat : Int) = x at hc hcb
          clear hgo
          go_wp2_with fail
          go_roundw
          case rel => exact ⟨k + 1, g, D, by go_num, rfl, hD, hown, hm, .inl ⟨by omega, by omega, HS.out⟩⟩
          case measure => simp [intOf]; omega
        · have hcut : ∀ hlt : k < s.size, ((s[k]).toNat : Int) = 47 := fun hlt => Classical.byContradiction fun x => hcont ⟨hlt, x⟩
          clear hcont
          obtain ⟨cur, hcur⟩ : ∃ cur, s.extract g k = cur := ⟨_, rfl⟩
          have hcl : (s.data.toList.drop g).take (k - g) = cur.data.toList := by rw [← hcur, piece_list]
          have hcs : cur.size ≤ s.size := by rw [← hcur, ByteArray.size_extract]; omega
          have hn4 : D.length = 4 ∨ segB cur.data.toList = false → o = none := by
            intro hx
            rw [hcl] at hgo
            by_cases hlt : k < s.size
            · rw [← hgo.out, spl_cut s _ _ k hlt (hcut hlt), if_pos (by simpa [bsD] using hx)]
            · obtain rfl : k = s.size := by omega
              rw [← hgo.out, spl_end s, if_pos (by simpa [bsD] using hx)]
          have hnext : ∀ u' w1, ¬ (D.length = 4 ∨ segB cur.data.toList = false) → w1.ownsRow w.heap.size 9 1 u' (D.length + 1) (D.map Value.string ++ [.string cur]) → (wr.alloc (.cells #[.string cur] 9)).grownBy w1 u4.ownBlock → SplRel s o w u' (.int .i64 ((k : Int) + 1)) (.int .i64 ((k : Int) + 1)) w1 := by
            intro u' w1 hx ho hg1
            have hbs : bsD (D ++ [cur]) = bsD D ++ [cur.data.toList] := by simp [bsD]
            rw [hcl] at hgo
            refine ⟨k + 1, k + 1, D ++ [cur], by go_num, by go_num, by simp; omega, ?_, (hm.alloc _).grown hg1 (fun q e hq => absurd hq (by have := (hown.lt q e).1; omega)), ?_⟩
            · unfold RowB
              rw [List.length_append, List.map_append]
              exact ho
            · by_cases hlt : k < s.size
              · refine .inl ⟨by omega, Nat.le_refl _, ?_⟩
                show _ = o
                rw [hbs, Nat.sub_self, List.take_zero, ← hgo.out, spl_cut s _ _ k hlt (hcut hlt), if_neg (by simpa [bsD] using hx)]
              · obtain rfl : k = s.size := by omega
                refine .inr ⟨rfl, ?_⟩
                show o = _
                rw [hbs, ← hgo.out, spl_end s, if_neg (by simpa [bsD] using hx)]
          have HN4 := hide hn4
          have HNX := hide hnext
          have HM := hide hm
          have hcmp : (k : Int) < (s.size : Int) → ∃ hlt : k < s.size, ((s[k]).toNat : Int) = 47 := fun hlt => ⟨by omega, hcut (by omega)⟩
          obtain ⟨p4, c4, rfl⟩ := hown.len
          clear hn4 hnext hgo hcl hcut
          have hway : ((k : Int) < (s.size : Int) ∧ ∃ hlt : k < s.size, ((s[k]).toNat : Int) = 47) ∨ ¬ (k : Int) < (s.size : Int) := by
            by_cases hlt : (k : Int) < (s.size : Int)
            · exact .inl ⟨hlt, hcmp hlt⟩
            · exact .inr hlt
          clear hcmp
          rcases hway with ⟨hlt, hlt', hc⟩ | hlt
          all_goals
            by_cases h4 : D.length = 4
            · have hO := HN4.out (.inl h4)
              have HO := hide hO
              clear HN4 HNX hO
              go_wp2_with fail
              go_ret2
              exact split_none H0.out.1 (by rw [H0.out.2, HO.out]) HM.out
            · have h4' : ¬ (D.length : Int) = 4 := by omega
              go_wp2_with fail
              refine (rsegment_any cur (by omega) _).mono ?_
              rintro e w' ⟨rfl, rfl⟩
              cases hsg : segB cur.data.toList
              · have hO := HN4.out (.inr hsg)
                have HO := hide hO
                clear HN4 HNX hO hsg
                go_wp2_with fail
                go_ret2
                exact split_none H0.out.1 (by rw [H0.out.2, HO.out]) HM.out
              · have hno : ¬ (D.length = 4 ∨ segB cur.data.toList = false) := by
                  rw [hsg]; simp [h4]
                have HNO := hide hno
                clear HN4 hno hsg h4
                go_wp2_with (at_builtin; refine wpList_append_own _ rfl _ _ 229 rfl w.heap.size 9 i0 _ 1 16 Tryz.underlying229 hi0 hz0 hs0 hb0 rfl (by decide) _ _ _ rfl (hown.alloc _) ⟨w'.heap.size, 0, none⟩ 1 1 [.string cur] rfl rfl (World.news_of_block (cs := #[.string cur]) (t := 9) (fr := (0, 0)) (heap_alloc_new w' _)) (by simp [Value.oneCell']) (by unfold maxLen; omega) (by omega) (by simp; omega) ?_; intro u' w1 ho hg1 _)
                have hN := HNX.out _ _ HNO.out ho hg1
                clear HNX ho hg1 hown
                go_wp2_with fail
                go_roundw
                case rel => exact hN
                case measure => simp [intOf]; omega
      · have hx : ¬ (k : Int) ≤ (s.size : Int) := by omega
        obtain ⟨p4, c4, rfl⟩ := hown.len
        have HO := hide (And.intro hown hm)
        clear hm
        go_wp2_with fail
        go_ret2
        exact split_some H0.out.1 (by rw [H0.out.2, hgo.out]) HO.out.1 HO.out.2
theorem RowB.at_ {w : World} {base n c : Nat} {p : Option Addr} {D : List ByteArray} (h : RowB w base (.slice p n c) D) (i : Nat) (hi : i < D.length) : ∃ b, p = some ⟨b, 0, none⟩ ∧ w.cell? ⟨b, i, none⟩ = some (.string (D.getD i ByteArray.empty)) := by
  have h0 := h
  unfold RowB at h0
  rcases h.2 with ⟨hv, hn⟩ | ⟨g, cap, cur, hv, _⟩
  · omega
  · simp only [Value.slice.injEq] at hv
    obtain ⟨rfl, rfl, rfl⟩ := hv
    refine ⟨g, rfl, ?_⟩
    rw [h0.cellAt _ (by omega)]
    simp [hi]
theorem RowB.mod {w w' : World} {base base' : Nat} {v : Value} {D : List ByteArray} (h : RowB w base v D) (m : Mod [] w w') (hb : base' ≤ base) : RowB w' base' v D := World.ownsRow.mono (m.row h (by simp)) hb
theorem bsD_get {D : List ByteArray} {i : Nat} (hi : i < D.length) : (bsD D).getD i [] = (D.getD i ByteArray.empty).data.toList := by simp [bsD, hi]
theorem bytes_ext {a b : ByteArray} (h : a.data.toList = b.data.toList) : a = b := by
  cases a; cases b
  simp only at h
  rw [Array.toList_inj.1 h]
theorem bsD_prefix {D E : List ByteArray} (h : ∀ j, j < D.length → D.getD j ByteArray.empty = E.getD j ByteArray.empty) (hl : D.length ≤ E.length) : bsD D <+: bsD E := by
  have e : D = E.take D.length := by
    refine List.ext_getElem (by simp; omega) fun j h1 h2 => ?_
    have := h j h1
    rw [List.getElem_take]
    simpa [h1, show j < E.length by omega] using this
  have : bsD D = (bsD E).take D.length := by
    unfold bsD
    rw [← List.map_take, ← e]
  rw [this]
  exact List.take_prefix _ _
theorem bsD_noprefix {D E : List ByteArray} {j : Nat} (hj : j < D.length) (hje : j < E.length) (h : D.getD j ByteArray.empty ≠ E.getD j ByteArray.empty) : ¬ bsD D <+: bsD E := by
  intro hp
  refine h (bytes_ext ?_)
  rw [← bsD_get hj, ← bsD_get hje]
  obtain ⟨t, ht⟩ := hp
  rw [← ht]
  have : j < (bsD D).length := by simpa [bsD] using hj
  simp [List.getElem?_append_left this]
def RCovRel (D E : List ByteArray) (w : World) (i : Value) (wr : World) : Prop := ∃ k : Nat, k ≤ D.length ∧ i = .int .i64 k ∧ Hid (∀ j, j < k → D.getD j ByteArray.empty = E.getD j ByteArray.empty) ∧ Gr w wr
theorem rpvalid_any (s : ByteArray) (hs : s.size ≤ 9223372036854775806) (w : World) : Calls Tryz.prog 161 #[.string s] w fun e w' => e = .returned (.bool (pathOk s.data.toList)) ∧ Mod [] w w' := by
  obtain ⟨b, hb⟩ : ∃ b, pathOk s.data.toList = b := ⟨_, rfl⟩
  rw [hb]
  have HB := hide hb
  clear hb
  go_enter Tryz.func161, Tryz.ntmps161
  go_wp2_with fail
  refine (rsplit_any s hs _).mono ?_
  rintro e w1 (⟨h1, rfl, hm1⟩ | ⟨h1, v1, D, rfl, hD, hr1, hm1⟩)
  · obtain rfl : false = b := by rw [← HB.out, h1]
    clear h1 HB
    go_wp2_with fail
    go_ret
    exact ⟨rfl, hm1⟩
  · obtain rfl : true = b := by rw [← HB.out, h1]
    clear h1 hr1 HB
    go_wp2_with fail
    go_ret
    exact ⟨rfl, hm1⟩
end Go.Proofs.YtpphoeimakjjdaaGreatDoor
