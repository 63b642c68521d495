/-
  WALKS: the document's answer for the agenda: Before, Find, Drop.
-/
import Derived.Test.YtbaphdaipacihaaAgList
namespace Go.Proofs.Ytbaphdaipacihaa
open Go.RowKit Go.Sort Go.Shelf

/-- a slice that reads as l -/
def RdI (w : World) (v : Value) (l : List Item) : Prop :=
  l.length ≤ maxLen ∧ ((∃ p c, v = .slice p 0 c ∧ l = []) ∨ ∃ b off cap, v = .slice (some ⟨b, off, none⟩) l.length cap ∧ b < w.heap.size ∧
    ∀ i, i < l.length → w.cell? ⟨b, off + i * 3, none⟩ = some (.int .i64 (get l i).1) ∧ w.cell? ⟨b, off + i * 3 + 1, none⟩ = some (.int .i64 (get l i).2.1) ∧ w.cell? ⟨b, off + i * 3 + 2, none⟩ = some (.int .i64 (get l i).2.2))
theorem RdI.mod {w w' : World} {v : Value} {l : List Item} (h : RdI w v l) {S : List Nat} (m : Mod S w w') (h1 : ∀ k, k ∈ ob v → k ∉ S) : RdI w' v l := by
  refine ⟨h.1, h.2.imp id ?_⟩
  rintro ⟨b, off, cap, rfl, hb, hc⟩
  have hs : b ∉ S := h1 b (by simp [ob, Value.ownBlock])
  exact ⟨b, off, cap, rfl, Nat.lt_of_lt_of_le hb m.size, fun i hi => ⟨m.kept (hc i hi).1 hs, m.kept (hc i hi).2.1 hs, m.kept (hc i hi).2.2 hs⟩⟩
theorem RdI.gr {w w' : World} {v : Value} {l : List Item} (h : RdI w v l) (g : Gr w w') : RdI w' v l := h.mod (g.mod []) (by simp)
theorem RdI.of_row {w : World} {v : Value} {l : List Item} {base : Nat} {T : TypeId} (h : w.ownsRow base T 3 v l.length (l.flatMap encI)) : RdI w v l := by
  rcases h.2 with ⟨rfl, hn⟩ | ⟨g, cap, cur, rfl, _, hg, hh1, hh2, _⟩
  · exact ⟨by omega, .inl ⟨none, 0, rfl, List.length_eq_zero_iff.1 hn⟩⟩
  · refine ⟨by omega, .inr ⟨g, 0, cap, rfl, lt_of_block hg, fun i hi => ?_⟩⟩
    rw [Nat.zero_add]
    exact row_cell h rfl i hi
theorem RdI.len {w : World} {v : Value} {l : List Item} (h : RdI w v l) : ∃ p c, v = .slice p l.length c := by
  rcases h.2 with ⟨p, c, rfl, rfl⟩ | ⟨b, off, cap, rfl, _⟩
  · exact ⟨p, c, rfl⟩
  · exact ⟨_, cap, rfl⟩
theorem RdI.at_ {w : World} {v : Value} {l : List Item} (h : RdI w v l) (i : Nat) (hi : i < l.length) : ∃ b off cap, v = .slice (some ⟨b, off, none⟩) l.length cap ∧ b < w.heap.size ∧
    ∀ i, i < l.length → w.cell? ⟨b, off + i * 3, none⟩ = some (.int .i64 (get l i).1) ∧ w.cell? ⟨b, off + i * 3 + 1, none⟩ = some (.int .i64 (get l i).2.1) ∧ w.cell? ⟨b, off + i * 3 + 2, none⟩ = some (.int .i64 (get l i).2.2) := by
  rcases h.2 with ⟨_, c, rfl, rfl⟩ | hx
  · simp at hi
  · exact hx

theorem idxD_hit {d : List Item} {kd key : Int} {k : Nat} (hk : k < d.length) (hb : isB kd key (get d k) = true) (hn : ∀ j, j < k → isB kd key (get d j) = false) : idxD d kd key = k := by
  have := Lib.idxBy_hit (fun _ y => isB kd key y) d d.length k default hk (Nat.le_refl _) (by simpa [get, hk] using hb) (fun j hj => by have := hn j hj; simpa [get, show j < d.length by omega] using this)
  rwa [List.take_of_length_le (Nat.le_refl _)] at this
theorem idxD_miss {d : List Item} {kd key : Int} (hn : ∀ j, j < d.length → isB kd key (get d j) = false) : idxD d kd key = -1 := by
  have := Lib.idxBy_miss (fun _ y => isB kd key y) d d.length default (fun j hj => by have := hn j hj; simpa [get, hj] using this)
  rwa [List.take_of_length_le (Nat.le_refl _)] at this

set_option maxHeartbeats 400000 in
theorem rfind_any {w : World} {v : Value} {l : List Item} (h : RdI w v l) (kd key : Int) :
    Calls Try.prog 15 #[v, .int .i64 kd, .int .i64 key] w fun e w' => e = .returned (.int .i64 (idxD l kd key)) ∧ w = w' := by
  have hm : l.length ≤ 9223372036854775807 := h.1
  by_cases h0 : l = []
  · subst h0
    obtain ⟨p, c, rfl⟩ := h.len
    clear h
    go_enter Try.func15, Try.ntmps15
    go_wp2
    refine wp_loop_rounds 1 ?_
    rw [rounds_succ]
    go_wp2
    go_ret
    exact ⟨rfl, rfl⟩
  · obtain ⟨b, off, cap, rfl, hbw, hc⟩ := h.at_ 0 (List.length_pos_iff.2 h0)
    clear h h0
    go_enter Try.func15, Try.ntmps15
    go_wp2
    go_loop [6, 7] (fun _ i => ∃ k : Nat, k ≤ l.length ∧ i = .int .i64 k ∧ Hid (∀ j, j < k → isB kd key (get l j) = false)) (fun _ i => l.length - (intOf i).toNat)
    case atStart => exact ⟨0, Nat.zero_le _, rfl, fun j hj => absurd hj (Nat.not_lt_zero _)⟩
    case round =>
      obtain ⟨k, hk, rfl, hn⟩ := hrel
      by_cases hlt : k < l.length
      · obtain ⟨c1, c2, c3⟩ := hc k hlt
        clear hc
        have i0 : (0 : Int) ≤ (k : Int) := by omega
        have i1 : (k : Int) < (l.length : Int) := by omega
        obtain ⟨⟨x1, x2, x3⟩, hx⟩ : ∃ x, x = get l k := ⟨_, rfl⟩
        rw [← hx] at c1 c2 c3
        have HX := hide hx
        clear hx
        by_cases e1 : x2 = kd
        · by_cases e2 : x3 = key
          · have b1 : (x2 == kd) = true := by simpa using e1
            have b2 : (x3 == key) = true := by simpa using e2
            have E1 := hide e1
            have E2 := hide e2
            clear e1 e2
            go_wp2
            go_ret
            exact ⟨by rw [idxD_hit hlt (by rw [← HX.out, isB_iff]; exact ⟨E1.out, E2.out⟩) hn.out]; rfl, rfl⟩
          · have b1 : (x2 == kd) = true := by simpa using e1
            have b2 : (x3 == key) = false := by simpa using e2
            have E2 := hide e2
            clear e1 e2
            go_wp2
            go_round
            case rel => exact ⟨k + 1, by omega, by go_num, fun j hj => by
              by_cases e : j = k
              · subst e; rw [← HX.out, isB_false]; exact fun x => E2.out x.2
              · exact hn.out j (by omega)⟩
            case measure => simp [intOf]; omega
        · have b1 : (x2 == kd) = false := by simpa using e1
          have E1 := hide e1
          clear e1
          go_wp2
          go_round
          case rel => exact ⟨k + 1, by omega, by go_num, fun j hj => by
            by_cases e : j = k
            · subst e; rw [← HX.out, isB_false]; exact fun x => E1.out x.1
            · exact hn.out j (by omega)⟩
          case measure => simp [intOf]; omega
      · clear hc
        go_wp2
        go_ret
        exact ⟨by rw [idxD_miss (fun j hj => hn.out j (by omega))]; rfl, rfl⟩

theorem dropI_take (l : List Item) (k : Nat) (hk : k < l.length) (kd key : Int) : dropI (l.take (k + 1)) kd key = if isB kd key (get l k) = true then dropI (l.take k) kd key else dropI (l.take k) kd key ++ [get l k] := by
  rw [List.take_succ_eq_append_getElem hk]
  have e : l[k] = get l k := by simp [get, hk]
  rw [e]
  unfold dropI
  rw [List.filter_append]
  by_cases h : isB kd key (get l k) = true
  · simp [h]
  · simp [h]
def RDropRel (w : World) (l : List Item) (kd key : Int) (u i : Value) (wr : World) : Prop :=
  ∃ k : Nat, k ≤ l.length ∧ i = .int .i64 k ∧ wr.ownsRow w.heap.size 29 3 u (dropI (l.take k) kd key).length ((dropI (l.take k) kd key).flatMap encI) ∧ Mod [] w wr
/-- a new row that holds m -/
def NewRow2 (w : World) (m : List Item) (x : Value) (e : Ending) (w' : World) : Prop := ∃ v, e = .returned (.tuple #[v, x]) ∧ w'.ownsRow w.heap.size 29 3 v m.length (m.flatMap encI) ∧ Mod [] w w'
theorem flat_snoc (m : List Item) (x1 x2 x3 : Int) : m.flatMap encI ++ [.int .i64 x1, .int .i64 x2, .int .i64 x3] = (m ++ [(x1, x2, x3)]).flatMap encI := by simp [List.flatMap_append, encI]
theorem fresh_mod {w wr w1 : World} {u : Value} {n : Nat} {xs : List Value} {T : TypeId} {sz : Nat} (hown : wr.ownsRow w.heap.size T sz u n xs) (hm : Mod [] w wr) {o : Obj} (hg : (wr.alloc o).grownBy w1 u.ownBlock) : Mod [] w w1 :=
  (hm.alloc o).grown hg (fun k e hk => absurd hk (by have := (hown.lt k e).1; omega))

set_option maxHeartbeats 1000000 in
theorem rdrop_any {w : World} {v : Value} {l : List Item} (h : RdI w v l) (hsm : l.length ≤ 100000) (kd key : Int) :
    Calls Try.prog 12 #[v, .int .i64 kd, .int .i64 key] w fun e w' => NewRow2 w (dropI l kd key) (.bool (decide ((dropI l kd key).length < l.length))) e w' := by
  obtain ⟨i0, hi0, hz0, hz1, hz2⟩ := info_parts info_item
  obtain ⟨p, cap, hv⟩ := h.len
  subst hv
  go_enter Try.func12, Try.ntmps12
  go_wp2
  go_loopw [8, 9] (fun u i wr => RDropRel w l kd key u i wr) (fun _ i _ => l.length - (intOf i).toNat)
  case atStart => exact ⟨0, Nat.zero_le _, rfl, World.ownsRow_nil _ _ _ _, Mod.refl _ _⟩
  case round =>
    obtain ⟨k, hk, rfl, hown, hm⟩ := hrel
    have hwr : w.heap.size ≤ wr.heap.size := hm.size
    by_cases hlt : k < l.length
    · have hr := h.mod hm (by simp)
      obtain ⟨b, off, cap', hv, hbw, hc⟩ := hr.at_ k hlt
      injection hv with e1 e2 e3
      subst e1 e3
      obtain ⟨c1, c2, c3⟩ := hc k hlt
      have hstep := dropI_take l k hlt kd key
      have hle : (dropI (l.take k) kd key).length ≤ k := by
        have := (dropI_sub (l.take k) kd key).length_le
        simp at this; omega
      clear hc h hr
      have i1 : (0 : Int) ≤ (k : Int) := by omega
      have i2 : (k : Int) < (l.length : Int) := by omega
      obtain ⟨⟨x1, x2, x3⟩, hx⟩ : ∃ x, x = get l k := ⟨_, rfl⟩
      rw [← hx] at c1 c2 c3 hstep
      by_cases e1 : x2 = kd ∧ x3 = key
      · rw [if_pos ((isB_iff _ _ _).2 e1)] at hstep
        have b1 : (x2 != kd) = false := by simpa using e1.1
        have b2 : (x3 != key) = false := by simpa using e1.2
        have HS := hide hstep
        clear hstep hx e1
        go_wp2
        go_roundw
        case rel => exact ⟨k + 1, by omega, by go_num, by rw [HS.out]; exact hown, hm⟩
        case measure => simp [intOf]; omega
      · rw [if_neg (fun x => e1 ((isB_iff _ _ _).1 x))] at hstep
        have HS := hide hstep
        generalize dropI (l.take k) kd key = m at hown hle HS
        have fin : ∀ u' w1, w1.ownsRow w.heap.size 29 3 u' (m.length + 1) (m.flatMap encI ++ [.int .i64 x1, .int .i64 x2, .int .i64 x3]) → (wr.alloc (.cells #[.int .i64 x1, .int .i64 x2, .int .i64 x3] 29)).grownBy w1 u8.ownBlock → RDropRel w l kd key u' (.int .i64 ((k : Int) + 1)) w1 := by
          intro u' w1 ho hg
          refine ⟨k + 1, by omega, by go_num, ?_, fresh_mod hown hm hg⟩
          rw [HS.out, List.length_append]
          rw [flat_snoc] at ho
          exact ho
        have F := hide fin
        clear hstep hx fin
        by_cases e2 : x2 = kd
        · have b1 : (x2 != kd) = false := by simpa using e2
          have b2 : (x3 != key) = true := by simp; exact fun x => e1 ⟨e2, x⟩
          clear e1 e2
          go_wp2_with (at_builtin; refine wpList_append_own _ rfl _ _ 32 rfl w.heap.size 29 i0 _ 3 24 Try.underlying32 hi0 hz0 hz1 hz2 rfl (by decide) _ _ _ rfl (hown.alloc _) ⟨wr.heap.size, 0, none⟩ 1 1 [.int .i64 x1, .int .i64 x2, .int .i64 x3] rfl rfl (World.news_of_block (cs := #[.int .i64 x1, .int .i64 x2, .int .i64 x3]) (t := 29) (fr := (0, 0)) (heap_alloc_new wr _)) (by simp [Value.oneCell']) (by unfold maxLen; omega) (by omega) (by simp; omega) ?_; intro u' w1 ho hg _)
          have q := F.out _ _ ho hg
          clear hown ho hg
          go_wp2
          go_roundw
          case rel => exact q
          case measure => simp [intOf]; omega
        · have b1 : (x2 != kd) = true := by simpa using e2
          clear e1 e2
          go_wp2_with (at_builtin; refine wpList_append_own _ rfl _ _ 32 rfl w.heap.size 29 i0 _ 3 24 Try.underlying32 hi0 hz0 hz1 hz2 rfl (by decide) _ _ _ rfl (hown.alloc _) ⟨wr.heap.size, 0, none⟩ 1 1 [.int .i64 x1, .int .i64 x2, .int .i64 x3] rfl rfl (World.news_of_block (cs := #[.int .i64 x1, .int .i64 x2, .int .i64 x3]) (t := 29) (fr := (0, 0)) (heap_alloc_new wr _)) (by simp [Value.oneCell']) (by unfold maxLen; omega) (by omega) (by simp; omega) ?_; intro u' w1 ho hg _)
          have q := F.out _ _ ho hg
          clear hown ho hg
          go_wp2
          go_roundw
          case rel => exact q
          case measure => simp [intOf]; omega
    · have e : k = l.length := by omega
      subst e
      rw [List.take_length] at hown
      have hq : (dropI l kd key).length ≤ maxLen := by have := (dropI_sub l kd key).length_le; unfold maxLen; omega
      have hv : ∃ p c, u8 = .slice p (dropI l kd key).length c := by
        obtain ⟨p, c, e⟩ := (RdI.of_row hown).len
        exact ⟨p, c, e⟩
      obtain ⟨p', c', rfl⟩ := hv
      clear h
      go_wp2
      go_ret2
      exact ⟨_, rfl, hown, hm⟩
end Go.Proofs.Ytbaphdaipacihaa
