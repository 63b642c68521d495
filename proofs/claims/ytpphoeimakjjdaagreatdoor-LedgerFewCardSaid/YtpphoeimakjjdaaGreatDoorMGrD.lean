/-
  WALKS: slices.Delete at grants, one grant; Insert and Delete over grants of one's own.
-/
import Derived.Test.YtpphoeimakjjdaaGreatDoorMGrI
import Derived.Lib.SliceRun
namespace Go.Proofs.YtpphoeimakjjdaaGreatDoor
open Go.RowKit

theorem run_zero_grant (w : World) : (zeroValue 40).run Tryz.prog w = .ok (aggG Grt.zero (.slice none 0 0)) w := by kernel_rfl
set_option maxHeartbeats 1000000 in
set_option maxRecDepth 100000 in
/-- one grant struck -/
theorem del_one {w : World} {g cap i m : Nat} {A Y B R : List Value} (hr : i + 1 + m ≤ cap) (hm : cap ≤ 9223372036854775807) (hA : A.length = i * 6) (hY : Y.length = 6) (hB : B.length = m * 6)
    (hb : w.heap[g]? = some (.cells (A ++ (Y ++ (B ++ R))).toArray 40 (0, 0))) (h1B : ∀ v ∈ B, v.oneCell' = true) :
    Calls Tryz.prog 125 #[.slice (some ⟨g, 0, none⟩) (i + 1 + m) cap, .int .i64 (i : Int), .int .i64 ((i : Int) + 1)] w fun e w' => ∃ Z : List Value, e = .returned (.slice (some ⟨g, 0, none⟩) (i + m) cap) ∧
      w'.heap[g]? = some (.cells (A ++ (B ++ (Z ++ R))).toArray 40 (0, 0)) ∧ Z.length = 6 ∧ Mod [g] w w' := by
  obtain ⟨i0, hi0, hz0, hs0, hb0⟩ := info_parts info_grant
  obtain ⟨O, T, hOT, hO, hT⟩ : ∃ O T, Y ++ B = O ++ T ∧ O.length = B.length ∧ T.length = 6 := ⟨(Y ++ B).take B.length, (Y ++ B).drop B.length, (List.take_append_drop _ _).symm, by simp, by simp; omega⟩
  have hb' : w.drew.heap[g]? = some (.cells (A ++ O ++ (T ++ R)).toArray 40 (0, 0)) := by
    show w.heap[g]? = _
    rw [hb, show A ++ (Y ++ (B ++ R)) = A ++ ((Y ++ B) ++ R) by simp, hOT]; simp
  obtain ⟨W1, hW1⟩ : ∃ W1, W1 = w.drew.setCells g (0 + i * 6) B := ⟨_, rfl⟩
  have hb1 : W1.heap[g]? = some (.cells (A ++ B ++ T ++ R).toArray 40 (0, 0)) := by
    rw [hW1]
    have := setCells_heap (r := g) (T := 40) B (0 + i * 6) w.drew A O (T ++ R) (by omega) hO hb'
    rw [this]; simp
  have hm1 : Mod [g] w W1 := by rw [hW1]; exact setCells_mod (fun _ => by simp) B _ _ (Mod.refl _ _).drew
  obtain ⟨Z, hZ, hZl⟩ : ∃ Z : List Value, (Builtin.zeroCells (aggG Grt.zero (.slice none 0 0)).cells 1).toList = Z ∧ Z.length = 6 := ⟨_, rfl, by rw [zero_len]; rfl⟩
  have h1Z : ∀ v ∈ Z, v.oneCell' = true := by
    intro v hv
    rw [← hZ] at hv
    have e : (Builtin.zeroCells (aggG Grt.zero (.slice none 0 0)).cells 1).toList = cellsG Grt.zero (.slice none 0 0) := by kernel_rfl
    rw [e] at hv
    exact one_G rfl v hv
  have hcl : ∀ ty dl dc, dl = 1 → (Builtin.clear_ #[32] ty #[.slice (some ⟨g, (i + m) * 6, none⟩) dl dc]).run Tryz.prog W1 = .ok (.tuple #[]) (W1.setCells g ((i + m) * 6) Z) := fun ty dl dc hdl => by
    subst hdl
    have hst := run_storeCells_cells (P := Tryz.prog) g ((i + m) * 6) Z 0 W1 (fun j hj => blk_there hb1 (by simp; omega)) (fun j _ => blk_free hb1 _) h1Z
    simp only [Nat.add_zero] at hst
    have hZ' : (Builtin.zeroCells (Value.agg #[.int .i64 0, .int .i64 0, .string { data := #[] }, .int .i64 0, .slice none 0 0, .int .i64 0]).cells 1).toList = Z := hZ
    simp [Builtin.clear_, run_underlying Tryz.underlying32, hZ', hst]
  have hb2 : (W1.setCells g ((i + m) * 6) Z).heap[g]? = some (.cells (A ++ (B ++ (Z ++ R))).toArray 40 (0, 0)) := by
    have := setCells_heap (r := g) (T := 40) Z ((i + m) * 6) W1 (A ++ B) T R (by simp; omega) (by omega) hb1
    rw [this]; simp
  have hm2 : Mod [g] w (W1.setCells g ((i + m) * 6) Z) := setCells_mod (fun _ => by simp) Z _ _ hm1
  obtain ⟨Ad, hAd, hsrc⟩ : ∃ Ad : Addr, (if cap = i + 1 then (some ⟨g, 0, none⟩ : Option Addr) else some ⟨g, (i + 1) * 6, none⟩) = some Ad ∧ Hid (∀ j v, B[j]? = some v → w.drew.cell? (Ad.add j) = some v) := by
    by_cases h : cap = i + 1
    · refine ⟨⟨g, 0, none⟩, by simp [h], fun j v hv => ?_⟩
      have : B = [] := List.length_eq_zero_iff.1 (by omega)
      rw [this] at hv; simp at hv
    · refine ⟨⟨g, (i + 1) * 6, none⟩, by simp [h], ?_⟩
      exact blk_src (w := w.drew) (T := 40) (A := A ++ Y) (B := B) (R := R) (by show w.heap[g]? = _; rw [hb]; simp) (by simp; omega)
  have s3 : Hid (∀ j, j < B.length → (w.drew.cell? ⟨g, 0 + i * 6 + j, none⟩).isSome = true ∧ w.drew.frozen? ⟨g, 0 + i * 6 + j, none⟩ = false) := fun j hj => ⟨blk_there hb' (by simp; omega), blk_free hb' _⟩
  have hB' := hide hB
  have HE := hide (And.intro hb2 (And.intro hZl hm2))
  have HW := hide hW1
  have H1 := hide h1B
  have hcl1 := fun (ty : TypeId) (dc : Nat) => hcl ty (i + 1 + m - (i + m)) dc (by omega)
  have hic : i ≤ cap := by omega
  have hne : ¬ ((i : Int) = (i : Int) + 1) := by omega
  have hw1 : (((i + 1 + m : Nat) : Int)) = (i : Int) + 1 + (m : Int) := by omega
  have hq1 : (0 : Int) ≤ (i : Int) + 1 := by omega
  have htn : ((i : Int) + 1).toNat = i + 1 := by omega
  have hq5 : (i : Int) ≤ (i : Int) + 1 := by omega
  have hq6 : (i : Int) + 1 ≤ (i : Int) + 1 + (m : Int) := by omega
  clear hb hb' hW1 hb1 hm1 hZ hZl h1Z hb2 hm2 hA hY hB hOT hO hT h1B
  go_enter Tryz.func125, Tryz.ntmps125
  go_wp2_with fail
  go_region_law (refine step_append_room rfl (.tmp 22) (.tmp 25) 32 rfl 40 i0 6 Tryz.underlying32 hi0 hs0 g 0 i cap (by simp [Act.eval, Act.put]) Ad m (cap - (i + 1)) B (by simp [Act.eval, Act.put]) hB'.out hsrc.out H1.out (by omega) s3.out ?_; rw [← HW.out])
  clear hcl
  go_wp2_with fail
  go_ret
  exact ⟨Z, rfl, HE.out⟩

theorem one_L {w : World} {base : Nat} {v : Value} {lv l : List (Grt × Value)} (h : GrM w base v lv) (hl : ∀ p, p ∈ l → p ∈ lv) : ∀ u ∈ l.flatMap encG, u.oneCell' = true := by
  intro u hu
  obtain ⟨p, hp, hu⟩ := List.mem_flatMap.1 hu
  exact one_G (one_row (h.st p (hl p hp)).1) u hu
theorem flatG_len (l : List (Grt × Value)) : (l.flatMap encG).length = l.length * 6 := flat_length encG 6 encG_len l
/-- grants laid anew in a block -/
theorem GrM.laid {w w' : World} {base : Nat} {v : Value} {L : List (Grt × Value)} {g' G : Nat} {rest : List Value} (hst : ∀ p, p ∈ L → w.ownsRow base 3 1 p.2 p.1.stamp.length (p.1.stamp.map (Value.int .i64)) ∧ ∀ k, k ∈ ob p.2 → k ∉ ob v) (hm : Mod (ob v) w w') (hg : g' ∈ ob v ∨ w.heap.size ≤ g') (hbg : base ≤ g')
    (hb : w'.heap[g']? = some (.cells (L.flatMap encG ++ rest).toArray 40 (0, 0))) (h1 : L.length ≤ G) (h2 : G ≤ maxLen) (h3 : (L.flatMap encG ++ rest).length = G * 6) : GrM w' base (.slice (some ⟨g', 0, none⟩) L.length G) L := by
  refine ⟨⟨flatG_len L, .inr ⟨g', G, _, rfl, hbg, hb, h1, h2, by simpa using h3, by rw [List.toList_toArray, List.take_append_of_le_length (by rw [flatG_len]; exact Nat.le_refl _), List.take_of_length_le (by rw [flatG_len]; exact Nat.le_refl _)]⟩⟩, fun p hp => ⟨hm.row (hst p hp).1 (fun k hk => (hst p hp).2 k (by simpa [ob] using hk)), fun k hk hk2 => ?_⟩⟩
  have hk2 : k = g' := by simpa [ob, Value.ownBlock] using hk2
  subst hk2
  rcases hg with e | e
  · exact (hst p hp).2 k hk e
  · have := (ob_of_row (hst p hp).1 k hk).2
    omega
theorem ob_some (g n c : Nat) : ob (.slice (some ⟨g, 0, none⟩) n c) = [g] := rfl
/-- one grant laid in between -/
def insP (lv : List (Grt × Value)) (i : Nat) (x : Grt × Value) : List (Grt × Value) := lv.take i ++ x :: lv.drop i
set_option maxRecDepth 100000 in
theorem insG_any {w : World} {base : Nat} {v : Value} {lv : List (Grt × Value)} (h : GrM w base v lv) (hn : lv.length ≤ 100000) (hbase : base ≤ w.heap.size) {i : Nat} (hi : i ≤ lv.length) {k : Nat} {x : Grt} {sv : Value}
    (hk : w.heap[k]? = some (.cells (cellsG x sv).toArray 40 (0, 0))) (hkv : k ∉ ob v) (hst : w.ownsRow base 3 1 sv x.stamp.length (x.stamp.map (Value.int .i64))) (hap : ∀ k, k ∈ ob sv → k ∉ ob v) :
    Calls Tryz.prog 123 #[v, .int .i64 (i : Int), .slice (some ⟨k, 0, none⟩) 1 1] w fun e w' => ∃ v', e = .returned v' ∧ GrM w' base v' (insP lv i (x, sv)) ∧ Mod (ob v) w w' ∧ (∀ k, k ∈ ob v' → k ∈ ob v ∨ w.heap.size ≤ k) := by
  have hall : ∀ p, p ∈ insP lv i (x, sv) → w.ownsRow base 3 1 p.2 p.1.stamp.length (p.1.stamp.map (Value.int .i64)) ∧ ∀ k, k ∈ ob p.2 → k ∉ ob v := by
    intro p hp
    rcases List.mem_append.1 hp with hp | hp
    · exact h.st p (List.mem_of_mem_take hp)
    · rcases List.mem_cons.1 hp with rfl | hp
      · exact ⟨hst, hap⟩
      · exact h.st p (List.mem_of_mem_drop hp)
  have hil : (insP lv i (x, sv)).length = lv.length + 1 := by simp [insP]; omega
  obtain ⟨q, c, rfl, hmx⟩ := h.shape
  by_cases hlt : i < lv.length
  · obtain ⟨-, g, rest, rfl, hbg, hb, hc1, hc2, htot⟩ := h.block (by omega)
    have hA : ((lv.take i).flatMap encG).length = i * 6 := by rw [flatG_len, List.length_take, Nat.min_eq_left (by omega)]
    have hB : ((lv.drop i).flatMap encG).length = (lv.length - i) * 6 := by rw [flatG_len, List.length_drop]
    have hsp : lv.flatMap encG = (lv.take i).flatMap encG ++ (lv.drop i).flatMap encG := by rw [← List.flatMap_append, List.take_append_drop]
    have hins : (insP lv i (x, sv)).flatMap encG = (lv.take i).flatMap encG ++ (cellsG x sv ++ (lv.drop i).flatMap encG) := by
      simp [insP, encG]
    have h1B := one_L h (l := lv.drop i) (fun p hp => List.mem_of_mem_drop hp)
    have h1X := one_G (g := x) (one_row hst)
    rw [ob_some] at hkv hall ⊢
    by_cases hroom : lv.length + 1 ≤ c
    · have hrl : 6 ≤ rest.length := by rw [List.length_append, flatG_len] at htot; omega
      refine (ins_shift (A := (lv.take i).flatMap encG) (B := (lv.drop i).flatMap encG) (C := rest.take 6) (D := rest.drop 6) (X := cellsG x sv) hlt hroom hc2 hA hB (by simp; omega) rfl (by rw [hb, hsp]; simp) hk (by simpa using hkv) h1B h1X).mono ?_
      rintro e w' ⟨rfl, hb', hm⟩
      have hl := GrM.laid (v := .slice (some ⟨g, 0, none⟩) 0 0) (g' := g) (G := c) (rest := rest.drop 6) hall hm (.inl (by simp [ob_some])) hbg (by rw [hb', hins]; simp) (by rw [hil]; exact hroom) hc2 (by
        rw [List.length_append, flatG_len] at htot
        rw [List.length_append, flatG_len, hil, List.length_drop]
        omega)
      rw [hil] at hl
      exact ⟨_, rfl, hl, hm, fun k hk => .inl hk⟩
    · refine (ins_grow (A := (lv.take i).flatMap encG) (B := (lv.drop i).flatMap encG) (R := rest) (X := cellsG x sv) hlt hc1 (by omega) (by omega) hA hB rfl (by rw [hb, hsp]; simp) hk h1B h1X).mono ?_
      rintro e w' ⟨G, Z, rfl, hb', hG1, hG2, hl, hm⟩
      have hm' : Mod [g] w w' := hm.mono (by simp)
      have hl := GrM.laid (v := .slice (some ⟨g, 0, none⟩) 0 0) (g' := w.heap.size) (G := G) (rest := Z) hall hm' (.inr (Nat.le_refl _)) hbase (by rw [hb', hins]; simp) (by rw [hil]; exact hG1) hG2 (by
        rw [hins]
        simpa using hl)
      rw [hil] at hl
      exact ⟨_, rfl, hl, hm', fun k hk => .inr (by simp only [ob_some, List.mem_singleton] at hk; omega)⟩
  · have he : i = lv.length := by omega
    subst he
    have e : insP lv lv.length (x, sv) = lv ++ [(x, sv)] := by simp [insP]
    rw [e]
    have HG := hide (And.intro h (And.intro hk (And.intro hst hap)))
    clear h hk hst hap hall hkv hil e hlt
    cases q with
    | none =>
      obtain ⟨n, hnl⟩ : ∃ n, lv.length = n := ⟨_, rfl⟩
      have h0 : lv.length = 0 := by
        rcases HG.out.1.row.2 with ⟨hv, hn⟩ | ⟨g, cap, cur, hv, _⟩
        · exact hn
        · simp at hv
      rw [h0]
      have HZ := hide h0
      rw [h0] at HG
      clear h0 hnl hi hn hmx
      go_enter Tryz.func123, Tryz.ntmps123
      go_wp2_with (
        at_builtin
        refine wpList_app_gr w rfl _ _ rfl rfl HG.out.1 (by have := HZ.out; omega) hbase rfl HG.out.2.1 HG.out.2.2.1 HG.out.2.2.2 ?_
        rintro u' w3 hgm3 hm3 ⟨p3, c3, rfl⟩ hu3)
      go_ret
      exact ⟨_, rfl, hgm3, hm3, hu3⟩
    | some a =>
      have hc1 : lv.length ≤ c := by
        rcases HG.out.1.row.2 with ⟨hv, hn⟩ | ⟨g, cap, cur, hv, _, _, hh, _⟩
        · omega
        · simp only [Value.slice.injEq] at hv; omega
      obtain ⟨n, hnl⟩ : ∃ n, lv.length = n := ⟨_, rfl⟩
      rw [hnl] at hc1 hi hn hmx ⊢
      rw [hnl] at HG
      have HN := hide hnl
      clear hnl hmx
      go_enter Tryz.func123, Tryz.ntmps123
      go_wp2_with (
        at_builtin
        refine wpList_app_gr w rfl _ _ rfl rfl HG.out.1 (by have := HN.out; omega) hbase rfl HG.out.2.1 HG.out.2.2.1 HG.out.2.2.2 ?_
        rintro u' w3 hgm3 hm3 ⟨p3, c3, rfl⟩ hu3)
      all_goals
        go_ret
        exact ⟨_, rfl, hgm3, hm3, hu3⟩
theorem delG_any {w : World} {base : Nat} {v : Value} {lv : List (Grt × Value)} (h : GrM w base v lv) {i : Nat} (hi : i < lv.length) :
    Calls Tryz.prog 125 #[v, .int .i64 (i : Int), .int .i64 ((i : Int) + 1)] w fun e w' => ∃ v', e = .returned v' ∧ GrM w' base v' (lv.take i ++ lv.drop (i + 1)) ∧ Mod (ob v) w w' ∧ (∀ k, k ∈ ob v' → k ∈ ob v) := by
  obtain ⟨q, c, rfl, hmx⟩ := h.shape
  obtain ⟨-, g, rest, rfl, hbg, hb, hc1, hc2, htot⟩ := h.block (by omega)
  have hA : ((lv.take i).flatMap encG).length = i * 6 := by rw [flatG_len, List.length_take, Nat.min_eq_left (by omega)]
  have hB : ((lv.drop (i + 1)).flatMap encG).length = (lv.length - (i + 1)) * 6 := by rw [flatG_len, List.length_drop]
  have hsp : lv.flatMap encG = (lv.take i).flatMap encG ++ (encG (lv.getD i default) ++ (lv.drop (i + 1)).flatMap encG) := by
    have e : lv = lv.take i ++ lv.getD i default :: lv.drop (i + 1) := by
      simp [hi]
    conv => lhs; rw [e]
    simp
  have hil : (lv.take i ++ lv.drop (i + 1)).length = i + (lv.length - (i + 1)) := by simp; omega
  have hall : ∀ p, p ∈ lv.take i ++ lv.drop (i + 1) → w.ownsRow base 3 1 p.2 p.1.stamp.length (p.1.stamp.map (Value.int .i64)) ∧ ∀ k, k ∈ ob p.2 → k ∉ ob (.slice (some ⟨g, 0, none⟩) lv.length c) := by
    intro p hp
    rcases List.mem_append.1 hp with hp | hp
    · exact h.st p (List.mem_of_mem_take hp)
    · exact h.st p (List.mem_of_mem_drop hp)
  have h1B := one_L h (l := lv.drop (i + 1)) (fun p hp => List.mem_of_mem_drop hp)
  have hd := del_one (A := (lv.take i).flatMap encG) (Y := encG (lv.getD i default)) (B := (lv.drop (i + 1)).flatMap encG) (R := rest) (m := lv.length - (i + 1)) (cap := c) (by omega) hc2 hA rfl hB (by rw [hb, hsp]; simp) h1B
  rw [show i + 1 + (lv.length - (i + 1)) = lv.length by omega] at hd
  refine hd.mono ?_
  rintro e w' ⟨Z, rfl, hb', hZ, hm⟩
  have hl := GrM.laid (v := .slice (some ⟨g, 0, none⟩) lv.length c) (g' := g) (G := c) (rest := Z ++ rest) hall (by rw [ob_some]; exact hm) (.inl (by simp [ob_some])) hbg (by rw [hb']; simp) (by rw [hil]; omega) hc2 (by
    rw [List.length_append, flatG_len] at htot
    rw [List.length_append, flatG_len, hil, List.length_append, hZ]
    omega)
  rw [hil] at hl
  exact ⟨_, rfl, hl, hm, fun k hk => hk⟩
/-- a stamp put in another's place -/
theorem GrM.setSt {w : World} {base : Nat} {g n c : Nat} {lv : List (Grt × Value)} (h : GrM w base (.slice (some ⟨g, 0, none⟩) n c) lv) {i : Nat} (hi : i < lv.length) {s : List Int} {v' : Value} (hst : w.ownsRow base 3 1 v' s.length (s.map (Value.int .i64))) (hap : g ∉ ob v') :
    GrM (w.setCell ⟨g, i * 6 + 4, none⟩ v') base (.slice (some ⟨g, 0, none⟩) n c) (lv.set i ({ (lv.getD i default).1 with stamp := s }, v')) := by
  obtain ⟨rfl, g', rest, hg', hbg, hb, hc1, hc2, htot⟩ := h.block (by omega)
  simp only [Option.some.injEq, Addr.mk.injEq, and_true] at hg'
  subst hg'
  have hm : Mod (ob (.slice (some ⟨g, 0, none⟩) lv.length c)) w (w.setCell ⟨g, i * 6 + 4, none⟩ v') := (Mod.refl _ _).setCell (fun _ => by simp [ob_some]) _
  have hb2 := blk_set hb (i * 6 + 4) v'
  have e : (lv.flatMap encG ++ rest).toArray.setIfInBounds (i * 6 + 4) v' = ((lv.set i ({ (lv.getD i default).1 with stamp := s }, v')).flatMap encG ++ rest).toArray := by
    have h1 : lv = lv.take i ++ lv.getD i default :: lv.drop (i + 1) := by simp [hi]
    have h2 : lv.set i ({ (lv.getD i default).1 with stamp := s }, v') = lv.take i ++ ({ (lv.getD i default).1 with stamp := s }, v') :: lv.drop (i + 1) := by rw [List.set_eq_take_append_cons_drop, if_pos hi]
    have h3 : (lv.flatMap encG ++ rest) = (lv.take i).flatMap encG ++ (encG (lv.getD i default) ++ ((lv.drop (i + 1)).flatMap encG ++ rest)) := by
      conv => lhs; rw [h1]
      simp
    rw [h2, h3, List.setIfInBounds_toArray, List.set_append_right _ _ (by rw [flatG_len]; simp; omega)]
    have h4 : i * 6 + 4 - ((lv.take i).flatMap encG).length = 4 := by rw [flatG_len, List.length_take, Nat.min_eq_left (by omega)]; omega
    rw [h4]
    simp [encG, cellsG]
  rw [e] at hb2
  have hln : (lv.set i ({ (lv.getD i default).1 with stamp := s }, v')).length = lv.length := by simp
  have hl := GrM.laid (w := w) (v := .slice (some ⟨g, 0, none⟩) lv.length c) (g' := g) (G := c) (rest := rest) (base := base) (L := lv.set i ({ (lv.getD i default).1 with stamp := s }, v')) (fun p hp => ?_) hm (.inl (by simp [ob_some])) hbg hb2 (by rw [hln]; exact hc1) hc2 (by
    rw [List.length_append, flatG_len] at htot ⊢
    rw [hln]; exact htot)
  · rw [hln] at hl
    exact hl
  · rcases List.mem_or_eq_of_mem_set hp with hp | rfl
    · exact h.st p hp
    · exact ⟨hst, fun k hk hk2 => by
        rw [ob_some, List.mem_singleton] at hk2
        subst hk2
        exact hap hk⟩
end Go.Proofs.YtpphoeimakjjdaaGreatDoor
