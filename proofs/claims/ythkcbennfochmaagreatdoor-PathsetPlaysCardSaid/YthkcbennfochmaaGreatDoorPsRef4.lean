/-
  WALKS: the document's answers for layer 5: sorted.
-/
import Derived.Test.YthkcbennfochmaaGreatDoorPsRef3
import Derived.IntWalk
namespace Go.Proofs.YthkcbennfochmaaGreatDoor
open Go.RowKit Go.Maps

theorem row_setN {w : World} {base g n c : Nat} {m : List Int} (h : RowN w base (.slice (some ⟨g, 0, none⟩) n c) m) (hn : n = m.length) (i : Nat) (x : Int) : RowN (w.setCell ⟨g, i, none⟩ (.int .i64 x)) base (.slice (some ⟨g, 0, none⟩) n c) (m.set i x) := by
  subst hn
  obtain ⟨hl, ⟨hv, -⟩ | ⟨g', cap, cur, hv, hb, hg, h1, h2, h3, h4⟩⟩ := h
  · cases hv
  · injection hv with e1 _ e3
    injection e1 with e1
    injection e1 with e1
    subst e1 e3
    unfold RowN
    rw [List.length_set]
    refine ⟨by simp, .inr ⟨g, c, cur.setIfInBounds i (.int .i64 x), rfl, hb, blk_set hg i _, h1, h2, by simpa using h3, ?_⟩⟩
    rw [Array.toList_setIfInBounds, List.take_set, h4, List.map_set]
theorem set_get (m : List Int) {i : Nat} (hi : i < m.length) (j : Nat) (x : Int) : (m.set i x).getD j 0 = if i = j then x else m.getD j 0 := by
  simp only [List.getD_eq_getElem?_getD, List.getElem?_set]
  by_cases e : i = j
  · subst e; simp [hi]
  · simp [e]
/-- the part of the list that is in order, but for the number that is on its way -/
def Way (m : List Int) (i k : Nat) : Prop := (∀ a b, a < b → b ≤ i → a ≠ k → b ≠ k → m.getD a 0 ≤ m.getD b 0) ∧ ∀ b, k < b → b ≤ i → m.getD k 0 ≤ m.getD b 0
def Upto (m : List Int) (i : Nat) : Prop := ∀ a b, a < b → b < i → m.getD a 0 ≤ m.getD b 0
def swapN (m : List Int) (k : Nat) : List Int := (m.set k (m.getD (k - 1) 0)).set (k - 1) (m.getD k 0)
theorem swap_len (m : List Int) (k : Nat) : (swapN m k).length = m.length := by simp [swapN]
theorem swap_perm {m : List Int} {k : Nat} (hk : k < m.length) : (swapN m k).Perm m := by
  have h1 : k - 1 < m.length := by omega
  have e1 : m.getD (k - 1) 0 = m[k - 1] := by simp [h1]
  have e2 : m.getD k 0 = m[k] := by simp [hk]
  unfold swapN
  rw [e1, e2]
  exact List.set_set_perm hk h1
theorem way_start {m : List Int} {i : Nat} (h : Upto m i) : Way m i i := ⟨fun a b hab hb ha hb2 => h a b hab (by omega), fun b h1 h2 => by omega⟩
theorem way_step {m : List Int} {i k : Nat} (hk : 0 < k) (hki : k ≤ i) (hl : k < m.length) (h : Way m i k) (hgt : m.getD k 0 < m.getD (k - 1) 0) : Way (swapN m k) i (k - 1) := by
  have hg : ∀ j, (swapN m k).getD j 0 = if k - 1 = j then m.getD k 0 else if k = j then m.getD (k - 1) 0 else m.getD j 0 := fun j => by
    unfold swapN
    rw [set_get _ (by rw [List.length_set]; omega), set_get _ hl]
  refine ⟨fun a b hab hb ha hb2 => ?_, fun b h1 h2 => ?_⟩
  · have na : ¬ k - 1 = a := fun e => ha e.symm
    have nb : ¬ k - 1 = b := fun e => hb2 e.symm
    rw [hg a, hg b, if_neg na, if_neg nb]
    by_cases e1 : k = a
    · subst e1
      have nb2 : ¬ k = b := by omega
      rw [if_pos rfl, if_neg nb2]
      exact h.1 (k - 1) b (by omega) hb (by omega) (by omega)
    · rw [if_neg e1]
      by_cases e2 : k = b
      · subst e2
        rw [if_pos rfl]
        exact h.1 a (k - 1) (by omega) (by omega) (by omega) (by omega)
      · rw [if_neg e2]
        exact h.1 a b hab hb (fun e => e1 e.symm) (fun e => e2 e.symm)
  · have nb : ¬ k - 1 = b := by omega
    rw [hg (k - 1), hg b, if_pos rfl, if_neg nb]
    by_cases e2 : k = b
    · rw [if_pos e2]; omega
    · rw [if_neg e2]
      exact h.2 b (by omega) h2
theorem way_end {m : List Int} {i k : Nat} (hki : k ≤ i) (h : Way m i k) (hx : k = 0 ∨ ¬ m.getD k 0 < m.getD (k - 1) 0) : Upto m (i + 1) := by
  intro a b hab hb
  by_cases e1 : a = k
  · subst e1; exact h.2 b hab (by omega)
  · by_cases e2 : b = k
    · subst e2
      rcases hx with hx | hx
      · omega
      · by_cases e3 : a = b - 1
        · subst e3; omega
        · have := h.1 a (b - 1) (by omega) (by omega) e1 (by omega)
          omega
    · exact h.1 a b hab (by omega) e1 e2
theorem upto_sorted {m : List Int} {i : Nat} (h : Upto m i) (hi : m.length ≤ i) : m.Pairwise (· ≤ ·) := by
  rw [List.pairwise_iff_getElem]
  intro a b ha hb hab
  have := h a b hab (by omega)
  simpa [ha, hb] using this
def SrtRel (w : World) (base : Nat) (v : Value) (xs : List Int) (i : Value) (wr : World) : Prop := ∃ (k : Nat) (m : List Int), i = .int .i64 k ∧ 1 ≤ k ∧ (k ≤ xs.length ∨ k = 1) ∧ m.Perm xs ∧ Upto m k ∧ RowN wr base v m ∧ Mod (obl v) w wr
def SrtRel2 (w : World) (base : Nat) (v : Value) (xs : List Int) (i : Nat) (kv : Value) (wr : World) : Prop := ∃ (k : Nat) (m : List Int), kv = .int .i64 k ∧ k ≤ i ∧ m.Perm xs ∧ Way m i k ∧ RowN wr base v m ∧ Mod (obl v) w wr
set_option maxHeartbeats 2000000 in
set_option maxRecDepth 100000 in
theorem rsorted_any {w : World} {base : Nat} {v : Value} {xs : List Int} (h : RowN w base v xs) (hl : xs.length ≤ 64) : Calls Tryz.prog 40 #[v] w fun e w' => e = .returned v ∧ RowN w' base v (sortI xs) ∧ Mod (obl v) w w' := by
  obtain ⟨q, c, rfl⟩ := h.form
  have HX := hide h
  clear h
  go_enter Tryz.func40, Tryz.ntmps40
  go_wp2_with fail
  go_loopw [3] (fun i wr => SrtRel w base (.slice q xs.length c) xs i wr) (fun i _ => xs.length - (intOf i).toNat)
  case atStart => exact ⟨1, xs, rfl, Nat.le_refl _, .inr rfl, .refl _, fun a b h1 h2 => by omega, HX.out, Mod.refl _ _⟩
  case round =>
    obtain ⟨i, m, rfl, hi1, hi2, hpm, hup, hrow, hmd⟩ := hrel
    have HR := hide (And.intro hpm (And.intro hup (And.intro hrow hmd)))
    clear hpm hup hrow hmd
    by_cases hlt : i < xs.length
    · have i1 : (i : Int) < (xs.length : Int) := by omega
      obtain ⟨g, rfl⟩ : ∃ g, q = some ⟨g, 0, none⟩ := by
        obtain ⟨q', c', e, -, hq⟩ := row_form HX.out
        injection e with e1 _ _
        rcases hq with ⟨-, h0⟩ | ⟨g, cur, e2, -⟩
        · omega
        · exact ⟨g, e1.trans e2⟩
      go_wp2_with fail
      go_loopw [4] (fun kv wr => SrtRel2 w base (.slice (some ⟨g, 0, none⟩) xs.length c) xs i kv wr) (fun kv _ => (intOf kv).toNat)
      case atStart => exact ⟨i, m, rfl, Nat.le_refl _, HR.out.1, way_start HR.out.2.1, HR.out.2.2.1, HR.out.2.2.2⟩
      case round =>
        clear HR
        obtain ⟨k, m2, rfl, hki, hpm2, hway, hrow2, hmd2⟩ := hrel
        have hlm : m2.length = xs.length := hpm2.length_eq
        have HL := hide hlm
        by_cases hk0 : k = 0
        · subst hk0
          have HR2 := hide (And.intro hpm2 (And.intro (way_end hki hway (.inl rfl)) (And.intro hrow2 hmd2)))
          clear hpm2 hway hrow2 hmd2 hlm
          go_wp2_with fail
          go_quiet (fail)
          go_wp2_with fail
          go_roundw
          case rel => exact ⟨i + 1, m2, by go_num, by omega, .inl (by omega), HR2.out.1, HR2.out.2.1, HR2.out.2.2.1.mod ((Mod.refl [] _).drewN _) (by simp), HR2.out.2.2.2.drewN _⟩
          case measure => simp [intOf]; omega
        · have hrow3 := hrow2
          unfold RowN at hrow3
          rw [hlm] at hrow3
          have c0 := World.ownsRow.cellAt hrow3 k (by omega)
          have c1 := World.ownsRow.cellAt hrow3 (k - 1) (by omega)
          have e0 : (m2.map (Value.int .i64))[k]? = some (.int .i64 (m2.getD k 0)) := by
            have : k < m2.length := by omega
            simp [this]
          have e1 : (m2.map (Value.int .i64))[k - 1]? = some (.int .i64 (m2.getD (k - 1) 0)) := by
            have : k - 1 < m2.length := by omega
            simp [this]
          rw [e0] at c0
          rw [e1] at c1
          have F := World.ownsRow.frozenAt hrow3
          have j0 : 0 < k := by omega
          have j1 : IntKind.i64.wrap ((k : Int) - 1) = (k : Int) - 1 := IntWalk.i64_in _ (by omega)
          have j2 : (0 : Int) ≤ (k : Int) := by omega
          have j3 : (0 : Int) ≤ (k : Int) - 1 := by omega
          have j4 : (k : Int) - 1 < (xs.length : Int) := by omega
          have j5 : ((k : Int) - 1).toNat = k - 1 := by omega
          have j6 : (k : Int) < (xs.length : Int) := by omega
          obtain ⟨x, hx⟩ : ∃ x, m2.getD k 0 = x := ⟨_, rfl⟩
          obtain ⟨y, hy⟩ : ∃ y, m2.getD (k - 1) 0 = y := ⟨_, rfl⟩
          rw [hx] at c0
          rw [hy] at c1
          have HXY := hide (And.intro hx hy)
          have HR2 := hide (And.intro hpm2 (And.intro hway (And.intro hrow2 hmd2)))
          clear hpm2 hway hrow2 hmd2 hlm hrow3 e0 e1 hx hy
          by_cases hgt : x < y
          · go_wp2_with fail
            go_quiet (fail)
            go_wp2_with fail
            go_roundw
            case rel =>
              obtain ⟨hpm2, hway, hrow2, hmd2⟩ := HR2.out
              have hlm := HL.out
              have r1 := row_setN (hrow2.mod ((Mod.refl [] wr).drewN nq) (by simp)) hlm.symm k y
              have r2 := row_setN r1 (by rw [List.length_set]; exact hlm.symm) (k - 1) x
              have es : swapN m2 k = (m2.set k y).set (k - 1) x := by unfold swapN; rw [HXY.out.1, HXY.out.2]
              refine ⟨k - 1, swapN m2 k, by congr 1; omega, by omega, (swap_perm (by omega)).trans hpm2, way_step (by omega) hki (by omega) hway (by rw [HXY.out.1, HXY.out.2]; exact hgt), by rw [es]; exact r2, ?_⟩
              exact ((hmd2.drewN nq).setCell (p := ⟨g, k, none⟩) (fun _ => by simp [obl, Value.ownBlock]) _).setCell (p := ⟨g, k - 1, none⟩) (fun _ => by simp [obl, Value.ownBlock]) _
            case measure => simp [intOf]; omega
          · go_wp2_with fail
            go_quiet (fail)
            go_wp2_with fail
            go_roundw
            case rel => exact ⟨i + 1, m2, by go_num, by omega, .inl (by omega), HR2.out.1, way_end hki HR2.out.2.1 (.inr (by rw [HXY.out.1, HXY.out.2]; omega)), HR2.out.2.2.1.mod ((Mod.refl [] _).drewN _) (by simp), HR2.out.2.2.2.drewN _⟩
            case measure => simp [intOf]; omega
    · go_wp2_with fail
      go_ret
      obtain ⟨hpm, hup, hrow, hmd⟩ := HR.out
      have es : sortI xs = m := sortI_eq (upto_sorted hup (by have := hpm.length_eq; omega)) hpm
      rw [es]
      exact ⟨rfl, hrow, hmd⟩
end Go.Proofs.YthkcbennfochmaaGreatDoor
