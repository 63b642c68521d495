/-
  WALKS: slices.Insert and slices.Delete at grants.
-/
import Derived.Test.YtpphoeimakjjdaaGreatDoorMGrA
import Derived.Test.YtpphoeimakjjdaaGreatDoorMDsk
import Derived.Shelf.Spec.SlicesInsert
import Derived.Lib.AppendZerosOnto
import Derived.Lib.Overlaps
import Derived.Deep.RegionLaw
import Derived.Laws.NewBlocks
namespace Go.Proofs.YtpphoeimakjjdaaGreatDoor
open Go.RowKit

section
variable {P : Program}
/-- copy, elements of six cells -/
theorem run_copy6 (w : World) (dT sT ty elem : TypeId) (b o dLen dCap : Nat) (a : Addr) (sLen sCap k : Nat) (cs : List Value)
    (hu : P.underlying dT = some (.slice elem)) (hs : (P.info? elem).map (·.size) = some 6) (hk : Nat.min sLen dLen = k) (hn : cs.length = k * 6)
    (hsrc : ∀ j v, cs[j]? = some v → w.cell? (a.add j) = some v) (hc : ∀ j, j < cs.length → (w.cell? ⟨b, o + j, none⟩).isSome = true) (hf : ∀ j, j < cs.length → w.frozen? ⟨b, o + j, none⟩ = false) (h1 : ∀ v ∈ cs, v.oneCell' = true) :
    (Builtin.copy_ #[dT, sT] ty #[.slice (some ⟨b, o, none⟩) dLen dCap, .slice (some a) sLen sCap]).run P w = .ok (goInt k) (w.setCells b o cs) := by
  have hl := run_loadCells_list (P := P) w a cs hsrc
  have hst := run_storeCells_cells (P := P) b o cs 0 w (by simpa using hc) (by simpa using hf) h1
  cases hq : P.info? elem with
  | none => simp [hq] at hs
  | some i =>
    have hi : i.size = 6 := by simpa [hq] using hs
    simp [Builtin.copy_, run_underlying hu, Builtin.lenOf, Builtin.firstCells, sizeOf, typeInfo, hq, hi, hk, ← hn, hl, hst]
end
/-- a row of grants as one block -/
theorem GrM.block {w : World} {base : Nat} {q : Option Addr} {n c : Nat} {lv : List (Grt × Value)} (h : GrM w base (.slice q n c) lv) (h0 : 0 < lv.length) :
    n = lv.length ∧ ∃ (g : Nat) (rest : List Value), q = some ⟨g, 0, none⟩ ∧ base ≤ g ∧ w.heap[g]? = some (.cells (lv.flatMap encG ++ rest).toArray 40 (0, 0)) ∧ lv.length ≤ c ∧ c ≤ maxLen ∧ (lv.flatMap encG ++ rest).length = c * 6 := by
  rcases h.row.2 with ⟨hv, hn⟩ | ⟨g, cap, cur, hv, hb, hg, hh1, hh2, hs, ht⟩
  · omega
  · simp only [Value.slice.injEq] at hv
    obtain ⟨rfl, rfl, rfl⟩ := hv
    refine ⟨rfl, g, cur.toList.drop (lv.length * 6), rfl, hb, ?_, hh1, hh2, ?_⟩
    · rw [← ht, List.take_append_drop]; simpa using hg
    · rw [← ht, List.take_append_drop]; simpa using hs
theorem mid_get {A B R : List Value} {o j : Nat} (hA : A.length = o) (hj : j < B.length) : (A ++ (B ++ R))[o + j]? = B[j]? := by
  rw [List.getElem?_append_right (by omega), show o + j - A.length = j by omega, List.getElem?_append_left hj]
theorem blk_src {w : World} {g o : Nat} {A B R : List Value} {T : TypeId} (hb : w.heap[g]? = some (.cells (A ++ (B ++ R)).toArray T (0, 0))) (hA : A.length = o) : ∀ j v, B[j]? = some v → w.cell? ((⟨g, o, none⟩ : Addr).add j) = some v := by
  intro j v hv
  have hj := (List.getElem?_eq_some_iff.1 hv).1
  rw [Addr.add_lit, blk_cell hb, List.getElem?_toArray, mid_get hA hj, hv]
theorem blk_there {w : World} {g o : Nat} {L : List Value} {T : TypeId} (hb : w.heap[g]? = some (.cells L.toArray T (0, 0))) (h : o < L.length) : (w.cell? ⟨g, o, none⟩).isSome = true := by
  rw [blk_cell hb, List.getElem?_toArray, List.getElem?_eq_getElem h]; rfl
theorem shape_blk {w : World} {g : Nat} {L : List Value} {T : TypeId} (hb : w.heap[g]? = some (.cells L.toArray T (0, 0))) : w.shape? g = some (T, L.length) := by
  simp [World.shape?, hb]
theorem overlaps_apart {w : World} {k g : Nat} {X L : List Value} (hk : w.heap[k]? = some (.cells X.toArray 40 (0, 0))) (hb : w.heap[g]? = some (.cells L.toArray 40 (0, 0))) (hL : 0 < L.length) (hne : k ≠ g) (o lb cb : Nat) :
    (callFunc 159 #[.slice (some ⟨k, 0, none⟩) 1 1, .slice (some ⟨g, o, none⟩) lb cb]).run Tryz.prog w = .ok (.value (.bool false)) w := by
  rw [run_callFunc_extern Tryz.func159 (by kernel_rfl) (by kernel_rfl) (by kernel_rfl) (e := Extern.SlicesOverlaps.overlaps #[32, 32] #[4]) (by kernel_rfl),
    Lib.run_overlaps_apart w 32 4 40 Tryz.underlying32 6 Tryz.sizeOf40 ⟨k, 0, none⟩ ⟨g, o, none⟩ 1 1 lb cb hne _ _ _ _ (shape_blk hk) (shape_blk hb) (by omega) (blk_free hk 0) (blk_free hk _)]
  rfl
theorem size_grant : (Tryz.prog.info? 40).map (·.size) = some 6 := by kernel_rfl
set_option maxHeartbeats 1000000 in
set_option maxRecDepth 100000 in
/-- room, and not at the end: in place -/
theorem ins_shift {w : World} {g cap n i k : Nat} {A B C D X : List Value} (hi : i < n) (hr : n + 1 ≤ cap) (hm : cap ≤ 9223372036854775807) (hA : A.length = i * 6) (hB : B.length = (n - i) * 6) (hC : C.length = 6) (hX : X.length = 6)
    (hb : w.heap[g]? = some (.cells (A ++ (B ++ (C ++ D))).toArray 40 (0, 0))) (hk : w.heap[k]? = some (.cells X.toArray 40 (0, 0))) (hne : k ≠ g) (h1B : ∀ v ∈ B, v.oneCell' = true) (h1X : ∀ v ∈ X, v.oneCell' = true) :
    Calls Tryz.prog 123 #[.slice (some ⟨g, 0, none⟩) n cap, .int .i64 (i : Int), .slice (some ⟨k, 0, none⟩) 1 1] w fun e w' => e = .returned (.slice (some ⟨g, 0, none⟩) (n + 1) cap) ∧
      w'.heap[g]? = some (.cells (A ++ (X ++ (B ++ D))).toArray 40 (0, 0)) ∧ Mod [g] w w' := by
  have hz2 : ¬ ((i : Int) = (n : Int)) := by omega
  have hov := fun lb cb => overlaps_apart hk hb (by simp; omega) hne ((i + 1) * 6) lb cb
  obtain ⟨C', O, hCO, hC', hO⟩ : ∃ C' O, B ++ C = C' ++ O ∧ C'.length = 6 ∧ O.length = B.length := ⟨(B ++ C).take 6, (B ++ C).drop 6, (List.take_append_drop 6 _).symm, by simp; omega, by simp; omega⟩
  have hb' : w.heap[g]? = some (.cells ((A ++ C') ++ O ++ D).toArray 40 (0, 0)) := by
    rw [hb, ← List.append_assoc B C D, hCO]; simp
  have hcp1 : ∀ ty dl dc sc, dl = n - i → (Builtin.copy_ #[32, 32] ty #[.slice (some ⟨g, (i + 1) * 6, none⟩) dl dc, .slice (some ⟨g, i * 6, none⟩) (n + 1 - i) sc]).run Tryz.prog w.drew = .ok (goInt (n - i : Nat)) (w.drew.setCells g ((i + 1) * 6) B) := fun ty dl dc sc hdl =>
    run_copy6 w.drew _ _ ty _ g ((i + 1) * 6) _ dc ⟨g, i * 6, none⟩ _ sc (n - i) B Tryz.underlying32 size_grant (by simp only [Nat.min_def]; split <;> omega) hB
      (blk_src (w := w.drew) (R := C ++ D) hb hA) (fun j hj => blk_there (w := w.drew) hb' (by simp; omega)) (fun j _ => blk_free (w := w.drew) hb' _) h1B
  obtain ⟨W1, hW1⟩ : ∃ W1, W1 = w.drew.setCells g ((i + 1) * 6) B := ⟨_, rfl⟩
  rw [← hW1] at hcp1
  have hb1 : W1.heap[g]? = some (.cells (A ++ C' ++ (B ++ D)).toArray 40 (0, 0)) := by
    rw [hW1]
    have := setCells_heap (r := g) (T := 40) B ((i + 1) * 6) w.drew (A ++ C') O D (by simp; omega) hO hb'
    rw [this]; simp
  have hm1 : Mod [g] w W1 := by rw [hW1]; exact setCells_mod (fun _ => by simp) B _ _ (Mod.refl _ _).drew
  have hk1 : W1.heap[k]? = some (.cells X.toArray 40 (0, 0)) := hm1.at_ hk (by simp [hne])
  have hcp2 : ∀ ty dc, (Builtin.copy_ #[32, 32] ty #[.slice (some ⟨g, i * 6, none⟩) (n + 1 - i) dc, .slice (some ⟨k, 0, none⟩) 1 1]).run Tryz.prog W1 = .ok (goInt (1 : Nat)) (W1.setCells g (i * 6) X) := fun ty dc =>
    run_copy6 W1 _ _ ty _ g (i * 6) _ dc ⟨k, 0, none⟩ 1 1 1 X Tryz.underlying32 size_grant (by simp only [Nat.min_def]; split <;> omega) (by omega)
      (blk_src (A := []) (R := []) (by simpa using hk1) rfl) (fun j hj => blk_there hb1 (by simp; omega)) (fun j _ => blk_free hb1 _) h1X
  have hb2 : (W1.setCells g (i * 6) X).heap[g]? = some (.cells (A ++ (X ++ (B ++ D))).toArray 40 (0, 0)) := by
    have := setCells_heap (r := g) (T := 40) X (i * 6) W1 A C' (B ++ D) hA (by omega) hb1
    rw [this]; simp
  have hm2 : Mod [g] w (W1.setCells g (i * 6) X) := setCells_mod (fun _ => by simp) X _ _ hm1
  have HE := hide (And.intro hb2 hm2)
  have hw1 : IntKind.i64.wrap ((i : Int) + 1) = (i : Int) + 1 := by rw [IntKind.wrap_i64]; omega
  have hq1 : (0 : Int) ≤ (i : Int) + 1 := by omega
  have hq6 : (i : Int) + 1 ≤ (n : Int) + 1 := by omega
  have hin : i ≤ n := by omega
  have htn : ((i : Int) + 1).toNat = i + 1 := by omega
  have hq2 : ¬ (cap = i + 1) := by omega
  have hq3 : (i : Int) ≤ (n : Int) + 1 := by omega
  have hq4 : ¬ (cap = i) := by omega
  clear hb hb' hk hb1 hk1 hm1 hb2 hm2 hCO hC' hO hA hB hC hX h1B h1X hW1 hne
  go_enter Tryz.func123, Tryz.ntmps123
  go_wp2_with (simp only [hov])
  go_region_law (refine step_copy_runI rfl _ _ 32 32 rfl _ _ (by simp [Act.eval, Act.put]) (by simp [Act.eval, Act.put]) (hcp1 _ _ _ _ (by omega)) ?_)
  go_wp2_with (at_builtin; refine wpList_copy_runI _ rfl _ _ 32 32 rfl _ _ rfl rfl (hcp2 _ _) ?_)
  go_ret
  exact ⟨rfl, HE.out⟩
theorem zero_len (z : Array Value) (n : Nat) : (Builtin.zeroCells z n).toList.length = n * z.size := by simp [Builtin.zeroCells]
set_option maxHeartbeats 1000000 in
set_option maxRecDepth 100000 in
/-- no room, and not at the end: a new row -/
theorem ins_grow {w : World} {g cap n i k : Nat} {A B R X : List Value} (hi : i < n) (hcap : n ≤ cap) (hr : cap < n + 1) (hbig : n ≤ 1000000) (hA : A.length = i * 6) (hB : B.length = (n - i) * 6) (hX : X.length = 6)
    (hb : w.heap[g]? = some (.cells (A ++ (B ++ R)).toArray 40 (0, 0))) (hk : w.heap[k]? = some (.cells X.toArray 40 (0, 0))) (h1B : ∀ v ∈ B, v.oneCell' = true) (h1X : ∀ v ∈ X, v.oneCell' = true) :
    Calls Tryz.prog 123 #[.slice (some ⟨g, 0, none⟩) n cap, .int .i64 (i : Int), .slice (some ⟨k, 0, none⟩) 1 1] w fun e w' => ∃ (G : Nat) (Z : List Value), e = .returned (.slice (some ⟨w.heap.size, 0, none⟩) (n + 1) G) ∧
      w'.heap[w.heap.size]? = some (.cells (A ++ (X ++ (B ++ Z))).toArray 40 (0, 0)) ∧ n + 1 ≤ G ∧ G ≤ maxLen ∧ (A ++ (X ++ (B ++ Z))).length = G * 6 ∧ Mod [] w w' := by
  obtain ⟨i0, hi0, hz0, hs0, hb0⟩ := info_parts info_grant
  have hz2 : ¬ ((i : Int) = (n : Int)) := by omega
  have hz3 : (cap : Int) < (n : Int) + 1 := by omega
  have hcn : cap = n := by omega
  have hgw : g < w.heap.size := lt_of_block hb
  have hkw : k < w.heap.size := lt_of_block hk
  have hkk : (n : Int) + 1 - (i : Int) = ((n + 1 - i : Nat) : Int) := by omega
  have hik : i + (n + 1 - i) = n + 1 := by omega
  have hold : (Builtin.firstCells i0.size i (.slice (some ⟨g, 0, none⟩) i cap)).run Tryz.prog w.drew = .ok A.toArray w.drew := by
    rw [hs0]
    exact run_firstCells_some w.drew 6 i ⟨g, 0, none⟩ i cap A hA (blk_src (w := w.drew) (A := []) (B := A) (R := B ++ R) hb rfl)
  have hrz : ∀ ty, (Builtin.append_ #[32, 3] ty #[.slice (some ⟨g, 0, none⟩) i cap, .int .i64 ((n : Int) + 1 - (i : Int))]).run Tryz.prog w =
      .ok (.slice (some ⟨w.heap.size, 0, none⟩) (n + 1) (grownCap w (n + 1) cap 40)) (w.drew.alloc (.cells (A.toArray ++ Builtin.zeroCells (aggG Grt.zero (.slice none 0 0)).cells (n + 1 - i) ++ Builtin.zeroCells (aggG Grt.zero (.slice none 0 0)).cells (grownCap w (n + 1) cap 40 - (n + 1))) 40)) := fun ty => by
    have h := Lib.run_append_grow_zeros w 32 3 ty 40 i0 _ .i64 .i64 Tryz.underlying32 Tryz.underlying3 hi0 hz0 (some ⟨g, 0, none⟩) i cap A hold (n + 1 - i) (by omega) (by omega) (by omega) (by omega) (by rw [hb0]; omega) (by rw [hb0, hik]; exact growslice_fits hr (by omega))
    rw [hik] at h
    rw [hkk]
    exact h
  obtain ⟨G, hG⟩ : ∃ G, G = grownCap w (n + 1) cap 40 := ⟨_, rfl⟩
  rw [← hG] at hrz
  have hGn : n + 1 ≤ G := by rw [hG]; exact grownCap_ge w _ _ _
  have hGM : G ≤ maxLen := by rw [hG]; exact grownCap_le_maxLen w (n + 1) cap _ (by unfold maxLen; omega)
  have hG63 : G ≤ 9223372036854775807 := hGM
  have hcs : (aggG Grt.zero (.slice none 0 0)).cells.size = 6 := rfl
  obtain ⟨Z1, hZ1, hZ1l⟩ : ∃ Z1 : List Value, (Builtin.zeroCells (aggG Grt.zero (.slice none 0 0)).cells (n + 1 - i)) = Z1.toArray ∧ Z1.length = (n + 1 - i) * 6 := ⟨_, (Array.toArray_toList).symm, by rw [zero_len, hcs]⟩
  obtain ⟨Z2, hZ2, hZ2l⟩ : ∃ Z2 : List Value, (Builtin.zeroCells (aggG Grt.zero (.slice none 0 0)).cells (G - (n + 1))) = Z2.toArray ∧ Z2.length = (G - (n + 1)) * 6 := ⟨_, (Array.toArray_toList).symm, by rw [zero_len, hcs]⟩
  obtain ⟨X0, B0, hXB, hX0, hB0⟩ : ∃ X0 B0, Z1 = X0 ++ B0 ∧ X0.length = 6 ∧ B0.length = B.length := ⟨Z1.take 6, Z1.drop 6, (List.take_append_drop 6 _).symm, by simp; omega, by simp; omega⟩
  have hrow : A.toArray ++ Builtin.zeroCells (aggG Grt.zero (.slice none 0 0)).cells (n + 1 - i) ++ Builtin.zeroCells (aggG Grt.zero (.slice none 0 0)).cells (G - (n + 1)) = (A ++ X0 ++ (B0 ++ Z2)).toArray := by
    rw [hZ1, hZ2, hXB]; simp
  rw [hrow] at hrz
  obtain ⟨W1, hW1⟩ : ∃ W1, W1 = w.drew.alloc (.cells (A ++ X0 ++ (B0 ++ Z2)).toArray 40) := ⟨_, rfl⟩
  rw [← hW1] at hrz
  have hb1 : W1.heap[w.heap.size]? = some (.cells (A ++ X0 ++ (B0 ++ Z2)).toArray 40 (0, 0)) := by rw [hW1]; exact heap_alloc_new w.drew _
  have hm1 : Mod [] w W1 := by rw [hW1]; exact (Mod.refl _ _).drew.alloc _
  have hk1 := hm1.at_ hk (by simp)
  have hg1 := hm1.at_ hb (by simp)
  have hcpA : ∀ ty dc, (Builtin.copy_ #[32, 32] ty #[.slice (some ⟨w.heap.size, i * 6, none⟩) (n + 1 - i) dc, .slice (some ⟨k, 0, none⟩) 1 1]).run Tryz.prog W1 = .ok (goInt (1 : Nat)) (W1.setCells w.heap.size (i * 6) X) := fun ty dc =>
    run_copy6 W1 _ _ ty _ w.heap.size (i * 6) _ dc ⟨k, 0, none⟩ 1 1 1 X Tryz.underlying32 size_grant (by simp only [Nat.min_def]; split <;> omega) (by omega)
      (blk_src (A := []) (R := []) (by simpa using hk1) rfl) (fun j hj => blk_there hb1 (by simp; omega)) (fun j _ => blk_free hb1 _) h1X
  obtain ⟨W2, hW2⟩ : ∃ W2, W2 = W1.setCells w.heap.size (i * 6) X := ⟨_, rfl⟩
  rw [← hW2] at hcpA
  have hb2 : W2.heap[w.heap.size]? = some (.cells (A ++ X ++ B0 ++ Z2).toArray 40 (0, 0)) := by
    rw [hW2]
    have := setCells_heap (r := w.heap.size) (T := 40) X (i * 6) W1 A X0 (B0 ++ Z2) hA (by omega) hb1
    rw [this]; simp
  have hm2 : Mod [] w W2 := by rw [hW2]; exact setCells_mod (fun h => by omega) X _ _ hm1
  have hg2 := hm2.at_ hb (by simp)
  have hcpB : ∀ ty dl dc sc, dl = n - i → (Builtin.copy_ #[32, 32] ty #[.slice (some ⟨w.heap.size, (i + 1) * 6, none⟩) dl dc, .slice (some ⟨g, i * 6, none⟩) (n - i) sc]).run Tryz.prog W2.drew = .ok (goInt (n - i : Nat)) (W2.drew.setCells w.heap.size ((i + 1) * 6) B) := fun ty dl dc sc hdl =>
    run_copy6 W2.drew _ _ ty _ w.heap.size ((i + 1) * 6) _ dc ⟨g, i * 6, none⟩ _ sc (n - i) B Tryz.underlying32 size_grant (by simp only [Nat.min_def]; split <;> omega) hB
      (blk_src (w := W2.drew) (R := R) hg2 hA) (fun j hj => blk_there (w := W2.drew) hb2 (by simp; omega)) (fun j _ => blk_free (w := W2.drew) hb2 _) h1B
  have hb3 : (W2.drew.setCells w.heap.size ((i + 1) * 6) B).heap[w.heap.size]? = some (.cells (A ++ (X ++ (B ++ Z2))).toArray 40 (0, 0)) := by
    have := setCells_heap (r := w.heap.size) (T := 40) B ((i + 1) * 6) W2.drew (A ++ X) B0 Z2 (by simp; omega) hB0 hb2
    rw [this]; simp
  have hm3 : Mod [] w (W2.drew.setCells w.heap.size ((i + 1) * 6) B) := setCells_mod (fun h => by omega) B _ _ hm2.drew
  have hlen : (A ++ (X ++ (B ++ Z2))).length = G * 6 := by
    simp only [List.length_append, hA, hX, hB, hZ2l]
    omega
  have HE := hide (And.intro hb3 (And.intro hGn (And.intro hGM (And.intro hlen hm3))))
  have hw1 : IntKind.i64.wrap ((i : Int) + 1) = (i : Int) + 1 := by rw [IntKind.wrap_i64]; omega
  have hq1 : (0 : Int) ≤ (i : Int) + 1 := by omega
  have hq6 : (i : Int) + 1 ≤ (n : Int) + 1 := by omega
  have hin : i ≤ n := by omega
  have htn : ((i : Int) + 1).toNat = i + 1 := by omega
  have hq2 : ¬ (G = i + 1) := by omega
  have hq3 : (i : Int) ≤ (n : Int) := by omega
  have hq4 : ¬ (G = i) := by omega
  have hq5 : ¬ (cap = i) := by omega
  have hq7 : (i : Int) ≤ (n : Int) + 1 := by omega
  clear hb hk hb1 hk1 hg1 hm1 hb2 hm2 hg2 hb3 hm3 hlen hA hB hX h1B h1X hW1 hW2 hrow hZ1 hZ2 hZ1l hZ2l hXB hX0 hB0 hcs hGM hold hkk hik hcn hG
  go_enter Tryz.func123, Tryz.ntmps123
  go_wp2_with (first
    | (at_builtin; refine Lib.wpList_append_run _ rfl _ _ _ _ rfl _ _ rfl rfl _ _ (hrz _) ?_)
    | (at_builtin; refine wpList_copy_runI _ rfl _ _ 32 32 rfl _ _ rfl rfl (hcpA _ _) ?_)
    | fail)
  go_region_law (refine step_copy_runI rfl _ _ 32 32 rfl _ _ (by simp [Act.eval, Act.put]) (by simp [Act.eval, Act.put]) (hcpB _ _ _ _ (by omega)) ?_)
  go_wp2_with fail
  go_ret
  exact ⟨_, _, rfl, HE.out⟩
end Go.Proofs.YtpphoeimakjjdaaGreatDoor
