/-
  PLAIN LAWS OF MEMORY, OVER ANY PROGRAM: a row of structs that slices.SortFunc has sorted (the kit's 'sortWorldK'), said as a row that is owned.
-/
import Derived.Test.YthkcbennfochmaaGreatDoorBase
import Derived.Shelf.SlSortCmp.NoneTotal
namespace Go.Proofs.YthkcbennfochmaaGreatDoor
open Go.RowKit Go.Sort Go.Shelf

section
variable {α : Type} [Inhabited α] (enc : α → List Value) (k : Nat) (hk : ∀ x, (enc x).length = k) (hk0 : 0 < k)
include hk hk0
theorem flatK_list (l : List α) : (flatK enc k l.toArray).toList = l.flatMap enc := by
  have hlen := flat_length enc k hk l
  refine List.ext_getElem (by rw [hlen]; simp) fun t h1 h2 => ?_
  have ht : t < l.length * k := by rw [← hlen]; exact h2
  have hd : t / k < l.length := (Nat.div_lt_iff_lt_mul hk0).2 ht
  have hm : t % k < k := Nat.mod_lt _ hk0
  have e := flat_get enc k hk l (t / k) (t % k) hd hm
  rw [Nat.div_add_mod', List.getElem?_eq_getElem h2] at e
  have g := get_flatK enc k l.toArray t (by simpa using ht)
  rw [getElem!_pos _ t (by simpa using ht)] at g
  rw [Array.getElem_toList, g]
  have e1 : l.toArray[t / k]! = l.getD (t / k) default := by simp [hd]
  have hmm : t % k < (enc (l.getD (t / k) default)).length := by rw [hk]; exact hm
  rw [e1, getElem!_pos _ (t % k) hmm]
  rw [List.getElem?_eq_getElem hmm] at e
  exact (Option.some.inj e).symm

theorem holdsK_of_row {w : World} {base g n cap : Nat} {T : TypeId} {l : List α} (h : w.ownsRow base T k (.slice (some ⟨g, 0, none⟩) n cap) n (l.flatMap enc)) (hn : n = l.length) : HoldsK enc k w g 0 l.toArray := by
  subst hn
  intro j hj
  have hj' : j < l.length * k := by simpa using hj
  refine ⟨?_, h.frozenAt _⟩
  rw [Nat.zero_add, h.cellAt j hj', ← flatK_list enc k hk hk0 l]
  rw [getElem!_pos _ j hj]
  simp [hj']

theorem sorted_row {w : World} {base g n cap m : Nat} {T : TypeId} {l dk : List α} (os : Array Obj) (h : w.ownsRow base T k (.slice (some ⟨g, 0, none⟩) n cap) n (l.flatMap enc)) (hn : n = l.length) (hl : dk.length = l.length) :
    (sortWorldK enc k w g 0 m dk.toArray os).ownsRow base T k (.slice (some ⟨g, 0, none⟩) n cap) n (dk.flatMap enc) ∧ Mod [g] w (sortWorldK enc k w g 0 m dk.toArray os) := by
  subst hn
  rcases h.2 with ⟨hv, _⟩ | ⟨g', cap', cur, hv, hb, hg, h1, h2, h3, h4⟩
  · cases hv
  · injection hv with e1 _ e3
    injection e1 with e1
    injection e1 with e1
    subst e1 e3
    have hlt := lt_of_block hg
    have hflat := flat_length enc k hk dk
    have hms : Mod [g] w (putRowK enc k (Sort.ahead w m) g 0 dk.toArray) := by
      refine ⟨rfl, rfl, rfl, ?_, fun i _ hi => ?_⟩
      · show w.heap.size ≤ (w.heap.modify g _).size; simp
      · show (w.heap.modify g _)[i]? = _
        rw [Array.getElem?_modify, if_neg (fun e => hi (by simp [e]))]
    have hgr : Gr (putRowK enc k (Sort.ahead w m) g 0 dk.toArray) (sortWorldK enc k w g 0 m dk.toArray os) := ⟨0, os, rfl⟩
    refine ⟨⟨by rw [hflat, hl], .inr ⟨g, cap, putCells id 0 (flatK enc k dk.toArray) cur, rfl, hb, ?_, h1, h2, by simpa [putCells] using h3, ?_⟩⟩, hms.gr hgr⟩
    · rw [hgr.heap (Nat.lt_of_lt_of_le hlt hms.size)]
      show (w.heap.modify g _)[g]? = _
      have hh : w.heap[g] = .cells cur T (0, 0) := by simpa [Array.getElem?_eq_getElem hlt] using hg
      rw [Array.getElem?_eq_getElem (by simpa using hlt), Array.getElem_modify_self, hh]
      rfl
    · have hc : l.length * k ≤ cur.size := by rw [h3]; exact Nat.mul_le_mul_right _ h1
      rw [← flatK_list enc k hk hk0 dk]
      apply List.ext_getElem?
      intro t
      by_cases ht : t < l.length * k
      · have hts : t < (flatK enc k dk.toArray).size := by simp [hl, ht]
        rw [List.getElem?_take, if_pos ht, Array.getElem?_toList, Array.getElem?_toList]
        simp only [putCells, Array.getElem?_mapIdx, Array.getElem?_eq_getElem (show t < cur.size by omega), Option.map_some, Nat.sub_zero, Nat.zero_add, id]
        rw [if_pos ⟨Nat.zero_le _, hts⟩, getElem!_pos _ t hts, Array.getElem?_eq_getElem hts]
      · rw [List.getElem?_take, if_neg ht, Array.getElem?_toList, Array.getElem?_eq_none (by simp [hl]; omega)]
end
end Go.Proofs.YthkcbennfochmaaGreatDoor
