/-
  PLAIN LAWS OF MEMORY: a slice of grants of one's own, each stamp in a block of its own.
-/
import Derived.Test.YtpphoeimakjjdaaGreatDoorMBookW2
import Derived.Test.YtpphoeimakjjdaaGreatDoorMInts
namespace Go.Proofs.YtpphoeimakjjdaaGreatDoor
open Go.RowKit

def encG (p : Grt × Value) : List Value := cellsG p.1 p.2
theorem encG_len (p : Grt × Value) : (encG p).length = 6 := rfl
theorem rdN_of_row {w : World} {base : Nat} {T : TypeId} {v : Value} {m : List Int} (h : w.ownsRow base T 1 v m.length (m.map (Value.int .i64))) : RdN w v m := by
  rcases h.2 with ⟨rfl, hn⟩ | ⟨g, cap, cur, rfl, _, hg, hh1, hh2, _⟩
  · exact ⟨by omega, .inl ⟨none, 0, rfl, List.length_eq_zero_iff.1 hn⟩⟩
  · refine ⟨by omega, .inr ⟨g, 0, cap, rfl, lt_of_block hg, fun i hi => ?_⟩⟩
    rw [Nat.zero_add, h.cellAt _ (by omega)]
    simp [hi]
theorem ob_of_row {w : World} {base : Nat} {T : TypeId} {sz n : Nat} {v : Value} {xs : List Value} (h : w.ownsRow base T sz v n xs) : ∀ k, k ∈ ob v → base ≤ k ∧ k < w.heap.size :=
  fun k hk => by have := h.lt k (by simpa [ob] using hk); omega
/-- the grants lv.map fst, their stamps' slices lv.map snd; all blocks from base on, each stamp a row of its own, apart from the grants' row -/
structure GrM (w : World) (base : Nat) (v : Value) (lv : List (Grt × Value)) : Prop where
  row : w.ownsRow base 40 6 v lv.length (lv.flatMap encG)
  st : ∀ p, p ∈ lv → w.ownsRow base 3 1 p.2 p.1.stamp.length (p.1.stamp.map (Value.int .i64)) ∧ ∀ k, k ∈ ob p.2 → k ∉ ob v
theorem GrM.nil (w : World) (base : Nat) : GrM w base (.slice none 0 0) [] := ⟨World.ownsRow_nil _ _ _ _, fun p hp => by cases hp⟩
theorem GrM.mod {w w' : World} {base : Nat} {v : Value} {lv : List (Grt × Value)} (h : GrM w base v lv) {S : List Nat} (m : Mod S w w') (hS : ∀ k, k ∈ S → k < base ∨ w.heap.size ≤ k) : GrM w' base v lv := by
  refine ⟨m.row h.row (fun k hk e => ?_), fun p hp => ⟨m.row (h.st p hp).1 (fun k hk e => ?_), (h.st p hp).2⟩⟩
  · have := h.row.lt k hk
    have := hS k e
    omega
  · have := (h.st p hp).1.lt k hk
    have := hS k e
    omega
theorem GrM.gr {w w' : World} {base : Nat} {v : Value} {lv : List (Grt × Value)} (h : GrM w base v lv) (g : Gr w w') : GrM w' base v lv := h.mod (g.mod []) (by simp)
theorem GrM.base {w : World} {base b' : Nat} {v : Value} {lv : List (Grt × Value)} (h : GrM w base v lv) (hb : b' ≤ base) : GrM w b' v lv :=
  ⟨World.ownsRow.mono h.row hb, fun p hp => ⟨World.ownsRow.mono (h.st p hp).1 hb, (h.st p hp).2⟩⟩
theorem GrM.shape {w : World} {base : Nat} {v : Value} {lv : List (Grt × Value)} (h : GrM w base v lv) : ∃ p c, v = .slice p lv.length c ∧ lv.length ≤ maxLen := by
  rcases h.row.2 with ⟨rfl, hn⟩ | ⟨g, cap, cur, rfl, _, hg, hh1, hh2, _⟩
  · exact ⟨none, 0, by rw [hn], by omega⟩
  · exact ⟨_, cap, rfl, by omega⟩
theorem GrM.at_ {w : World} {base : Nat} {q : Option Addr} {n c : Nat} {lv : List (Grt × Value)} (h : GrM w base (.slice q n c) lv) (i : Nat) (hi : i < lv.length) :
    ∃ b, q = some ⟨b, 0, none⟩ ∧ base ≤ b ∧ b < w.heap.size ∧ (∀ j, j < 6 → w.cell? ⟨b, i * 6 + j, none⟩ = (encG (lv.getD i default))[j]?) ∧ (∀ j, w.frozen? ⟨b, j, none⟩ = false) ∧ RdN w (lv.getD i default).2 (lv.getD i default).1.stamp := by
  have hm : lv.getD i default ∈ lv := by simp [hi]
  have hst := rdN_of_row (h.st _ hm).1
  rcases h.row.2 with ⟨hv, hn⟩ | ⟨g, cap, cur, hv, hb, hg, hh1, hh2, hs, ht⟩
  · omega
  · simp only [Value.slice.injEq] at hv
    obtain ⟨rfl, rfl, rfl⟩ := hv
    refine ⟨g, rfl, hb, lt_of_block hg, fun j hj => ?_, fun j => blk_free hg j, hst⟩
    rw [h.row.cellAt (i * 6 + j) (by omega), flat_get encG 6 encG_len lv i j hi hj]
end Go.Proofs.YtpphoeimakjjdaaGreatDoor
