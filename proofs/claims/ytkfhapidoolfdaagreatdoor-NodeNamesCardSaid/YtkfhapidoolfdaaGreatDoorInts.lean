/-
  PLAIN LAWS, OVER ANY PROGRAM: a slice of ints that reads as a list.
-/
import Derived.Test.YtkfhapidoolfdaaGreatDoorBase
namespace Go.Proofs.YtkfhapidoolfdaaGreatDoor
open Go.RowKit

def ob (v : Value) : List Nat := v.ownBlock.toList
/-- a slice of ints that reads as the list m -/
def RdN (w : World) (v : Value) (m : List Int) : Prop :=
  m.length ≤ maxLen ∧ ((∃ p c, v = .slice p 0 c ∧ m = []) ∨ ∃ b off cap, v = .slice (some ⟨b, off, none⟩) m.length cap ∧ b < w.heap.size ∧ ∀ i, i < m.length → w.cell? ⟨b, off + i, none⟩ = some (.int .i64 (m.getD i 0)))
theorem RdN.mod {w w' : World} {v : Value} {m : List Int} (h : RdN w v m) {S : List Nat} (md : Mod S w w') (h1 : ∀ k, k ∈ ob v → k ∉ S) : RdN w' v m := by
  refine ⟨h.1, h.2.imp id ?_⟩
  rintro ⟨b, off, cap, rfl, hb, hc⟩
  have hs : b ∉ S := h1 b (by simp [ob, Value.ownBlock])
  exact ⟨b, off, cap, rfl, Nat.lt_of_lt_of_le hb md.size, fun i hi => md.kept (hc i hi) hs⟩
theorem RdN.len {w : World} {v : Value} {m : List Int} (h : RdN w v m) : ∃ p c, v = .slice p m.length c := by
  rcases h.2 with ⟨p, c, rfl, rfl⟩ | ⟨b, off, cap, rfl, _⟩
  · exact ⟨p, c, rfl⟩
  · exact ⟨_, cap, rfl⟩
theorem RdN.at_ {w : World} {p : Option Addr} {n c : Nat} {m : List Int} (h : RdN w (.slice p n c) m) (i : Nat) (hi : i < m.length) : ∃ b off, p = some ⟨b, off, none⟩ ∧ b < w.heap.size ∧ w.cell? ⟨b, off + i, none⟩ = some (.int .i64 (m.getD i 0)) := by
  rcases h.2 with ⟨_, c, _, rfl⟩ | ⟨b, off, cap, hv, hb, hc⟩
  · simp at hi
  · simp only [Value.slice.injEq] at hv
    exact ⟨b, off, hv.1, hb, hc i hi⟩

theorem RdN.gr {w w' : World} {v : Value} {m : List Int} (h : RdN w v m) (g : Gr w w') : RdN w' v m := h.mod (g.mod []) (by simp)
end Go.Proofs.YtkfhapidoolfdaaGreatDoor
