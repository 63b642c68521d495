/-
  ARGUMENTS OPENED: a slice of ints reads as a list.
-/
import Derived.Test.YtbaphdaipacihaaOpenI
import Derived.ChangeSlices
namespace Go.Proofs.Ytbaphdaipacihaa
open Go.ChangeShapes Go.WideShapes Go.ChangeAt Go.RowKit Go.Deep Go.Joins

/-- a slice of ints that reads as the list m -/
def RdN (w : World) (v : Value) (m : List Int) : Prop :=
  m.length ≤ maxLen ∧ ((∃ p c, v = .slice p 0 c ∧ m = []) ∨ ∃ b off cap, v = .slice (some ⟨b, off, none⟩) m.length cap ∧ b < w.heap.size ∧ ∀ i, i < m.length → w.cell? ⟨b, off + i, none⟩ = some (.int .i64 (m.getD i 0)))
theorem RdN.mod {w w' : World} {v : Value} {m : List Int} (h : RdN w v m) {S : List Nat} (md : Mod S w w') (h1 : ∀ k, k ∈ ob v → k ∉ S) : RdN w' v m := by
  refine ⟨h.1, h.2.imp id ?_⟩
  rintro ⟨b, off, cap, rfl, hb, hc⟩
  have hs : b ∉ S := h1 b (by simp [ob, Value.ownBlock])
  exact ⟨b, off, cap, rfl, Nat.lt_of_lt_of_le hb md.size, fun i hi => md.kept (hc i hi) hs⟩
theorem RdN.len {w : World} {v : Value} {m : List Int} (h : RdN w v m) : ∃ p c, v = .slice p m.length c := by
  rcases h.2 with ⟨p, c, rfl, rfl⟩ | ⟨b, off, cap, rfl, _⟩
  · exact ⟨p, c, rfl⟩
  · exact ⟨_, cap, rfl⟩
theorem RdN.at_ {w : World} {p : Option Addr} {n c : Nat} {m : List Int} (h : RdN w (.slice p n c) m) (i : Nat) (hi : i < m.length) : ∃ b off, p = some ⟨b, off, none⟩ ∧ b < w.heap.size ∧ w.cell? ⟨b, off + i, none⟩ = some (.int .i64 (m.getD i 0)) := by
  rcases h.2 with ⟨_, c, _, rfl⟩ | ⟨b, off, cap, hv, hb, hc⟩
  · simp at hi
  · simp only [Value.slice.injEq] at hv
    exact ⟨b, off, hv.1, hb, hc i hi⟩

theorem open_nums {H : Type} {enc : TypeId × Value → H} {W : World} {v : Value} {d : DataW H} {p : List MemPlace} {base : Nat}
    (hv : Value.okWide Try.prog W .any base 52 v) (h : DataW.Trod enc Try.prog W 0 (fun _ => true) true 52 v d p) : ∃ m, RdN W v m := by
  obtain ⟨a0, len, cap, rfl⟩ := okWide_slice Try.underlying52 hv
  obtain ⟨fuel, hf⟩ := h
  rcases Go.ChangeShapes.open_ints Try.underlying52 Try.underlying3 cells_int hf with ⟨hcs, _⟩ | ⟨a, len', cap', zs, hcs, _, hl, hm, hz, _, hc, _⟩
  · simp [Value.cells] at hcs
    obtain ⟨rfl, rfl, rfl⟩ := hcs
    exact ⟨[], by simp, .inl ⟨none, 0, rfl, rfl⟩⟩
  · simp [Value.cells] at hcs
    obtain ⟨rfl, rfl, rfl⟩ := hcs
    simp only [if_true] at hz
    by_cases h0 : len = 0
    · subst h0
      exact ⟨[], by simp, .inl ⟨_, _, rfl, rfl⟩⟩
    · obtain ⟨b, off, spot⟩ := a
      have hc0 := hc 0 (by omega)
      have hsp : spot = none := by
        simp only [Addr.add] at hc0
        cases spot with
        | none => rfl
        | some s =>
          exfalso
          revert hc0
          unfold World.cell?
          split <;> simp
      subst hsp
      have ht : (zs.take len).length = len := by rw [List.length_take]; omega
      refine ⟨zs.take len, by rw [ht]; omega, .inr ⟨b, off, cap, by rw [ht], World.block_lt_of_cell? W _ hc0, fun i hi => ?_⟩⟩
      rw [ht] at hi
      have q := hc i (by omega)
      rw [Addr.add_lit] at q
      rw [q]
      simp [List.getD, hi]

theorem open_cap {H : Type} {enc : TypeId × Value → H} {W : World} {v : Value} {d : DataW H} {p : List MemPlace} {base : Nat}
    (hv : Value.okWide Try.prog W .any base 32 v) (h : DataW.Trod enc Try.prog W 0 (fun _ => true) true 32 v d p) : ∀ q n c, v = .slice q n c → n ≤ c := by
  obtain ⟨a0, len, cap, rfl⟩ := okWide_slice Try.underlying32 hv
  obtain ⟨fuel, hf⟩ := h
  rintro q n c e
  simp only [Value.slice.injEq] at e
  obtain ⟨rfl, rfl, rfl⟩ := e
  rcases open_slice Try.underlying32 hf with ⟨hcs, _⟩ | ⟨a, len', cap', m, n, D, Pl, hcs, _, hl, _⟩
  · simp [Value.cells] at hcs
    omega
  · simp [Value.cells] at hcs
    omega
end Go.Proofs.Ytbaphdaipacihaa
