import Derived.Test.YthkcbennfochmaaGreatDoorPsGrow
namespace Go.Proofs.YthkcbennfochmaaGreatDoor
open Go.RowKit Go.Maps
abbrev objE (id : Int) (p : ByteArray) (m who : Int) : Obj := .cells #[.int .i64 id, .string p, .int .i64 m, .int .i64 who] 29 (0, 0)
theorem nodup_len {α : Type} [DecidableEq α] : ∀ (L M : List α), L.Nodup → (∀ x, x ∈ L → x ∈ M) → L.length ≤ M.length
  | [], M, _, _ => by simp
  | a :: r, M, h, hs => by
    have h' := List.nodup_cons.1 h
    have := nodup_len r (M.erase a) h'.2 fun x hx => (List.mem_erase_of_ne (fun e => h'.1 (by rw [← e]; exact hx))).2 (hs x (by simp [hx]))
    rw [List.length_erase_of_mem (hs a (by simp))] at this
    have hp := List.length_pos_of_mem (hs a (by simp))
    simp only [List.length_cons]
    omega
theorem kids_le {N : List Nd} {l : List Ent} (h : N.Pairwise fun m n => m.pre ≠ n.pre) {p : List Seg} (hs : ∀ m, m ∈ kidsOf N p → ∃ e, e ∈ l ∧ m.pre <+: e.sg) : (kidsOf N p).length ≤ l.length := by
  have h1 : ((kidsOf N p).map Nd.pre).Nodup := List.pairwise_map.2 (h.filter _)
  have := nodup_len _ (l.map fun e => e.sg.take (p.length + 1)) h1 fun x hx => by
    obtain ⟨m, hm, rfl⟩ := List.mem_map.1 hx
    obtain ⟨e, he, t, ht⟩ := hs m hm
    obtain ⟨y, hy⟩ := kid_pre hm
    refine List.mem_map.2 ⟨e, he, ?_⟩
    show e.sg.take (p.length + 1) = m.pre
    rw [← ht, hy]
    exact List.take_left' (by simp)
  simpa using this
theorem take_snoc {α β : Type} (f : α → β) (D : List α) {k : Nat} (h : k < D.length) (z : α) : (D.map f).take (k + 1) = (D.map f).take k ++ [f (D.getD k z)] := by
  rw [List.take_add_one]
  simp [h]
end Go.Proofs.YthkcbennfochmaaGreatDoor
