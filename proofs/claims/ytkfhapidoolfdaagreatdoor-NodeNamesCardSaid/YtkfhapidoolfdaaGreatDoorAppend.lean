/-
  PLAIN LAWS, OVER ANY PROGRAM: append(nil, s...): a copy of a slice of ints.
-/
import Derived.Test.YtkfhapidoolfdaaGreatDoorInts
import Derived.Deep.AppendLies
import Derived.Deep.Upon
namespace Go.Proofs.YtkfhapidoolfdaaGreatDoor
open Go.RowKit

section
variable {P : Program}
theorem wpList_append_lies {ops : Array Oper} {rest : List Oper} {o : Oper} {a : Act} {Q : Exit → Act → World → Prop} (w : World) (hgd : o.guard = none) (s x : Operand) (t : TypeId)
    (ho : o.op = .call { callee := .builtin .append, args := #[s, x], argTypes := #[t, t] })
    (base : Nat) (e : TypeId) (i : TypeInfo) (z : Value) (size bytes : Nat) (ht : P.underlying t = some (.slice e)) (hi : P.info? e = some i) (hz : i.zero = some z)
    (hsize : i.size = size) (hby : i.bytes = bytes) (hzs : z.cells.size = size) (hsz : 0 < size)
    (v : Value) (n : Nat) (xs : List Value) (hs : a.eval s = v) (hown : w.ownsRow base e size v n xs)
    (ad : Addr) (m c : Nat) (news : List Value) (hx : a.eval x = .slice (some ad) m c) (hl : news.length = m * size) (hnews : ∀ j u, news[j]? = some u → w.cell? (ad.add j) = some u) (h1 : ∀ u ∈ news, u.oneCell' = true)
    (hm : 0 < m) (h63 : n + m ≤ maxLen) (hbytes : (n + m) * bytes ≤ 140737488355328) (hbase : base ≤ w.heap.size)
    (h : ∀ g cap w', w'.ownsRow base e size (.slice (some ⟨g, 0, none⟩) (n + m) cap) (n + m) (xs ++ news) → w.grownBy w' v.ownBlock → (v.ownBlock = some g ∨ g = w.heap.size) → wpList P ops Q rest (a.put o.dst (.slice (some ⟨g, 0, none⟩) (n + m) cap)) w') : wpList P ops Q (o :: rest) a w :=
  wpList_plain hgd fun _ hK => wp_append_lies w s x t ho base e i z size bytes ht hi hz hsize hby hzs hsz v n xs hs hown ad m c news hx hl hnews h1 hm h63 hbytes hbase _ rfl fun g cap w' h2 h3 h4 _ => hK _ _ (h g cap w' h2 h3 h4)
/-- a copy: a new row, or nil -/
theorem wpList_append_copy {ops : Array Oper} {rest : List Oper} {o : Oper} {a : Act} {Q : Exit → Act → World → Prop} (w : World) (hgd : o.guard = none) (s x : Operand) (t : TypeId)
    (ho : o.op = .call { callee := .builtin .append, args := #[s, x], argTypes := #[t, t] })
    (e : TypeId) (i : TypeInfo) (ht : P.underlying t = some (.slice e)) (hi : P.info? e = some i) (hz : i.zero = some (.int .i64 0)) (hsize : i.size = 1) (hby : i.bytes = 8)
    (hs : a.eval s = .slice none 0 0) {v : Value} {m : List Int} (hx : a.eval x = v) (hv : RdN w v m) (hsm : m.length ≤ 1000000)
    (h : ∀ v' w', w'.ownsRow w.heap.size e 1 v' m.length (m.map (Value.int .i64)) → Mod [] w w' → wpList P ops Q rest (a.put o.dst v') w') : wpList P ops Q (o :: rest) a w := by
  by_cases hm : m = []
  · subst hm
    obtain ⟨p, c, rfl⟩ := hv.len
    have src : Src P i.size t (.slice p 0 c) 0 [] w := by
      cases p with
      | none => exact Src.ofNil w ht c
      | some ad => exact Src.ofSlice w ht ad 0 c [] (by simp) (fun _ _ h => by simp at h) (fun _ h => by cases h)
    have hr := run_append_nothing w t t o.type e i ht hi none 0 0 (Nat.le_refl _) _ src
    refine wpList_plain hgd fun K hK => ?_
    unfold Oper.wp execOp
    simp only [List.length_nil] at hx
    simp only [ho, resolve, invoke, builtin, Sem.run_bind, Sem.run_pure, Result.andThen_ok, List.map_toArray, List.map_cons, List.map_nil, hs, hx, hr]
    exact hK _ _ (h _ _ (World.ownsRow_nil _ _ _ _) (Mod.refl _ _))
  · have hpos : 0 < m.length := List.length_pos_iff.2 hm
    rcases hv.2 with ⟨p, c, _, rfl⟩ | ⟨b, off, cap, rfl, hb, hc⟩
    · exact absurd rfl hm
    · refine wpList_append_lies w hgd s x t ho w.heap.size e i (.int .i64 0) 1 8 ht hi hz hsize hby rfl (by decide) (.slice none 0 0) 0 [] hs (World.ownsRow_nil _ _ _ _) ⟨b, off, none⟩ m.length cap (m.map (Value.int .i64)) hx (by simp) ?_ (by simp [Value.oneCell']) hpos (by unfold maxLen; omega) (by omega) (Nat.le_refl _) ?_
      · intro j u hu
        obtain ⟨hj, rfl⟩ := List.getElem?_eq_some_iff.1 hu
        rw [List.length_map] at hj
        have := hc j hj
        rw [Addr.add_lit, this]
        simp [hj]
      · intro g cap' w' hown hg hat
        simp only [Nat.zero_add, List.nil_append] at hown ⊢
        exact h _ _ hown ((Mod.refl [] w).grown hg (fun k e _ => by simp [Value.ownBlock] at e))
end
end Go.Proofs.YtkfhapidoolfdaaGreatDoor
