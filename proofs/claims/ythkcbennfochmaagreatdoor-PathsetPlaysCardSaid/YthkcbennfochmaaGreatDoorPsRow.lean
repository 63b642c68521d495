/-
  PLAIN LAWS OF MEMORY: a row appended to a row; rows of entries, of numbers; slices.Sort at numbers.
-/
import Derived.Test.YthkcbennfochmaaGreatDoorPsColl
import Derived.Test.YthkcbennfochmaaGreatDoorPsDrop
import Derived.Test.YthkcbennfochmaaGreatDoorShelfPs
import Derived.Deep.AppendLies
import Derived.Deep.Upon
import Derived.Sort.OwnSortedInts
namespace Go.Proofs.YthkcbennfochmaaGreatDoor
open Go.RowKit Go.Maps Go.Sort Go.Shelf

/-- the block that a slice owns -/
def obl (v : Value) : List Nat := v.ownBlock.toList
theorem mem_obl {v : Value} {k : Nat} : k ∈ obl v ↔ v.ownBlock = some k := by simp [obl]
section
variable {P : Program}
theorem row_form {w : World} {base : Nat} {e : TypeId} {size : Nat} {v : Value} {n : Nat} {xs : List Value} (h : w.ownsRow base e size v n xs) :
    ∃ q c, v = .slice q n c ∧ n ≤ c ∧ ((q = none ∧ n = 0) ∨ ∃ g cur, q = some ⟨g, 0, none⟩ ∧ base ≤ g ∧ w.heap[g]? = some (.cells cur e (0, 0)) ∧ cur.size = c * size ∧ cur.toList.take (n * size) = xs) := by
  rcases h.2 with ⟨rfl, hn⟩ | ⟨g, cap, cur, rfl, hb, hg, h1, h2, h3, h4⟩
  · exact ⟨none, 0, by rw [hn], by omega, .inl ⟨rfl, hn⟩⟩
  · exact ⟨some ⟨g, 0, none⟩, cap, rfl, h1, .inr ⟨g, cur, rfl, hb, hg, h3, h4⟩⟩
/-- append(u, v...), two rows -/
theorem wpList_append_row {ops : Array Oper} {rest : List Oper} {o : Oper} {a : Act} {Q : Exit → Act → World → Prop} (w : World) (hgd : o.guard = none) (s x : Operand) (t : TypeId)
    (ho : o.op = .call { callee := .builtin .append, args := #[s, x], argTypes := #[t, t] })
    (e : TypeId) (i : TypeInfo) (z : Value) (size bytes : Nat) (ht : P.underlying t = some (.slice e)) (hi : P.info? e = some i) (hz : i.zero = some z) (hsize : i.size = size) (hby : i.bytes = bytes) (hzs : z.cells.size = size) (hsz : 0 < size)
    {u v : Value} {base base2 n m : Nat} {xs ys : List Value} (hs : a.eval s = u) (hu : w.ownsRow base e size u n xs) (hx : a.eval x = v) (hv : w.ownsRow base2 e size v m ys) (h1 : ∀ y ∈ ys, y.oneCell' = true) (h63 : n + m ≤ maxLen) (hbytes : (n + m) * bytes ≤ 140737488355328) (hbase : base ≤ w.heap.size)
    (h : ∀ u' w', w'.ownsRow base e size u' (n + m) (xs ++ ys) → w.grownBy w' u.ownBlock → wpList P ops Q rest (a.put o.dst u') w') : wpList P ops Q (o :: rest) a w := by
  by_cases hm : m = 0
  · subst hm
    have hy : ys = [] := List.length_eq_zero_iff.1 (by rw [hv.1]; simp)
    subst hy
    obtain ⟨q, c, rfl, hqc, -⟩ := row_form hu
    obtain ⟨p, d, rfl, hpd, -⟩ := row_form hv
    have src : Src P i.size t (.slice p 0 d) 0 [] w := by
      cases p with
      | none => exact Src.ofNil w ht d
      | some ad => exact Src.ofSlice w ht ad 0 d [] (by simp) (fun _ _ h => by simp at h) (fun _ h => by cases h)
    have hr := run_append_nothing w t t o.type e i ht hi q n c hqc _ src
    refine wpList_plain hgd fun K hK => ?_
    unfold Oper.wp execOp
    simp only [ho, resolve, invoke, builtin, Sem.run_bind, Sem.run_pure, Result.andThen_ok, List.map_toArray, List.map_cons, List.map_nil, hs, hx, hr]
    refine hK _ _ (h _ _ (by rw [List.append_nil]; exact hu) ⟨rfl, rfl, rfl, Nat.le_refl _, fun _ _ _ => rfl⟩)
  · obtain ⟨g, c, rfl, hgc, hrest⟩ := row_form hv
    rcases hrest with ⟨-, h0⟩ | ⟨g, cur, rfl, hb, hg, hc1, hc2⟩
    · exact absurd h0 hm
    · refine wpList_append_lies w hgd s x t ho base e i z size bytes ht hi hz hsize hby hzs hsz u n xs hs hu ⟨g, 0, none⟩ m c ys hx hv.1 (fun j y hj => ?_) h1 (by omega) h63 hbytes hbase _ rfl fun g' cap' w' q1 q2 _ _ => h _ w' q1 q2
      have hj2 : (cur.toList.take (m * size))[j]? = some y := by rw [hc2]; exact hj
      have hlt : j < m * size := by
        have := (List.getElem?_eq_some_iff.1 hj).1
        rw [hv.1] at this
        exact this
      rw [List.getElem?_take_of_lt hlt, Array.getElem?_toList] at hj2
      rw [Addr.add_lit, Nat.zero_add]
      simp [World.cell?, hg, hj2]
end
theorem encE_len (e : Ent) : (encE e).length = 4 := rfl
theorem encE_one (e : Ent) : ∀ v ∈ encE e, v.oneCell' = true := by simp [encE, Value.oneCell']
theorem encEs_one (xs : List Ent) : ∀ v ∈ xs.flatMap encE, v.oneCell' = true := by
  intro v hv
  obtain ⟨e, _, he⟩ := List.mem_flatMap.1 hv
  exact encE_one e v he
/-- a row of entries, in new blocks -/
def RowE (w : World) (base : Nat) (v : Value) (xs : List Ent) : Prop := w.ownsRow base 29 4 v xs.length (xs.flatMap encE)
theorem RowE.nil (w : World) (base : Nat) : RowE w base (.slice none 0 0) [] := World.ownsRow_nil _ _ _ _
theorem RowE.mod {S : List Nat} {w w' : World} {base : Nat} {v : Value} {xs : List Ent} (h : RowE w base v xs) (m : Mod S w w') (hS : ∀ k, v.ownBlock = some k → k ∉ S) : RowE w' base v xs := m.row h hS
theorem RowE.mono {w : World} {base base' : Nat} {v : Value} {xs : List Ent} (h : RowE w base v xs) (hb : base' ≤ base) : RowE w base' v xs := World.ownsRow.mono h hb
theorem RowE.form {w : World} {base : Nat} {v : Value} {xs : List Ent} (h : RowE w base v xs) : ∃ q c, v = .slice q xs.length c := by
  obtain ⟨q, c, e, -⟩ := row_form h
  exact ⟨q, c, e⟩
instance : Inhabited Ent := ⟨⟨0, ByteArray.empty, 0, 0⟩⟩
/-- an entry of the row, cell by cell -/
theorem RowE.at_ {w : World} {base : Nat} {q : Option Addr} {n c : Nat} {xs : List Ent} (h : RowE w base (.slice q n c) xs) {i : Nat} (hi : i < xs.length) : ∃ g, q = some ⟨g, 0, none⟩ ∧ base ≤ g ∧ g < w.heap.size ∧
    w.cell? ⟨g, i * 4, none⟩ = some (.int .i64 (xs.getD i default).id) ∧ w.cell? ⟨g, i * 4 + 1, none⟩ = some (.string (xs.getD i default).path) ∧ w.cell? ⟨g, i * 4 + 2, none⟩ = some (.int .i64 (xs.getD i default).mode) ∧ w.cell? ⟨g, i * 4 + 3, none⟩ = some (.int .i64 (xs.getD i default).who) := by
  obtain ⟨q', c', e, -, hrest⟩ := row_form h
  obtain ⟨rfl, rfl, rfl⟩ : q = q' ∧ n = xs.length ∧ c = c' := by simpa using e
  rcases hrest with ⟨-, h0⟩ | ⟨g, cur, rfl, hb, hg, hc1, hc2⟩
  · omega
  · have key : ∀ k, k < 4 → w.cell? ⟨g, i * 4 + k, none⟩ = (encE (xs.getD i default))[k]? := fun k hk => by
      have e1 := flat_get encE 4 encE_len xs i k hi hk
      rw [← hc2, List.getElem?_take_of_lt (by omega), Array.getElem?_toList] at e1
      rw [← e1]
      simp [World.cell?, hg]
    exact ⟨g, rfl, hb, lt_of_block hg, key 0 (by omega), key 1 (by omega), key 2 (by omega), key 3 (by omega)⟩
/-! ### rows of numbers -/
def RowN (w : World) (base : Nat) (v : Value) (xs : List Int) : Prop := w.ownsRow base 3 1 v xs.length (xs.map (Value.int .i64))
theorem RowN.nil (w : World) (base : Nat) : RowN w base (.slice none 0 0) [] := World.ownsRow_nil _ _ _ _
theorem RowN.mod {S : List Nat} {w w' : World} {base : Nat} {v : Value} {xs : List Int} (h : RowN w base v xs) (m : Mod S w w') (hS : ∀ k, v.ownBlock = some k → k ∉ S) : RowN w' base v xs := m.row h hS
theorem RowN.mono {w : World} {base base' : Nat} {v : Value} {xs : List Int} (h : RowN w base v xs) (hb : base' ≤ base) : RowN w base' v xs := World.ownsRow.mono h hb
theorem RowN.form {w : World} {base : Nat} {v : Value} {xs : List Int} (h : RowN w base v xs) : ∃ q c, v = .slice q xs.length c := by
  obtain ⟨q, c, e, -⟩ := row_form h
  exact ⟨q, c, e⟩
theorem RowN.own {w : World} {base : Nat} {v : Value} {xs : List Int} (h : RowN w base v xs) {k : Nat} (hk : v.ownBlock = some k) : base ≤ k ∧ k < w.heap.size := h.lt k hk
theorem RowE.own {w : World} {base : Nat} {v : Value} {xs : List Ent} (h : RowE w base v xs) {k : Nat} (hk : v.ownBlock = some k) : base ≤ k ∧ k < w.heap.size := World.ownsRow.lt h k hk
/-- slices.Sort at a row of numbers -/
theorem sortN_any {w : World} {base : Nat} {v : Value} {xs : List Int} (h : RowN w base v xs) (hsm : xs.length ≤ 100000) :
    Calls Tryz.prog 50 #[v] w fun e w' => e = .returned (.tuple #[]) ∧ RowN w' base v (sortI xs) ∧ w.grownBy w' v.ownBlock := by
  rcases h.2 with ⟨rfl, hn⟩ | ⟨g, cap, cur, rfl, hb, hg, h1, h2, h3, h4⟩
  · have hd : xs = [] := List.length_eq_zero_iff.1 hn
    subst hd
    have hcon := AnyM.slices_Sort_int_none Tryz.laysSortInt none 0 w
    change Calls Tryz.prog 50 _ _ _ at hcon
    refine hcon.mono ?_
    rintro e w' ⟨rfl, rfl⟩
    have e0 : sortI [] = [] := List.perm_nil.1 (sortI_perm [])
    exact ⟨rfl, by rw [e0]; exact h, ⟨rfl, rfl, rfl, Nat.le_refl _, fun _ _ _ => rfl⟩⟩
  · have hl : (sortI xs).length = xs.length := (sortI_perm xs).length_eq
    have hcon := AnyM.slices_Sort_int Tryz.laysSortInt g 0 cap xs w (holds_of_blockI hg (by simpa using h4)) (lt_of_block hg) (by omega)
    change Calls Tryz.prog 50 _ _ _ at hcon
    refine hcon.mono ?_
    rintro e w' ⟨rfl, n, os, rfl⟩
    have q := ownsRow_sortedI (n := n) (os := os) (ss := xs) (ts := sortI xs) hl hb hg h1 h2 (by simpa using h3)
    refine ⟨rfl, ?_, grownBy_sortedI _⟩
    unfold RowN
    rw [hl]
    exact q
end Go.Proofs.YthkcbennfochmaaGreatDoor
