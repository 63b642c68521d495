/-
  FOR THE LAWS ON AGENDAS: two agendas side by side, slices beside them; an append that says where the row lies.
-/
import Derived.Test.YtbaphdaipacihaaAgAwake
import Derived.Test.YtbaphdaipacihaaOpenI
import Derived.Deep.AppendLies
namespace Go.Proofs.Ytbaphdaipacihaa
open Go.RowKit Go.Sort Go.Shelf

theorem RdI.lt {w : World} {v : Value} {l : List Item} (h : RdI w v l) (hl : l ≠ []) : ∀ k, k ∈ ob v → k < w.heap.size := by
  rcases h.2 with ⟨_, _, _, h0⟩ | ⟨b, off, cap, rfl, hb, _⟩
  · exact absurd h0 hl
  · intro k hk
    simp [ob, Value.ownBlock] at hk
    omega

/-- two agendas that do not touch each other, both behind W -/
structure Two (W w : World) (pa : Nat) (o1 : List Nat) (l1 : List Item) (pb : Nat) (o2 : List Nat) (l2 : List Item) : Prop where
  mod : Mod [] W w
  a : Ag w pa o1 l1
  b : Ag w pb o2 l2
  off : ∀ k, k ∈ pa :: o1 → k ∉ pb :: o2
  ba : ∀ k, k ∈ pa :: o1 → W.heap.size ≤ k
  bb : ∀ k, k ∈ pb :: o2 → W.heap.size ≤ k
section
variable {W w w' : World} {pa : Nat} {o1 : List Nat} {l1 : List Item} {pb : Nat} {o2 : List Nat} {l2 : List Item}
theorem Ag.lts (h : Ag w pa o1 l1) : ∀ k, k ∈ pa :: o1 → k < w.heap.size := fun k hk => by
  rcases List.mem_cons.1 hk with e | e
  · rw [e]; exact h.lt.1
  · exact h.lt.2 k e
theorem Ag.kept (h : Ag w pa o1 l1) {S : List Nat} (m : Mod S w w') (hS : ∀ k, k ∈ pa :: o1 → k ∉ S) : Ag w' pa o1 l1 :=
  h.mod m (hS pa List.mem_cons_self) (fun k hk => hS k (List.mem_cons_of_mem _ hk))
theorem AgTo.news {o1' : List Nat} (t : AgTo w pa o1 w' o1') : ∀ k, k ∈ pa :: o1' → k ∈ pa :: o1 ∨ w.heap.size ≤ k := fun k hk => by
  rcases List.mem_cons.1 hk with e | e
  · exact .inl (by rw [e]; exact List.mem_cons_self)
  · exact (t.own k e).imp (List.mem_cons_of_mem _) id
theorem Two.left (T : Two W w pa o1 l1 pb o2 l2) {o1' : List Nat} {l1' : List Item} (h : Ag w' pa o1' l1') (t : AgTo w pa o1 w' o1') : Two W w' pa o1' l1' pb o2 l2 :=
  ⟨T.mod.trans t.mod (by simp) (fun k hk hlt => by have := T.ba k hk; omega), h, T.b.kept t.mod (fun k hk hx => T.off k hx hk),
    fun k hk hx => by
      rcases t.news k hk with e | e
      · exact T.off k e hx
      · have := T.b.lts k hx; omega,
    fun k hk => by
      rcases t.news k hk with e | e
      · exact T.ba k e
      · have := T.mod.size; omega, T.bb⟩
theorem Two.swap (T : Two W w pa o1 l1 pb o2 l2) : Two W w pb o2 l2 pa o1 l1 := ⟨T.mod, T.b, T.a, fun k hk hx => T.off k hx hk, T.bb, T.ba⟩
theorem Two.right (T : Two W w pa o1 l1 pb o2 l2) {o2' : List Nat} {l2' : List Item} (h : Ag w' pb o2' l2') (t : AgTo w pb o2 w' o2') : Two W w' pa o1 l1 pb o2' l2' := (T.swap.left h t).swap
theorem Two.kept (T : Two W w pa o1 l1 pb o2 l2) {S : List Nat} (m : Mod S w w') (hS : ∀ k, k ∈ S → k < w.heap.size → W.heap.size ≤ k ∧ k ∉ pa :: o1 ∧ k ∉ pb :: o2) : Two W w' pa o1 l1 pb o2 l2 :=
  ⟨T.mod.trans m (by simp) (fun k hk hlt => by have := T.mod.size; have := (hS k hk (by omega)).1; omega),
    T.a.kept m (fun k hk hx => (hS k hx (T.a.lts k hk)).2.1 hk), T.b.kept m (fun k hk hx => (hS k hx (T.b.lts k hk)).2.2 hk), T.off, T.ba, T.bb⟩
theorem Two.same (T : Two W w pa o1 l1 pb o2 l2) (m : Mod [] w w') : Two W w' pa o1 l1 pb o2 l2 := T.kept m (by simp)
theorem Two.gr (T : Two W w pa o1 l1 pb o2 l2) (m : Gr w w') : Two W w' pa o1 l1 pb o2 l2 := T.same (m.mod [])
end

/-- a slice beside the two agendas -/
structure Beside (w : World) (D : List Nat) (v : Value) (l : List Item) : Prop where
  rd : RdI w v l
  lt : ∀ k, k ∈ ob v → k < w.heap.size
  off : ∀ k, k ∈ ob v → k ∉ D
theorem Beside.kept {w w' : World} {D D' S : List Nat} {v : Value} {l : List Item} (h : Beside w D v l) (m : Mod S w w') (hS : ∀ k, k ∈ ob v → k ∉ S) (hD : ∀ k, k ∈ D' → k ∈ D ∨ w.heap.size ≤ k) : Beside w' D' v l :=
  ⟨h.rd.mod m hS, fun k hk => Nat.lt_of_lt_of_le (h.lt k hk) m.size, fun k hk hx => by
    rcases hD k hx with e | e
    · exact h.off k hk e
    · have := h.lt k hk; omega⟩
theorem Beside.same {w w' : World} {D : List Nat} {v : Value} {l : List Item} (h : Beside w D v l) (m : Mod [] w w') : Beside w' D v l := h.kept m (by simp) (fun _ => .inl)
theorem Beside.new {W w w' : World} {pa : Nat} {o1 : List Nat} {l1 : List Item} {pb : Nat} {o2 : List Nat} {l2 : List Item} (T : Two W w pa o1 l1 pb o2 l2) {v : Value} {l : List Item}
    (h : w'.ownsRow w.heap.size 29 3 v l.length (l.flatMap encI)) : Beside w' ((pa :: o1) ++ (pb :: o2)) v l :=
  ⟨RdI.of_row h, fun k hk => (h.lt k (by simpa [ob] using hk)).2, fun k hk hx => by
    have := (h.lt k (by simpa [ob] using hk)).1
    rcases List.mem_append.1 hx with e | e
    · have := T.a.lts k e; omega
    · have := T.b.lts k e; omega⟩

section
variable {P : Program}
theorem wpList_append_lies {ops : Array Oper} {rest : List Oper} {o : Oper} {a : Act} {Q : Exit → Act → World → Prop} (w : World) (hgd : o.guard = none) (s x : Operand) (t : TypeId)
    (ho : o.op = .call { callee := .builtin .append, args := #[s, x], argTypes := #[t, t] })
    (base : Nat) (e : TypeId) (i : TypeInfo) (z : Value) (size bytes : Nat) (ht : P.underlying t = some (.slice e)) (hi : P.info? e = some i) (hz : i.zero = some z)
    (hsize : i.size = size) (hby : i.bytes = bytes) (hzs : z.cells.size = size) (hsz : 0 < size)
    (v : Value) (n : Nat) (xs : List Value) (hs : a.eval s = v) (hown : w.ownsRow base e size v n xs)
    (ad : Addr) (m c : Nat) (news : List Value) (hx : a.eval x = .slice (some ad) m c) (hl : news.length = m * size) (hnews : ∀ j u, news[j]? = some u → w.cell? (ad.add j) = some u) (h1 : ∀ u ∈ news, u.oneCell' = true)
    (hm : 0 < m) (h63 : n + m ≤ maxLen) (hbytes : (n + m) * bytes ≤ 140737488355328) (hbase : base ≤ w.heap.size)
    (h : ∀ g cap w', w'.ownsRow base e size (.slice (some ⟨g, 0, none⟩) (n + m) cap) (n + m) (xs ++ news) → w.grownBy w' v.ownBlock → (v.ownBlock = some g ∨ g = w.heap.size) → wpList P ops Q rest (a.put o.dst (.slice (some ⟨g, 0, none⟩) (n + m) cap)) w') : wpList P ops Q (o :: rest) a w :=
  wpList_plain hgd fun _ hK => wp_append_lies w s x t ho base e i z size bytes ht hi hz hsize hby hzs hsz v n xs hs hown ad m c news hx hl hnews h1 hm h63 hbytes hbase _ rfl fun g cap w' h2 h3 h4 _ => hK _ _ (h g cap w' h2 h3 h4)
end

/-- all items put, one after the other -/
def putAll (l : List Item) (xs : List Item) : List Item := xs.foldl (fun acc x => (putI acc x).1) l
theorem putAll_snoc (l xs : List Item) (x : Item) : putAll l (xs ++ [x]) = (putI (putAll l xs) x).1 := by simp [putAll, List.foldl_append]
def AllOk (l : List Item) : Prop := ∀ y, y ∈ l → okI y
theorem putI_ok {l : List Item} {x : Item} (h : AllOk l) : AllOk (putI l x).1 := by
  unfold putI
  split
  · exact h
  · split
    · exact h
    · rename_i hk _
      intro y hy
      rcases List.mem_cons.1 ((insI_perm _ _).mem_iff.1 hy) with e | e
      · rw [e]; exact Classical.not_not.1 hk
      · exact h y (mem_dropI.1 e).1
theorem putAll_ok (xs : List Item) : ∀ {l : List Item}, AllOk l → AllOk (putAll l xs) := by
  induction xs with
  | nil => intro l h; exact h
  | cons x r ih => intro l h; exact ih (putI_ok h)
theorem take_ok {y : Item} {r : List Item} (h : AllOk (y :: r)) : takeI (y :: r) 4611686018427387904 = (r, some y) := by
  have := (h y List.mem_cons_self).2.1
  simp only [takeI, if_pos this]
theorem take_snoc' (l : List Item) (k : Nat) (hk : k < l.length) : l.take (k + 1) = l.take k ++ [get l k] := by
  rw [List.take_succ_eq_append_getElem hk]; simp [get, hk]
end Go.Proofs.Ytbaphdaipacihaa
