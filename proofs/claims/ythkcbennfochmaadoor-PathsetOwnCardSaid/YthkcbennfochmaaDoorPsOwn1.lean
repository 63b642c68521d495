/-
  PLAIN LAWS OF MEMORY for the law PathsetOwn: rows whatever they hold; the lists that the law writes into and appends to.
-/
import Derived.Test.YthkcbennfochmaaDoorPsFill
namespace Go.Proofs.YthkcbennfochmaaDoor
open Go.RowKit Go.Maps

/-- a row, whatever it holds -/
def Row (w : World) (e : TypeId) (size : Nat) (v : Value) (n : Nat) : Prop := ∃ xs, w.ownsRow 0 e size v n xs
section
variable {w w' : World} {e : TypeId} {size n : Nat} {v : Value}
theorem Row.of {base : Nat} {xs : List Value} (h : w.ownsRow base e size v n xs) : Row w e size v n := ⟨xs, World.ownsRow.mono h (Nat.zero_le _)⟩
theorem Row.mod (h : Row w e size v n) {S : List Nat} (m : Mod S w w') (hS : ∀ k, k ∈ obl v → k ∉ S) : Row w' e size v n := by
  obtain ⟨xs, hx⟩ := h
  exact ⟨xs, m.row hx fun k hk => hS k (mem_obl.2 hk)⟩
theorem Row.form (h : Row w e size v n) : ∃ q c, v = .slice q n c ∧ n ≤ c := by
  obtain ⟨xs, hx⟩ := h
  obtain ⟨q, c, e, hc, -⟩ := row_form hx
  exact ⟨q, c, e, hc⟩
theorem Row.some_ (h : Row w e size v n) (hn : 0 < n) : ∃ g c, v = .slice (some ⟨g, 0, none⟩) n c := by
  obtain ⟨xs, -, ⟨-, h0⟩ | ⟨g, cap, cur, rfl, -⟩⟩ := h
  · omega
  · exact ⟨g, cap, rfl⟩
theorem Row.blk (h : Row w e size v n) {k : Nat} (hk : k ∈ obl v) : ∃ cur, w.heap[k]? = some (.cells cur e (0, 0)) := by
  obtain ⟨xs, -, ⟨rfl, -⟩ | ⟨g, cap, cur, rfl, -, hg, -⟩⟩ := h
  · simp [obl, Value.ownBlock] at hk
  · have : k = g := by simpa [obl, Value.ownBlock] using hk
    rw [this]; exact ⟨cur, hg⟩
theorem Row.lt (h : Row w e size v n) {k : Nat} (hk : k ∈ obl v) : k < w.heap.size := by
  obtain ⟨cur, hc⟩ := h.blk hk
  exact lt_of_block hc
theorem Row.ne {e2 : TypeId} {size2 n2 : Nat} {v2 : Value} (h : Row w e size v n) (h2 : Row w e2 size2 v2 n2) (he : e ≠ e2) : ∀ k, k ∈ obl v → k ∉ obl v2 := by
  intro k hk hk2
  obtain ⟨c1, h1⟩ := h.blk hk
  obtain ⟨c2, h2⟩ := h2.blk hk2
  rw [h1] at h2
  injection h2 with h2
  injection h2 with _ h2 _
  exact he h2
theorem Row.ne_blk (h : Row w e size v n) {b : Nat} {cs : Array Value} {T : TypeId} {f : Nat × Nat} (hb : w.heap[b]? = some (.cells cs T f)) (he : e ≠ T) : ∀ k, k ∈ obl v → k ≠ b := by
  intro k hk e2
  obtain ⟨c1, h1⟩ := h.blk hk
  rw [e2, hb] at h1
  injection h1 with h1
  injection h1 with _ h1 _
  exact he h1.symm
theorem Row.touch {g c : Nat} (h : Row w e size (.slice (some ⟨g, 0, none⟩) n c) n) (o : Nat) (x : Value) : Row (w.setCell ⟨g, o, none⟩ x) e size (.slice (some ⟨g, 0, none⟩) n c) n := by
  obtain ⟨xs, hl, ⟨hv, -⟩ | ⟨g', cap, cur, hv, hb, hg, h1, h2, h3, h4⟩⟩ := h
  · cases hv
  · injection hv with e1 _ e3
    injection e1 with e1
    injection e1 with e1
    subst e1 e3
    have hlen : (cur.toList.take (n * size)).length = n * size := by rw [h4]; exact hl
    refine ⟨(cur.setIfInBounds o x).toList.take (n * size), ?_, .inr ⟨g, c, cur.setIfInBounds o x, rfl, hb, blk_set hg o x, h1, h2, by simpa using h3, rfl⟩⟩
    simp only [List.length_take, Array.length_toList, Array.size_setIfInBounds] at hlen ⊢
    exact hlen
theorem Row.cell {g c : Nat} (h : Row w e size (.slice (some ⟨g, 0, none⟩) n c) n) {i : Nat} (hi : i < n * size) : (∃ x, w.cell? ⟨g, i, none⟩ = some x) := by
  obtain ⟨xs, hx⟩ := h
  have h1 := World.ownsRow.cellAt hx i hi
  rw [h1]
  exact ⟨_, List.getElem?_eq_getElem (by rw [hx.1]; exact hi)⟩
theorem Row.free {g c : Nat} (h : Row w e size (.slice (some ⟨g, 0, none⟩) n c) n) (i : Nat) : w.frozen? ⟨g, i, none⟩ = false := by
  obtain ⟨xs, hx⟩ := h
  exact World.ownsRow.frozenAt hx i
end
/-- the lists that the law turns: a (entries), and three of the six lists of numbers -/
structure OwnS (w9 w' : World) (M : List Nat) (IB : Nat) (v1 v3 v5 a : Value) (na : Nat) (U : Nat → Value) (n : Nat → Nat) : Prop where
  mod : Mod M w9 w'
  ib : IB ∈ M
  blk : w'.heap[IB]? = some (.cells #[U 0, v1, U 1, v3, U 2, v5] 37 (0, 0))
  ra : Row w' 29 4 a na
  ru : ∀ j, j < 3 → Row w' 3 1 (U j) (n j)
  ia : ∀ k, k ∈ obl a → k ∈ M ∨ w9.heap.size ≤ k
  iu : ∀ j, j < 3 → ∀ k, k ∈ obl (U j) → k ∈ M ∨ w9.heap.size ≤ k
  ap : ∀ i, i < 3 → ∀ j, j < 3 → i ≠ j → ∀ k, k ∈ obl (U i) → k ∉ obl (U j)
section
variable {w9 w' w'' : World} {M : List Nat} {IB : Nat} {v1 v3 v5 a : Value} {na : Nat} {U : Nat → Value} {n : Nat → Nat}
theorem OwnS.same (s : OwnS w9 w' M IB v1 v3 v5 a na U n) (m : Mod [] w' w'') : OwnS w9 w'' M IB v1 v3 v5 a na U n :=
  ⟨s.mod.trans m (fun _ h _ => h) (by simp), s.ib, m.at_ s.blk (by simp), s.ra.mod m (by simp), fun j hj => (s.ru j hj).mod m (by simp), s.ia, s.iu, s.ap⟩
theorem OwnS.to_a (s : OwnS w9 w' M IB v1 v3 v5 a na U n) (m : Mod (obl a) w' w'') {a' : Value} {na' : Nat} (r : Row w'' 29 4 a' na') (h : ∀ k, k ∈ obl a' → k ∈ obl a ∨ w'.heap.size ≤ k) : OwnS w9 w'' M IB v1 v3 v5 a' na' U n := by
  refine ⟨s.mod.trans m (fun _ h _ => h) (fun x hx hlt => ?_), s.ib, m.at_ s.blk (fun e => s.ra.ne_blk s.blk (by decide) _ e rfl), r, fun j hj => (s.ru j hj).mod m ((s.ru j hj).ne s.ra (by decide)), fun k hk => ?_, s.iu, s.ap⟩
  · rcases s.ia x hx with e | e
    · exact e
    · omega
  · rcases h k hk with e | e
    · exact s.ia k e
    · exact .inr (Nat.le_trans s.mod.size e)
theorem OwnS.touch_u (s : OwnS w9 w' M IB v1 v3 v5 a na U n) {j : Nat} (hj : j < 3) (m : Mod (obl (U j)) w' w'') (r : Row w'' 3 1 (U j) (n j)) : OwnS w9 w'' M IB v1 v3 v5 a na U n := by
  refine ⟨s.mod.trans m (fun _ h _ => h) (fun x hx hlt => ?_), s.ib, m.at_ s.blk (fun e => (s.ru j hj).ne_blk s.blk (by decide) _ e rfl), s.ra.mod m (s.ra.ne (s.ru j hj) (by decide)), fun i hi => ?_, s.ia, s.iu, s.ap⟩
  · rcases s.iu j hj x hx with e | e
    · exact e
    · omega
  · by_cases e : i = j
    · rw [e]; exact r
    · exact (s.ru i hi).mod m (s.ap i hi j hj e)
theorem OwnS.to_u (s : OwnS w9 w' M IB v1 v3 v5 a na U n) {j : Nat} (hj : j < 3) {o : Nat} (ho : o = 2 * j) (m : Mod (obl (U j)) w' w'') {u' : Value} {n' : Nat} (r : Row w'' 3 1 u' n') (h : ∀ k, k ∈ obl u' → k ∈ obl (U j) ∨ w'.heap.size ≤ k) :
    OwnS w9 (w''.setCell ⟨IB, o, none⟩ u') M IB v1 v3 v5 a na (fun i => if i = j then u' else U i) (fun i => if i = j then n' else n i) := by
  have hb := m.at_ s.blk (fun e => (s.ru j hj).ne_blk s.blk (by decide) _ e rfl)
  have m2 : Mod [IB] w'' (w''.setCell ⟨IB, o, none⟩ u') := (Mod.refl [IB] w'').setCell (fun _ => by simp) _
  have off : ∀ {e : TypeId} {size n : Nat} {v : Value}, Row w'' e size v n → e ≠ 37 → Row (w''.setCell ⟨IB, o, none⟩ u') e size v n := fun hr he => hr.mod m2 (fun k hk => by simpa using hr.ne_blk hb he k hk)
  have hlt : ∀ i, i < 3 → ∀ k, k ∈ obl (U i) → k < w'.heap.size := fun i hi k hk => (s.ru i hi).lt hk
  refine ⟨(s.mod.trans m (fun _ h _ => h) (fun x hx hlt => ?_)).trans m2 (fun _ h _ => h) (fun x hx _ => ?_), s.ib, ?_, off (s.ra.mod m (s.ra.ne (s.ru j hj) (by decide))) (by decide), fun i hi => ?_, s.ia, fun i hi k hk => ?_, fun i hi i2 hi2 hne k hk hk2 => ?_⟩
  · rcases s.iu j hj x hx with e | e
    · exact e
    · omega
  · rw [List.mem_singleton.1 hx]; exact s.ib
  · rw [blk_set hb]
    rcases (by omega : j = 0 ∨ j = 1 ∨ j = 2) with rfl | rfl | rfl <;> subst ho <;> rfl
  · by_cases e : i = j
    · simp only [e, if_true]
      exact off r (by decide)
    · simp only [e, if_false]
      exact off ((s.ru i hi).mod m (s.ap i hi j hj e)) (by decide)
  · by_cases e : i = j
    · simp only [e, if_true] at hk
      rcases h k hk with h1 | h1
      · exact s.iu j hj k h1
      · exact .inr (Nat.le_trans s.mod.size h1)
    · simp only [e, if_false] at hk
      exact s.iu i hi k hk
  · by_cases e : i = j
    · have e2 : ¬ i2 = j := fun x => hne (e.trans x.symm)
      simp only [e, if_true] at hk
      simp only [e2, if_false] at hk2
      rcases h k hk with h1 | h1
      · exact s.ap j hj i2 hi2 (fun x => e2 x.symm) k h1 hk2
      · have := hlt i2 hi2 k hk2; omega
    · simp only [e, if_false] at hk
      by_cases e2 : i2 = j
      · simp only [e2, if_true] at hk2
        rcases h k hk2 with h1 | h1
        · exact s.ap i hi j hj e k hk h1
        · have := hlt i hi k hk; omega
      · simp only [e2, if_false] at hk2
        exact s.ap i hi i2 hi2 hne k hk hk2
end
/-! ### what is dropped -/
def goneS (l L : List Ent) : List Ent := l.foldl (fun a e => dropS5 a e.id) L
theorem gone_take (l L : List Ent) {k : Nat} (h : k < l.length) : goneS (l.take (k + 1)) L = dropS5 (goneS (l.take k) L) (l.getD k default).id := by
  unfold goneS
  rw [take_succ_getD l h, List.foldl_append]
  rfl
theorem gone_mem : ∀ (l L : List Ent) (x : Ent), x ∈ goneS l L → x ∈ L ∧ ∀ e, e ∈ l → x.id ≠ e.id
  | [], L, x, h => ⟨h, by simp⟩
  | e :: r, L, x, h => by
    obtain ⟨h1, h2⟩ := gone_mem r (dropS5 L e.id) x h
    obtain ⟨h3, h4⟩ := List.mem_filter.1 h1
    refine ⟨h3, fun y hy => ?_⟩
    rcases List.mem_cons.1 hy with rfl | hy
    · exact of_decide_eq_true h4
    · exact h2 y hy
theorem fill_sub (l : List Ent) : ∀ x, x ∈ fillS l → x ∈ l := by
  have key : ∀ (m acc : List Ent) (x : Ent), x ∈ m.foldl (fun a e => (putS5 a e).1) acc → x ∈ acc ∨ x ∈ m := by
    intro m
    induction m with
    | nil => exact fun acc x h => .inl h
    | cons e r ih =>
      intro acc x h
      rcases ih _ x h with h1 | h1
      · have : x ∈ acc ∨ x = e := by
          replace h1 : x ∈ (putS5 acc e).1 := h1
          unfold putS5 at h1
          split at h1
          · exact .inl h1
          · split at h1
            · exact .inl h1
            · split at h1
              · exact .inl h1
              · split at h1
                · exact .inl h1
                · rcases mem_insE.1 h1 with h2 | h2
                  · exact .inr h2
                  · exact .inl h2
        rcases this with h2 | h2
        · exact .inl h2
        · exact .inr (by rw [h2]; exact List.mem_cons_self)
      · exact .inr (List.mem_cons_of_mem _ h1)
  intro x hx
  rcases key l [] x hx with h | h
  · cases h
  · exact h
theorem gone_all (l : List Ent) : goneS l (fillS l) = [] := by
  rw [List.eq_nil_iff_forall_not_mem]
  intro x hx
  obtain ⟨h1, h2⟩ := gone_mem l (fillS l) x hx
  exact h2 x (fill_sub l x h1) rfl
end Go.Proofs.YthkcbennfochmaaDoor
