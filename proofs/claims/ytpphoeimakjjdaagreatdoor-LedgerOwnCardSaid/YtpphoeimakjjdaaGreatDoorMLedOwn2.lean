/-
  LedOwn1 LedOwn2: see the remarks below.
-/
import Derived.Test.YtpphoeimakjjdaaGreatDoorMLedRf12
import Derived.Test.YtpphoeimakjjdaaGreatDoorMLedOp
import Derived.Test.YtpphoeimakjjdaaGreatDoorMLedMay
import Derived.Deep.CutBlock
/-
  PLAIN LAWS OF MEMORY for the law LedgerOwn: rows whatever they hold; the book that the law writes into and appends to.
-/
namespace Go.Proofs.YtpphoeimakjjdaaGreatDoor
open Go.RowKit

theorem GrM.away {w w' : World} {base : Nat} {v : Value} {lv : List (Grt × Value)} (h : GrM w base v lv) {S : List Nat} (m : Mod S w w') (hS : ∀ k, k ∈ S → k ∉ ob v ∧ ∀ p, p ∈ lv → k ∉ ob p.2) : GrM w' base v lv :=
  ⟨m.row h.row (fun k hk e => (hS k e).1 (by simp [ob, hk])), fun p hp => ⟨m.row (h.st p hp).1 (fun k hk e => (hS k e).2 p hp (by simp [ob, hk])), (h.st p hp).2⟩⟩
/-- boxes of books that are written are no ledger's memory -/
theorem LS.books {w0 w w' : World} {pl pd bs : Nat} {d : Dk} {l : Lg} (s : LS w0 w pl pd bs d l) {S : List Nat} (m : Mod S w w') (hS : ∀ k, k ∈ S → w0.heap.size ≤ k ∧ k ≠ pl ∧ k ≠ pd ∧ k ≠ bs ∧ ∃ cs, w.heap[k]? = some (.cells cs 34 (0, 0))) : LS w0 w' pl pd bs d l := by
  obtain ⟨gv, lv, h⟩ := s.mem
  refine ⟨⟨gv, lv, m.at_ h.blk (fun e => (hS _ e).2.1 rfl), h.dk.mod m (fun e => (hS _ e).2.2.1 rfl) (fun e => (hS _ e).2.2.2.1 rfl), ⟨h.bk.gr.other m (fun k hk => (hS k hk).2.2.2.2), h.bk.eq⟩, h.lt⟩, s.lo, mod_fresh0 s.md m (fun k hk => (hS k hk).1)⟩
theorem mem_ob {v : Value} {k : Nat} : k ∈ ob v ↔ v.ownBlock = some k := by simp [ob]
/-- a row, whatever it holds -/
def Row (w : World) (e : TypeId) (size : Nat) (v : Value) (n : Nat) : Prop := ∃ xs, w.ownsRow 0 e size v n xs
section
variable {w w' : World} {e : TypeId} {size n : Nat} {v : Value}
theorem Row.of {base : Nat} {xs : List Value} (h : w.ownsRow base e size v n xs) : Row w e size v n := ⟨xs, World.ownsRow.mono h (Nat.zero_le _)⟩
theorem Row.mod (h : Row w e size v n) {S : List Nat} (m : Mod S w w') (hS : ∀ k, k ∈ ob v → k ∉ S) : Row w' e size v n := by
  obtain ⟨xs, hx⟩ := h
  exact ⟨xs, m.row hx fun k hk => hS k (by simp [ob, hk])⟩
theorem Row.form (h : Row w e size v n) : ∃ q c, v = .slice q n c ∧ n ≤ maxLen := by
  obtain ⟨xs, -, ⟨rfl, rfl⟩ | ⟨g, cap, cur, rfl, -, -, h1, h2, -⟩⟩ := h
  · exact ⟨none, 0, rfl, Nat.zero_le _⟩
  · exact ⟨_, cap, rfl, Nat.le_trans h1 h2⟩
theorem Row.some_ (h : Row w e size v n) (hn : 0 < n) : ∃ g c, v = .slice (some ⟨g, 0, none⟩) n c := by
  obtain ⟨xs, -, ⟨-, h0⟩ | ⟨g, cap, cur, rfl, -⟩⟩ := h
  · omega
  · exact ⟨g, cap, rfl⟩
theorem Row.blk (h : Row w e size v n) {k : Nat} (hk : k ∈ ob v) : ∃ cur, w.heap[k]? = some (.cells cur e (0, 0)) := by
  obtain ⟨xs, -, ⟨rfl, -⟩ | ⟨g, cap, cur, rfl, -, hg, -⟩⟩ := h
  · simp [ob, Value.ownBlock] at hk
  · have : k = g := by simpa [ob, Value.ownBlock] using hk
    rw [this]; exact ⟨cur, hg⟩
theorem Row.lt (h : Row w e size v n) {k : Nat} (hk : k ∈ ob v) : k < w.heap.size := by
  obtain ⟨cur, hc⟩ := h.blk hk
  exact lt_of_block hc
theorem Row.ne {e2 : TypeId} {size2 n2 : Nat} {v2 : Value} (h : Row w e size v n) (h2 : Row w e2 size2 v2 n2) (he : e ≠ e2) : ∀ k, k ∈ ob v → k ∉ ob v2 := by
  intro k hk hk2
  obtain ⟨c1, h1⟩ := h.blk hk
  obtain ⟨c2, h2⟩ := h2.blk hk2
  rw [h1] at h2
  injection h2 with h2
  injection h2 with _ h2 _
  exact he h2
theorem Row.ne_blk (h : Row w e size v n) {b : Nat} {cs : Array Value} {T : TypeId} {f : Nat × Nat} (hb : w.heap[b]? = some (.cells cs T f)) (he : e ≠ T) : ∀ k, k ∈ ob v → k ≠ b := by
  intro k hk e2
  obtain ⟨c1, h1⟩ := h.blk hk
  rw [e2, hb] at h1
  injection h1 with h1
  injection h1 with _ h1 _
  exact he h1.symm
theorem Row.touch {g c : Nat} (h : Row w e size (.slice (some ⟨g, 0, none⟩) n c) n) (o : Nat) (x : Value) : Row (w.setCell ⟨g, o, none⟩ x) e size (.slice (some ⟨g, 0, none⟩) n c) n := by
  obtain ⟨xs, hl, ⟨hv, -⟩ | ⟨g', cap, cur, hv, hb, hg, h1, h2, h3, h4⟩⟩ := h
  · cases hv
  · injection hv with e1 _ e3
    injection e1 with e1
    injection e1 with e1
    subst e1 e3
    have hlen : (cur.toList.take (n * size)).length = n * size := by rw [h4]; exact hl
    refine ⟨(cur.setIfInBounds o x).toList.take (n * size), ?_, .inr ⟨g, c, cur.setIfInBounds o x, rfl, hb, blk_set hg o x, h1, h2, by simpa using h3, rfl⟩⟩
    simp only [List.length_take, Array.length_toList, Array.size_setIfInBounds] at hlen ⊢
    exact hlen
theorem Row.cell {g c : Nat} (h : Row w e size (.slice (some ⟨g, 0, none⟩) n c) n) {i : Nat} (hi : i < n * size) : ∃ x, w.cell? ⟨g, i, none⟩ = some x := by
  obtain ⟨xs, hx⟩ := h
  have h1 := World.ownsRow.cellAt hx i hi
  rw [h1]
  exact ⟨_, List.getElem?_eq_getElem (by rw [hx.1]; exact hi)⟩
theorem Row.free {g c : Nat} (h : Row w e size (.slice (some ⟨g, 0, none⟩) n c) n) (i : Nat) : w.frozen? ⟨g, i, none⟩ = false := by
  obtain ⟨xs, hx⟩ := h
  exact World.ownsRow.frozenAt hx i
end
/-- a book whose grants and stamps are written into: its box, its row of grants, the stamps' rows, apart from one another -/
structure AS (w9 w : World) (M : List Nat) (ba : Nat) (b : Bk) (va : Value) (na : Nat) (U : Nat → Value) (n : Nat → Nat) : Prop where
  mod : Mod M w9 w
  ib : ba ∈ M ∨ w9.heap.size ≤ ba
  bx : w.heap[ba]? = some (.cells #[.int .i64 b.next, .int .i64 b.boots, .int .i64 b.longest, va] 34 (0, 0))
  ra : Row w 40 6 va na
  us : ∀ i, i < na → ∀ g c, va = .slice (some ⟨g, 0, none⟩) na c → w.cell? ⟨g, i * 6 + 4, none⟩ = some (U i)
  ru : ∀ i, i < na → Row w 3 1 (U i) (n i)
  ia : ∀ k, k ∈ ob va → k ∈ M ∨ w9.heap.size ≤ k
  iu : ∀ i, i < na → ∀ k, k ∈ ob (U i) → k ∈ M ∨ w9.heap.size ≤ k
  ap : ∀ i, i < na → ∀ j, j < na → i ≠ j → ∀ k, k ∈ ob (U i) → k ∉ ob (U j)
section
variable {w9 w w' : World} {M : List Nat} {ba : Nat} {b : Bk} {va : Value} {na : Nat} {U : Nat → Value} {n : Nat → Nat}
theorem AS.same (s : AS w9 w M ba b va na U n) (m : Mod [] w w') : AS w9 w' M ba b va na U n :=
  ⟨s.mod.trans m (fun _ h _ => h) (by simp), s.ib, m.at_ s.bx (by simp), s.ra.mod m (by simp), fun i hi g c h => m.kept (s.us i hi g c h) (by simp), fun i hi => (s.ru i hi).mod m (by simp), s.ia, s.iu, s.ap⟩
/-- a number is written into a stamp -/
theorem AS.touch (s : AS w9 w M ba b va na U n) {i : Nat} (hi : i < na) {g c : Nat} (hU : U i = .slice (some ⟨g, 0, none⟩) (n i) c) (o : Nat) (x : Value) : AS w9 (w.setCell ⟨g, o, none⟩ x) M ba b va na U n := by
  have hg : g ∈ ob (U i) := by rw [hU]; simp [ob, Value.ownBlock]
  have m : Mod [g] w (w.setCell ⟨g, o, none⟩ x) := (Mod.refl [g] w).setCell (fun _ => by simp) _
  have hri := s.ru i hi
  refine ⟨s.mod.trans m (fun _ h _ => h) (fun k hk hlt => ?_), s.ib, m.at_ s.bx (fun e => hri.ne_blk s.bx (by decide) g hg (List.mem_singleton.1 e).symm), s.ra.mod m (fun k hk e => ?_), fun j hj g' c' h => m.kept (s.us j hj g' c' h) (fun e => ?_), fun j hj => ?_, s.ia, s.iu, s.ap⟩
  · simp at hk
    subst hk
    rcases s.iu i hi _ hg with e | e
    · exact e
    · omega
  · simp at e
    subst e
    exact s.ra.ne hri (by decide) _ hk hg
  · have e : g' = g := by simpa using e
    subst e
    exact s.ra.ne hri (by decide) g' (by rw [h]; simp [ob, Value.ownBlock]) hg
  · by_cases e : i = j
    · subst e
      have := hri
      rw [hU] at this ⊢
      exact this.touch o x
    · exact (s.ru j hj).mod m (fun k hk e2 => by simp at e2; subst e2; exact s.ap j hj i hi (fun x => e x.symm) _ hk hg)
/-- a grant's cell that is no stamp -/
theorem AS.id (s : AS w9 w M ba b va na U n) {g c i : Nat} (hv : va = .slice (some ⟨g, 0, none⟩) na c) (_hi : i < na) (x : Value) : AS w9 (w.setCell ⟨g, i * 6, none⟩ x) M ba b va na U n := by
  have hg : g ∈ ob va := by rw [hv]; simp [ob, Value.ownBlock]
  have m : Mod [g] w (w.setCell ⟨g, i * 6, none⟩ x) := (Mod.refl [g] w).setCell (fun _ => by simp) _
  refine ⟨s.mod.trans m (fun _ h _ => h) (fun k hk hlt => ?_), s.ib, m.at_ s.bx (fun e => s.ra.ne_blk s.bx (by decide) g hg (List.mem_singleton.1 e).symm), ?_, fun j hj g' c' h => ?_, fun j hj => (s.ru j hj).mod m (fun k hk e2 => ?_), s.ia, s.iu, s.ap⟩
  · simp at hk
    subst hk
    rcases s.ia _ hg with e | e
    · exact e
    · omega
  · have := s.ra
    rw [hv] at this ⊢
    exact this.touch _ x
  · rw [hv] at h
    injection h with h1 _ _
    injection h1 with h1
    injection h1 with h1
    subst h1
    have hx := s.us j hj g c hv
    rw [World.cell?_setCell_other _ _ _ _ (fun e => by simp at e)]
    exact hx
  · simp at e2
    subst e2
    exact s.ra.ne (s.ru j hj) (by decide) _ hg hk
/-- a stamp is appended to, and the new one stored -/
theorem AS.to_u (s : AS w9 w M ba b va na U n) {i : Nat} (hi : i < na) {g c : Nat} (hv : va = .slice (some ⟨g, 0, none⟩) na c) (m : Mod (ob (U i)) w w') {u' : Value} {n' : Nat} (r : Row w' 3 1 u' n') (h : ∀ k, k ∈ ob u' → k ∈ ob (U i) ∨ w.heap.size ≤ k) :
    AS w9 (w'.setCell ⟨g, i * 6 + 4, none⟩ u') M ba b va na (fun j => if j = i then u' else U j) (fun j => if j = i then n' else n j) := by
  have hg : g ∈ ob va := by rw [hv]; simp [ob, Value.ownBlock]
  have hri := s.ru i hi
  have ra1 : Row w' 40 6 va na := s.ra.mod m (s.ra.ne hri (by decide))
  have bx1 := m.at_ s.bx (fun e => hri.ne_blk s.bx (by decide) _ e rfl)
  have m2 : Mod [g] w' (w'.setCell ⟨g, i * 6 + 4, none⟩ u') := (Mod.refl [g] w').setCell (fun _ => by simp) _
  have ru1 : ∀ j, j < na → j ≠ i → Row w' 3 1 (U j) (n j) := fun j hj hne => (s.ru j hj).mod m (s.ap j hj i hi hne)
  have off : ∀ {n2 : Nat} {v2 : Value}, Row w' 3 1 v2 n2 → Row (w'.setCell ⟨g, i * 6 + 4, none⟩ u') 3 1 v2 n2 := fun hr => hr.mod m2 (fun k hk e => by simp at e; subst e; exact ra1.ne hr (by decide) _ hg hk)
  have hlt : ∀ j, j < na → ∀ k, k ∈ ob (U j) → k < w.heap.size := fun j hj k hk => (s.ru j hj).lt hk
  have hwm : w9.heap.size ≤ w.heap.size := s.mod.size
  refine ⟨(s.mod.trans m (fun _ h _ => h) (fun k hk hl => ?_)).trans m2 (fun _ h _ => h) (fun k hk hl => ?_), s.ib, m2.at_ bx1 (fun e => ra1.ne_blk bx1 (by decide) g hg (List.mem_singleton.1 e).symm), ?_, fun j hj g' c' h' => ?_, fun j hj => ?_, s.ia, fun j hj k hk => ?_, fun j hj j2 hj2 hne k hk hk2 => ?_⟩
  · rcases s.iu i hi k hk with e | e
    · exact e
    · omega
  · simp at hk
    subst hk
    rcases s.ia _ hg with e | e
    · exact e
    · omega
  · rw [hv] at ra1 ⊢
    exact ra1.touch _ _
  · have e1 : g' = g := by rw [hv] at h'; simp only [Value.slice.injEq, Option.some.injEq, Addr.mk.injEq, and_true] at h'; exact h'.1.symm
    subst e1
    have hc1 : ∀ j, j < na → w'.cell? ⟨g', j * 6 + 4, none⟩ = some (U j) := fun j hj => m.kept (s.us j hj g' c hv) (fun e => s.ra.ne hri (by decide) g' hg e)
    by_cases e : j = i
    · subst e
      simp only [if_true]
      exact World.cell?_setCell_same _ _ _ (hc1 j hj)
    · simp only [e, if_false]
      rw [World.cell?_setCell_other _ _ _ _ (fun e => by simp at e)]
      exact hc1 j hj
  · by_cases e : j = i
    · simp only [e, if_true]
      exact off r
    · simp only [e, if_false]
      exact off (ru1 j hj e)
  · by_cases e : j = i
    · simp only [e, if_true] at hk
      rcases h k hk with h1 | h1
      · exact s.iu i hi k h1
      · exact .inr (by omega)
    · simp only [e, if_false] at hk
      exact s.iu j hj k hk
  · by_cases e : j = i
    · have e2 : ¬ j2 = i := fun x => hne (e.trans x.symm)
      simp only [e, if_true] at hk
      simp only [e2, if_false] at hk2
      rcases h k hk with h1 | h1
      · exact s.ap i hi j2 hj2 (fun x => e2 x.symm) k h1 hk2
      · have := hlt j2 hj2 k hk2; omega
    · simp only [e, if_false] at hk
      by_cases e2 : j2 = i
      · simp only [e2, if_true] at hk2
        rcases h k hk2 with h1 | h1
        · exact s.ap j hj i hi e k hk h1
        · have := hlt j hj k hk; omega
      · simp only [e2, if_false] at hk2
        exact s.ap j hj j2 hj2 hne k hk hk2
end
theorem AS.of {w : World} {base ba : Nat} {b : Bk} {va : Value} {lv : List (Grt × Value)} (h : BkM w base va b lv) (hs : SepL lv) (hb : w.heap[ba]? = some (.cells #[.int .i64 b.next, .int .i64 b.boots, .int .i64 b.longest, va] 34 (0, 0))) :
    AS w w (ba :: (ob va ++ lv.flatMap fun p => ob p.2)) ba b va lv.length (fun i => (lv.getD i default).2) (fun i => (lv.getD i default).1.stamp.length) := by
  have hmem : ∀ i, i < lv.length → lv.getD i default ∈ lv := fun i hi => by simp [hi]
  refine ⟨Mod.refl _ _, .inl (by simp), hb, Row.of h.gr.row, fun i hi g c hv => ?_, fun i hi => Row.of (h.gr.st _ (hmem i hi)).1, fun k hk => .inl (by simp [hk]), fun i hi k hk => .inl ?_, fun i hi j hj hne k hk hk2 => ?_⟩
  · subst hv
    obtain ⟨b', e, -, -, hc, -, -⟩ := h.gr.at_ i hi
    simp only [Option.some.injEq, Addr.mk.injEq, and_true] at e
    subst e
    rw [hc 4 (by decide)]
    rfl
  · exact List.mem_cons.2 (.inr (List.mem_append.2 (.inr (List.mem_flatMap.2 ⟨_, hmem i hi, hk⟩))))
  · have hp := List.pairwise_iff_getElem.1 hs
    have ei : lv.getD i default = lv[i] := by simp [hi]
    have ej : lv.getD j default = lv[j] := by simp [hj]
    simp only [ei] at hk
    simp only [ej] at hk2
    rcases Nat.lt_or_ge i j with h1 | h1
    · exact hp i j hi hj h1 k hk2 hk
    · exact hp j i hj hi (by omega) k hk hk2
end Go.Proofs.YtpphoeimakjjdaaGreatDoor
/-
  THE LAW LedgerOwn: its first loop: records are appended, and written over behind it.
-/
namespace Go.Proofs.YtpphoeimakjjdaaGreatDoor
open Go.RowKit Go.Shelf

/-- behind the records: a ledger, and a box that holds the document's book -/
def OwnTo (W : World) (pl pd bs b7 : Nat) (wx : World) : Prop :=
  ∃ (d : Dk) (l : Lg) (q : Option Addr) (n c : Nat) (lv : List (Grt × Value)) (B : Nat), LS W wx pl pd bs d l ∧ Calm d l ∧ wx.heap[b7]? = some (.cells #[.int .i64 l.book.next, .int .i64 l.book.boots, .int .i64 l.book.longest, .slice q n c] 34 (0, 0)) ∧ BkM wx B (.slice q n c) l.book lv ∧ pl < B ∧ pd < B ∧ bs < B
def OwnRel (W : World) (pl pd bs b7 N : Nat) (s : Value) (wr : World) : Prop :=
  ∃ (j : Nat) (d : Dk) (l : Lg) (q : Option Addr) (n c : Nat) (lv : List (Grt × Value)) (B : Nat), s = .int .i64 (j : Int) ∧ j ≤ N ∧ j ≤ 61 ∧ l.gen ≤ j + 1 ∧ LS W wr pl pd bs d l ∧ Calm d l ∧ wr.heap[b7]? = some (.cells #[.int .i64 l.book.next, .int .i64 l.book.boots, .int .i64 l.book.longest, .slice q n c] 34 (0, 0)) ∧ BkM wr B (.slice q n c) l.book lv ∧ pl < B ∧ pd < B ∧ bs < B
/-- a loop that writes a number into each place of a row -/
def FilRel (w4 : World) (v : Value) (n : Nat) (s : Value) (wr : World) : Prop := ∃ k : Nat, s = .int .i64 (k : Int) ∧ k ≤ n ∧ Row wr 3 1 v n ∧ Mod (ob v) w4 wr
def L4 (w9 : World) (M : List Nat) (ba : Nat) (b : Bk) (va : Value) (na : Nat) (s : Value) (wx : World) : Prop :=
  ∃ (i : Nat) (U : Nat → Value) (n : Nat → Nat), s = .int .i64 (i : Int) ∧ i ≤ na ∧ AS w9 wx M ba b va na U n ∧ ∀ j, i ≤ j → j < na → n j ≤ 4
def L6 (w9 : World) (M : List Nat) (ba : Nat) (b : Bk) (va : Value) (na i : Nat) (s : Value) (wx : World) : Prop :=
  ∃ (k : Nat) (U : Nat → Value) (n : Nat → Nat), s = .int .i64 (k : Int) ∧ k ≤ 6 ∧ AS w9 wx M ba b va na U n ∧ n i ≤ 4 + k ∧ ∀ j, i < j → j < na → n j ≤ 4
def L7 (w9 : World) (M : List Nat) (ba : Nat) (b : Bk) (s : Value) (wx : World) : Prop :=
  ∃ (k : Nat) (va : Value) (m : Nat), s = .int .i64 (k : Int) ∧ k ≤ 9 ∧ m ≤ 6 + k ∧ Mod M w9 wx ∧ wx.heap[ba]? = some (.cells #[.int .i64 b.next, .int .i64 b.boots, .int .i64 b.longest, va] 34 (0, 0)) ∧ Row wx 40 6 va m ∧ ∀ x, x ∈ ob va → x ∈ M ∨ w9.heap.size ≤ x
theorem own_append {d : Dk} {l : Lg} (h : Calm d l) {j : Nat} (hg : l.gen ≤ j + 1) (hj : j ≤ 60) (r : Rcd) :
    ∃ e d' l', appendD d l r = (e, d', l') ∧ Calm d' l' ∧ l'.gen ≤ j + 2 ∧ ((applyB l.book r).2 = 0 → l'.book = (applyB l.book r).1) ∧ ((applyB l.book r).2 ≠ 0 → l'.book = l.book) := by
  rcases calm_append h (by omega) r with ⟨h1, h2⟩ | ⟨h1, d', l', h2, h3, h4, h5, _⟩
  · exact ⟨_, d, l, h2, h, by omega, fun e => absurd e h1, fun _ => rfl⟩
  · exact ⟨0, d', l', h2, h3, by omega, fun _ => h4, fun e => absurd h1 e⟩
theorem sameRec_self {w : World} {x : Rcd} {s1 t1 s2 t2 : Value} (hx : RdN w s1 x.grant.stamp) (hx2 : RdN w t1 x.stamp) (hy : RdN w s2 x.grant.stamp) (hy2 : RdN w t2 x.stamp) :
    Calls Tryz.prog 17 #[aggR x s1 t1, aggR x s2 t2] w fun e w' => e = .returned (.bool true) ∧ Mod [] w w' := by
  refine (rsameRec_any hx hx2 hy hy2).mono ?_
  rintro e w' ⟨rfl, m⟩
  have : decide (x = x) = true := decide_eq_true rfl
  exact ⟨congrArg (fun x => Ending.returned (.bool x)) this, m⟩
set_option maxHeartbeats 8000000 in
set_option maxRecDepth 100000 in
theorem own_any {W : World} {q0 : Option Addr} {c0 : Nat} {l0 : List Rcd} (hl : RdRc W (.slice q0 l0.length c0) l0) :
    Calls Tryz.prog 4 #[.slice q0 l0.length c0] W fun e w' => e = .returned (.bool true) ∧ Mod [] W w' := by
  obtain ⟨d1, ho1, hc1, _, _⟩ := calm_new (d := newD 49) (n := 49) (by omega) (by omega) rfl rfl (newD_ok (by omega) (by omega)) rfl rfl
  have HO := hide (And.intro ho1 hc1)
  have HL := hide hl
  have hll : l0.length ≤ 9223372036854775807 := hl.1
  clear hl ho1 hc1
  go_enter Tryz.func4, Tryz.ntmps4
  go_upto_region 8 with (first
    | (go_at_call 12; refine (awake_any _).mono ?_; rintro e w1 ⟨rfl, m⟩; have H1 := hide m; clear m)
    | (go_at_call 10
       refine (dnew_any 49 (by omega) (by omega) _).mono ?_
       rintro e w2 ⟨rfl, hd, m⟩
       have H2 := hide (And.intro hd (H1.out.then m))
       have hz1 := H1.out.size
       clear hd m)
    | (go_at_call 11
       refine (open_eq (w0 := W) H2.out.1 (by omega) H2.out.2 HO.out.1).mono ?_
       rintro e w3 ⟨pl, rfl, s3, -⟩
       have H3 := hide s3
       clear s3 H2)
    | (go_at_call 14
       refine (rnew_any _).mono ?_
       rintro e w4 ⟨rfl, m4⟩
       simp only [aggB, Bk.new]
       have H4 := hide m4
       clear m4)
    | fail)
  obtain ⟨pd, hpd⟩ : ∃ pd, w1.heap.size + 1 = pd := ⟨_, rfl⟩
  obtain ⟨bs, hbs⟩ : ∃ bs, w1.heap.size = bs := ⟨_, rfl⟩
  have hs0 := H3.out
  rw [hpd, hbs] at hs0
  try rw [hpd]
  obtain ⟨b7, hb7⟩ : ∃ b, w4.heap.size = b := ⟨_, rfl⟩
  obtain ⟨W5, hW5⟩ : ∃ W5, W5 = w4.alloc (.cells #[.int .i64 1, .int .i64 0, .int .i64 0, .slice none 0 0] 34 (0, 0)) := ⟨_, rfl⟩
  have h75 : W5.heap[b7]? = some (.cells #[.int .i64 1, .int .i64 0, .int .i64 0, .slice none 0 0] 34 (0, 0)) := by rw [hW5, ← hb7]; exact heap_alloc_new w4 _
  have m45 : Mod [] w4 W5 := by rw [hW5]; exact (Mod.refl _ _).alloc _
  have s5 := hs0.quiet (H4.out.then m45)
  have hlts : pl < b7 ∧ pd < b7 ∧ bs < b7 := by have := hs0.lts; have := H4.out.size; omega
  have hWb : W.heap.size ≤ b7 := by have := hs0.md.size; have := H4.out.size; omega
  have H5 := hide (And.intro h75 s5)
  rw [← hW5]
  try rw [hb7]
  clear hW5 h75 m45 s5 hs0 H4 H3 hz1 hpd hbs hb7
  go_upto_block 0 with fail
  go_cut [] (fun wx => OwnTo W pl pd bs b7 wx)
  case first =>
    go_wp2_with fail
    go_loopw [42] (fun s wr => OwnRel W pl pd bs b7 l0.length s wr) (fun i _ => l0.length - (intOf i).toNat)
    case atStart => exact ⟨0, d1, newL, none, 0, 0, [], b7, rfl, Nat.zero_le _, by omega, Nat.le_refl _, H5.out.2, HO.out.2, H5.out.1, ⟨GrM.nil _ _, rfl⟩, hlts⟩
    case round =>
      obtain ⟨j, d, l, q7, n7, c7, lv7, B7, rfl, hj, hj61, hgn, hs, hcl, h7, hbm7, hB7⟩ := hrel
      obtain ⟨wo, rfl⟩ : ∃ x : World, x = wr := ⟨_, rfl⟩
      by_cases hlt : j < l0.length
      · have hji : (j : Int) < (l0.length : Int) := by omega
        obtain ⟨ob0, off, q, c, q', c', rfl, hobw, hcs, hra, hrb, hin⟩ := HL.out.at_ j hlt
        generalize l0.getD j default = o at hcs hra hrb hin
        obtain ⟨rk, ⟨gi, gh, gp, gm, gs, gt⟩, ri, rs, rn, rbt, rl⟩ := o
        simp only at hcs hra hrb hin
        obtain ⟨m1, hm1⟩ : ∃ m, gs.length = m := ⟨_, rfl⟩
        obtain ⟨m2, hm2⟩ : ∃ m, rs.length = m := ⟨_, rfl⟩
        rw [hm1, hm2] at hcs
        rw [hm1] at hra
        rw [hm2] at hrb
        have hcw : ∀ i, i < 12 → wo.cell? ⟨ob0, off + j * 12 + i, none⟩ = (cellsR ⟨rk, ⟨gi, gh, gp, gm, gs, gt⟩, ri, rs, rn, rbt, rl⟩ (.slice q m1 c) (.slice q' m2 c'))[i]? := fun i hi => (hs.md.cell (x := ⟨ob0, off + j * 12 + i, none⟩) hobw (by simp)).trans (hcs i hi)
        have y0 := hcw 0 (by decide)
        have y1 := hcw 1 (by decide)
        have y2 := hcw 2 (by decide)
        have y3 := hcw 3 (by decide)
        have y4 := hcw 4 (by decide)
        have y5 := hcw 5 (by decide)
        have y6 := hcw 6 (by decide)
        have y7 := hcw 7 (by decide)
        have y8 := hcw 8 (by decide)
        have y9 := hcw 9 (by decide)
        have y10 := hcw 10 (by decide)
        have y11 := hcw 11 (by decide)
        simp [cellsR] at y0 y1 y2 y3 y4 y5 y6 y7 y8 y9 y10 y11
        obtain ⟨⟨_, hip, hil⟩, _, hir⟩ := hin
        simp only at hip hil hir
        have hvb := hcl.inv.lok.book
        have hlr := hs.lts
        obtain ⟨CR, hCR⟩ : ∃ CR : Array Value, CR = #[.int .i64 rk, .int .i64 gi, .int .i64 gh, .string gp, .int .i64 gm, .slice q m1 c, .int .i64 gt, .int .i64 ri, .slice q' m2 c', .int .i64 rn, .int .i64 rbt, .int .i64 rl] := ⟨_, rfl⟩
        obtain ⟨W1, hW1⟩ : ∃ W1, W1 = wo.alloc (.cells CR 42 (0, 0)) := ⟨_, rfl⟩
        have hb1 : W1.heap[wo.heap.size]? = some (.cells CR 42 (0, 0)) := by rw [hW1]; exact heap_alloc_new wo _
        have hma : Mod [] wo W1 := by rw [hW1]; exact (Mod.refl _ _).alloc _
        have B1 := blk_cell hb1
        rw [hCR] at hW1 B1
        have HCR := hide hCR
        have how := ownRec_any (w := W1) (r := ⟨rk, ⟨gi, gh, gp, gm, gs, gt⟩, ri, rs, rn, rbt, rl⟩) (sv := .slice q m1 c) (tv := .slice q' m2 c') (hra.mod (hs.md.then hma) (by simp)) (hrb.mod (hs.md.then hma) (by simp)) hil hir
        unfold aggR cellsR at how
        simp only at how
        have HS := hide (And.intro hs (And.intro hcl (And.intro h7 (And.intro hbm7 (And.intro hra hrb)))))
        have HB := hide (And.intro hb1 hma)
        have HN := hide (And.intro hm1 hm2)
        clear hcs hcw hs hcl h7 hbm7 hra hrb hb1 hma hil hir hCR hm1 hm2
        by_cases h60 : (60 : Int) < (j : Int)
        · clear how
          go_wp2_with fail
          rw [← hW1]
          go_meet
          case rel => exact ⟨d, l, q7, n7, c7, lv7, B7, HS.out.1.quiet HB.out.2, HS.out.2.1, HB.out.2.at_ HS.out.2.2.1 (by simp), ⟨HS.out.2.2.2.1.gr.mod HB.out.2 (by simp), HS.out.2.2.2.1.eq⟩, hB7⟩
        obtain ⟨ae, d', l', hap, hcl2, hgn2, hbk2, hbk3⟩ := own_append (r := ⟨rk, ⟨gi, gh, gp, gm, gs, gt⟩, ri, rs, rn, rbt, rl⟩) HS.out.2.1 hgn (by omega)
        have HAP := hide (And.intro hap (And.intro hcl2 (And.intro hbk2 hbk3)))
        clear hap hcl2 hbk2 hbk3
        go_upto_region 12 with fail
        rw [← hW1]
        clear hW1 y0 y1 y2 y3 y4 y5 y6 y7 y8 y9 y10 y11
        go_upto_region 13 with (go_at_call 15
                                refine how.mono ?_
                                rintro e w2 ⟨p1, n1, d1', p2, n2, d2', rfl, hr1, hr2, hapt, m2⟩
                                simp only [aggR, cellsR]
                                have H2 := hide (And.intro hr1 (And.intro hr2 m2))
                                have HAPT := hide hapt
                                clear hr1 hr2 m2 how B1 hapt)
        obtain ⟨CM, hCM⟩ : ∃ CM : Array Value, CM = #[.int .i64 rk, .int .i64 gi, .int .i64 gh, .string gp, .int .i64 gm, .slice p1 n1 d1', .int .i64 gt, .int .i64 ri, .slice p2 n2 d2', .int .i64 rn, .int .i64 rbt, .int .i64 rl] := ⟨_, rfl⟩
        obtain ⟨W3, hW3⟩ : ∃ W3, W3 = w2.alloc (.cells CM 42 (0, 0)) := ⟨_, rfl⟩
        have hb3 : W3.heap[w2.heap.size]? = some (.cells CM 42 (0, 0)) := by rw [hW3]; exact heap_alloc_new w2 _
        have m23 : Mod [] w2 W3 := by rw [hW3]; exact (Mod.refl _ _).alloc _
        have B3 := blk_cell hb3
        rw [hCM] at hW3 B3
        rw [← hW3]
        have HCM := hide hCM
        obtain ⟨hr1, hr2, m2⟩ := H2.out
        have m03 : Mod [] wo W3 := (HB.out.2.then m2).then m23
        have H3 := hide (And.intro hb3 (And.intro (m23.row hr1 (by simp)) (And.intro (m23.row hr2 (by simp)) (And.intro m03 (And.intro (HS.out.1.quiet m03) ((m2.then m23).at_ HB.out.1 (by simp)))))))
        have hn1 : gs.length = n1 := by obtain ⟨_, _, e⟩ := (rdN_of_row hr1).len; cases e; rfl
        have hn2 : rs.length = n2 := by obtain ⟨_, _, e⟩ := (rdN_of_row hr2).len; cases e; rfl
        have hz3 : wo.heap.size < W1.heap.size ∧ W1.heap.size ≤ w2.heap.size ∧ w2.heap.size < W3.heap.size := ⟨lt_of_block HB.out.1, m2.size, lt_of_block hb3⟩
        have HN12 := hide (And.intro hn1 hn2)
        clear hW3 hCM hb3 m23 hr1 hr2 m2 m03 H2 hn1 hn2
        go_upto_region 14 with (go_at_call 16
                                refine (append_apart (r := ⟨rk, ⟨gi, gh, gp, gm, gs, gt⟩, ri, rs, rn, rbt, rl⟩) HS.out.1 H3.out.2.2.2.1 HS.out.2.1.inv.lok HS.out.2.1.inv.n49 (rdN_of_row H3.out.2.1) (rdN_of_row H3.out.2.2.1) (by simp only; omega) HAP.out.1).mono ?_
                                rintro e w4 ⟨rfl, s4, m4, gv4, lv4, hlg4, haw4⟩
                                have H4g := hide (And.intro hlg4 haw4)
                                clear hlg4 haw4
                                have hx : ∀ k, k ∈ [pl, pd, bs] → k < wo.heap.size := (fun k hk => by simp at hk; omega)
                                have hb4 := m4.at_ H3.out.1 (fun e => by have := hx _ e; omega)
                                have h94 := m4.at_ H3.out.2.2.2.2.2 (fun e => by have := hx _ e; omega)
                                have hr14 := m4.row H3.out.2.1 (fun k hk e => by have := (ob_of_row H3.out.2.1 k (by simp [ob, hk])).1; have := hx _ e; omega)
                                have hr24 := m4.row H3.out.2.2.1 (fun k hk e => by have := (ob_of_row H3.out.2.2.1 k (by simp [ob, hk])).1; have := hx _ e; omega)
                                have B4 := blk_cell hb4
                                have K4 := blk_cell h94
                                rw [HCM.out] at B4
                                rw [HCR.out] at K4
                                have H4 := hide (And.intro s4 (And.intro m4 (And.intro hb4 (And.intro h94 (And.intro hr14 (And.intro hr24 hx))))))
                                clear s4 m4 hb4 h94 hr14 hr24 hx B3)
        have hsame := sameRec_self (x := ⟨rk, ⟨gi, gh, gp, gm, gs, gt⟩, ri, rs, rn, rbt, rl⟩) (rdN_of_row H4.out.2.2.2.2.1) (rdN_of_row H4.out.2.2.2.2.2.1) (HS.out.2.2.2.2.1.mod H4.out.1.md (by simp)) (HS.out.2.2.2.2.2.mod H4.out.1.md (by simp))
        unfold aggR cellsR at hsame
        simp only at hsame
        go_upto_region 16 with (go_at_call 17
                                refine hsame.mono ?_
                                rintro e w5 ⟨rfl, m5⟩
                                have B5 := blk_cell (m5.at_ H4.out.2.2.1 (by simp))
                                rw [HCM.out] at B5
                                have hro := (show Row w5 3 1 (.slice p1 n1 d1') n1 from by have := Row.of (m5.row H4.out.2.2.2.2.1 (by simp)); rw [HN12.out.1] at this; exact this)
                                have hro2 := (show Row w5 3 1 (.slice p2 n2 d2') n2 from by have := Row.of (m5.row H4.out.2.2.2.2.2.1 (by simp)); rw [HN12.out.2] at this; exact this)
                                have H5x := hide (And.intro m5 (And.intro hro hro2))
                                clear m5 hro hro2 hsame B4 K4)
        have hn1x : n1 ≤ 9223372036854775807 := by obtain ⟨_, _, e, h⟩ := H5x.out.2.1.form; exact h
        have hn2x : n2 ≤ 9223372036854775807 := by obtain ⟨_, _, e, h⟩ := H5x.out.2.2.form; exact h
        have hb5 := H5x.out.1.at_ H4.out.2.2.1 (by simp)
        have HB5 := hide hb5
        clear hb5
        go_upto_region 17 with fail
        go_loopw [62] (fun s wx => FilRel w5 (.slice p1 n1 d1') n1 s wx) (fun i _ => n1 - (intOf i).toNat)
        case atStart => exact ⟨0, rfl, Nat.zero_le _, H5x.out.2.1, Mod.refl _ _⟩
        case round =>
          clear B5
          obtain ⟨k, rfl, hk, hrw, hmk⟩ := hrel
          have hbk := hmk.at_ HB5.out (fun e => hrw.ne_blk (hmk.at_ HB5.out (fun e2 => H5x.out.2.1.ne_blk HB5.out (by decide) _ e2 rfl)) (by decide) _ e rfl)
          have B6 := blk_cell hbk
          rw [HCM.out] at B6
          by_cases hlt1 : k < n1
          · have hki : (k : Int) < (n1 : Int) := by omega
            have hk0 : (0 : Int) ≤ (k : Int) := by omega
            obtain ⟨g6, c6, e6⟩ := hrw.some_ (by omega)
            simp only [Value.slice.injEq] at e6
            obtain ⟨rfl, -, rfl⟩ := e6
            obtain ⟨x6, hx6⟩ := hrw.cell (i := k) (by omega)
            have hf6 := hrw.free k
            have HRW := hide (And.intro hrw hmk)
            clear hrw hmk hbk
            go_wp2_with fail
            go_roundw
            case rel => exact ⟨k + 1, by go_num, by omega, HRW.out.1.touch k _, HRW.out.2.setCell (fun _ => by simp [ob, Value.ownBlock]) _⟩
            case measure => simp [intOf]; omega
          · obtain rfl : n1 = k := by omega
            obtain ⟨w6, rfl⟩ : ∃ x : World, x = wr := ⟨_, rfl⟩
            have hrp2 := H5x.out.2.2.mod hmk (fun x hx e => HAPT.out x e hx)
            have HB6 := hide hbk
            have H6x := hide (And.intro hmk hrp2)
            clear hrw hmk hbk hrp2
            go_upto_region 22 with fail
            go_loopw [74] (fun s wx => FilRel w6 (.slice p2 n2 d2') n2 s wx) (fun i _ => n2 - (intOf i).toNat)
            case atStart => exact ⟨0, rfl, Nat.zero_le _, H6x.out.2, Mod.refl _ _⟩
            case round =>
              clear B6
              obtain ⟨k, rfl, hk, hrw, hmk⟩ := hrel
              have hbk := hmk.at_ HB6.out (fun e => H6x.out.2.ne_blk HB6.out (by decide) _ e rfl)
              have B6 := blk_cell hbk
              rw [HCM.out] at B6
              by_cases hlt1 : k < n2
              · have hki : (k : Int) < (n2 : Int) := by omega
                have hk0 : (0 : Int) ≤ (k : Int) := by omega
                obtain ⟨g6, c6, e6⟩ := hrw.some_ (by omega)
                simp only [Value.slice.injEq] at e6
                obtain ⟨rfl, -, rfl⟩ := e6
                obtain ⟨x6, hx6⟩ := hrw.cell (i := k) (by omega)
                have hf6 := hrw.free k
                have HRW := hide (And.intro hrw hmk)
                clear hrw hmk hbk
                go_wp2_with fail
                go_roundw
                case rel => exact ⟨k + 1, by go_num, by omega, HRW.out.1.touch k _, HRW.out.2.setCell (fun _ => by simp [ob, Value.ownBlock]) _⟩
                case measure => simp [intOf]; omega
              · obtain rfl : n2 = k := by omega
                obtain ⟨w7, rfl⟩ : ∃ x : World, x = wr := ⟨_, rfl⟩
                have hxl := H4.out.2.2.2.2.2.2
                -- from the round's beginning to here: nothing that was there has changed but the ledger
                have hp12 : ∀ x, x ∈ ob (.slice p1 n1 d1') → wo.heap.size < x := fun x hx => by have := (ob_of_row H3.out.2.1 x hx).1; omega
                have hp22 : ∀ x, x ∈ ob (.slice p2 n2 d2') → wo.heap.size < x := fun x hx => by have := (ob_of_row H3.out.2.2.1 x hx).1; omega
                have m4w : Mod [pl, pd, bs] wo w4 := (H3.out.2.2.2.1.mono (by simp)).then H4.out.2.1
                have m5w : Mod [pl, pd, bs] wo w5 := m4w.then (H5x.out.1.mono (by simp))
                have m6w : Mod [pl, pd, bs] wo w6 := m5w.trans H6x.out.1 (fun x hx _ => hx) (fun x hx hlt => absurd (hp12 x hx) (by omega))
                have m7w : Mod [pl, pd, bs] wo w7 := m6w.trans hmk (fun x hx _ => hx) (fun x hx hlt => absurd (hp22 x hx) (by omega))
                have m45 : Mod [] w4 w5 := H5x.out.1
                have hlo4 := H4.out.1.lo
                have ml7 : Mod (ob (.slice p1 n1 d1') ++ ob (.slice p2 n2 d2')) w4 w7 := ((m45.mono (by simp)).then (H6x.out.1.mono (fun x hx _ => List.mem_append.2 (.inl hx)))).then (hmk.mono (fun x hx _ => List.mem_append.2 (.inr hx)))
                have hout : ∀ x, x ∈ ob (.slice p1 n1 d1') ++ ob (.slice p2 n2 d2') → wo.heap.size < x ∧ x < W3.heap.size := fun x hx => by
                  rcases List.mem_append.1 hx with hx | hx
                  · exact ⟨hp12 x hx, (ob_of_row H3.out.2.1 x hx).2⟩
                  · exact ⟨hp22 x hx, (ob_of_row H3.out.2.2.1 x hx).2⟩
                have hWo := HS.out.1.md.size
                obtain ⟨hlg4, haw4⟩ := H4g.out
                have hs7 : LS W w7 pl pd bs d' l' := ⟨⟨gv4, lv4, ml7.at_ hlg4.blk (fun e => by have := hout _ e; omega), hlg4.dk.mod ml7 (fun e => by have := hout _ e; omega) (fun e => by have := hout _ e; omega), ⟨hlg4.bk.gr.away ml7 (fun x hx => haw4 x (by have := hout _ hx; omega) (hout _ hx).2), hlg4.bk.eq⟩, hlg4.lt⟩, H4.out.1.lo, mod_fresh0 H4.out.1.md ml7 (fun x hx => by have := hout _ hx; omega)⟩
                have h77 := m7w.at_ HS.out.2.2.1 (fun e => by simp at e; omega)
                have hbm77 : BkM w7 B7 (.slice q7 n7 c7) l.book lv7 := ⟨HS.out.2.2.2.1.gr.mod m7w (fun k hk => by simp at hk; omega), HS.out.2.2.2.1.eq⟩
                have h97 := ml7.at_ H4.out.2.2.2.1 (fun e => by have := hout _ e; omega)
                have hap7 := rapply_any (w := w7) (r := ⟨rk, ⟨gi, gh, gp, gm, gs, gt⟩, ri, rs, rn, rbt, rl⟩) (sv := .slice q m1 c) (tv := .slice q' m2 c') hbm77 (fun p hp => by have := ((valid_small hvb hbm77.eq).2 p hp).2; omega) (HS.out.2.2.2.2.1.mod hs7.md (by simp)) (HS.out.2.2.2.2.2.mod hs7.md (by simp)) (by simp only; omega)
                obtain ⟨ta, hta⟩ : ∃ t, applyB l.book ⟨rk, ⟨gi, gh, gp, gm, gs, gt⟩, ri, rs, rn, rbt, rl⟩ = t := ⟨_, rfl⟩
                rw [hta] at hap7
                unfold aggB aggR cellsR at hap7
                simp only at hap7
                have D7 := blk_cell h77
                have D9 := blk_cell h97
                rw [HCR.out] at D9
                have H7x := hide (And.intro hs7 (And.intro h77 (And.intro hbm77 hta)))
                have hlt7 := hs7.lts
                clear hp12 hp22 m4w m5w m6w m7w m45 hlo4 ml7 hs7 h77 hbm77 h97 hta hout hWo hrw hmk hbk hxl B6 hlg4 haw4
                go_upto_region 27 with (go_at_call 18
                                        refine hap7.mono ?_
                                        rintro e w8 ⟨gv8, lv8, rfl, hbm8, m8⟩
                                        obtain ⟨q8, c8, rfl, hx8⟩ := hbm8.gr.shape
                                        simp only [aggB]
                                        have H8 := hide (And.intro hbm8 m8)
                                        have hz8 := m8.size
                                        clear hbm8 m8 hap7 D7 D9)
                obtain ⟨W9, hW9⟩ : ∃ W9, W9 = w8.alloc (.cells #[.int .i64 ta.1.next, .int .i64 ta.1.boots, .int .i64 ta.1.longest, .slice q8 lv8.length c8] 34 (0, 0)) := ⟨_, rfl⟩
                have h139 : W9.heap[w8.heap.size]? = some (.cells #[.int .i64 ta.1.next, .int .i64 ta.1.boots, .int .i64 ta.1.longest, .slice q8 lv8.length c8] 34 (0, 0)) := by rw [hW9]; exact heap_alloc_new w8 _
                have m89 : Mod [] w8 W9 := by rw [hW9]; exact (Mod.refl _ _).alloc _
                rw [← hW9]
                have m79 : Mod [] w7 W9 := H8.out.2.then m89
                have h79 := m79.at_ H7x.out.2.1 (by simp)
                have H9 := hide (And.intro (H7x.out.1.quiet m79) (And.intro h79 (And.intro (show BkM W9 w7.heap.size (.slice q8 lv8.length c8) ta.1 lv8 from ⟨H8.out.1.gr.mod m89 (by simp), H8.out.1.eq⟩) (show BkM W9 B7 (.slice q7 n7 c7) l.book lv7 from ⟨H7x.out.2.2.1.gr.mod m79 (by simp), H7x.out.2.2.1.eq⟩))))
                by_cases hte : ta.2 = 0
                · have hteb : (ta.2 == 0) = true := by simpa using hte
                  have K13 := blk_cell h139
                  have D7 := blk_cell h79
                  have F7 := blk_free h79
                  have hbook : l'.book = ta.1 := by have := HAP.out.2.2.1; rw [H7x.out.2.2.2] at this; exact this hte
                  have HBK := hide hbook
                  clear hW9 h139 m89 m79 h79 hte hbook
                  go_wp2_with fail
                  go_roundw
                  case rel =>
                    have q9 := stL_all H9.out.2.1 [.int .i64 ta.1.next, .int .i64 ta.1.boots, .int .i64 ta.1.longest, .slice q8 lv8.length c8] rfl
                    have qm := stL_mod (S := [b7]) (w0 := W9) (r := b7) (fun _ => by simp) [.int .i64 ta.1.next, .int .i64 ta.1.boots, .int .i64 ta.1.longest, .slice q8 lv8.length c8] 0 _ (Mod.refl _ _)
                    refine ⟨j + 1, d', l', q8, lv8.length, c8, lv8, w7.heap.size, by go_num, by omega, by omega, by omega, H9.out.1.books qm (fun k hk => by simp at hk; subst hk; exact ⟨by omega, by omega, by omega, by omega, ⟨_, H9.out.2.1⟩⟩), HAP.out.2.1, ?_, ?_, by omega, by omega, by omega⟩
                    · rw [HBK.out]; exact q9
                    · rw [HBK.out]; exact ⟨H9.out.2.2.1.gr.other qm (fun k hk => by simp at hk; subst hk; exact ⟨_, H9.out.2.1⟩), H9.out.2.2.1.eq⟩
                  case measure => simp [intOf]; omega
                · have hteb : (ta.2 == 0) = false := by simpa using hte
                  have hbook : l'.book = l.book := by have := HAP.out.2.2.2; rw [H7x.out.2.2.2] at this; exact this hte
                  have HBK := hide hbook
                  clear hW9 h139 m89 m79 h79 hte hbook
                  go_wp2_with fail
                  go_roundw
                  case rel => exact ⟨j + 1, d', l', q7, n7, c7, lv7, B7, by go_num, by omega, by omega, by omega, H9.out.1, HAP.out.2.1, by rw [HBK.out]; exact H9.out.2.1, by rw [HBK.out]; exact H9.out.2.2.2, hB7⟩
                  case measure => simp [intOf]; omega
      · obtain rfl : j = l0.length := by omega
        have HS := hide (And.intro hs (And.intro hcl (And.intro h7 hbm7)))
        clear hs hcl h7 hbm7
        go_wp2_with fail
        go_meet
        case rel => exact ⟨d, l, q7, n7, c7, lv7, B7, HS.out.1, HS.out.2.1, HS.out.2.2.1, HS.out.2.2.2, hB7⟩
  case rest =>
  obtain ⟨d, l, q7, n7, c7, lv7, B7, hs, hcl, h7, hbm7, hB7⟩ := hcut
  obtain ⟨w0x, rfl⟩ : ∃ x : World, x = wc := ⟨_, rfl⟩
  have hvb := hcl.inv.lok.book
  have hbk0 := book_sepq hs hvb
  have hlt0 := hs.lts
  have HS := hide (And.intro hs (And.intro h7 hbm7))
  have HV := hide hvb
  have t1 : Hid True := hide trivial
  clear hs h7 hbm7 hcl
  go_upto_region 31 with (first
    | (go_at_call 19; have tk := t1
       refine hbk0.mono ?_
       rintro e wa ⟨qa, na, ca, lva, rfl, hba, ma, sa, hsep⟩
       have hbk1 := book_sepq sa hvb
       have hza := ma.size
       have HA := hide (And.intro hba (And.intro ma (And.intro sa hsep)))
       clear hba ma sa hsep hbk0 t1 tk)
    | (go_at_call 19
       refine hbk1.mono ?_
       rintro e wb ⟨qb, nb, cb, lvb, rfl, hbb, mb, sb, -⟩
       have hzb := mb.size
       have HBb := hide (And.intro hbb (And.intro mb sb))
       clear hbb mb sb hbk1)
    | fail)
  obtain ⟨W1, hW1⟩ : ∃ W1, W1 = wb.alloc (.cells #[.int .i64 l.book.next, .int .i64 l.book.boots, .int .i64 l.book.longest, .slice qa na ca] 34 (0, 0)) := ⟨_, rfl⟩
  obtain ⟨W2, hW2⟩ : ∃ W2, W2 = W1.alloc (.cells #[.int .i64 l.book.next, .int .i64 l.book.boots, .int .i64 l.book.longest, .slice qb nb cb] 34 (0, 0)) := ⟨_, rfl⟩
  have h11 : W1.heap[wb.heap.size]? = some (.cells #[.int .i64 l.book.next, .int .i64 l.book.boots, .int .i64 l.book.longest, .slice qa na ca] 34 (0, 0)) := by rw [hW1]; exact heap_alloc_new wb _
  have hz1 : W1.heap.size = wb.heap.size + 1 := by rw [hW1]; simp
  have m12 : Mod [] W1 W2 := by rw [hW2]; exact (Mod.refl _ _).alloc _
  have h22 : W2.heap[W1.heap.size]? = some (.cells #[.int .i64 l.book.next, .int .i64 l.book.boots, .int .i64 l.book.longest, .slice qb nb cb] 34 (0, 0)) := by rw [hW2]; exact heap_alloc_new W1 _
  have mb1 : Mod [] wb W1 := by rw [hW1]; exact (Mod.refl _ _).alloc _
  have mb2 : Mod [] wb W2 := mb1.then m12
  rw [← hW1, ← hW2]
  rw [hz1] at h22
  have hna : na = lva.length := by obtain ⟨_, _, e, _⟩ := HA.out.1.gr.shape; cases e; rfl
  have hsm := valid_small hvb HA.out.1.eq
  have hA0 := AS.of (w := W2) (ba := wb.heap.size) (b := l.book) (va := .slice qa na ca) ⟨HA.out.1.gr.mod (HBb.out.2.1.then mb2) (by simp), HA.out.1.eq⟩ HA.out.2.2.2 (m12.at_ h11 (by simp))
  have hn0 : ∀ j, 0 ≤ j → j < na → (lva.getD j default).1.stamp.length ≤ 4 := fun j _ hj => (hsm.2 _ (by rw [hna] at hj; simp [hj])).1
  have hna6 : na ≤ 6 := by rw [hna]; exact hsm.1
  rw [← hna] at hA0
  obtain ⟨M, hM⟩ : ∃ M, wb.heap.size :: (ob (.slice qa na ca) ++ lva.flatMap fun p => ob p.2) = M := ⟨_, rfl⟩
  rw [hM] at hA0
  have hMk : ∀ k, k ∈ M → k = wb.heap.size ∨ (w0x.heap.size ≤ k ∧ k < wa.heap.size) := fun k hk => by
    rw [← hM] at hk
    rcases List.mem_cons.1 hk with e | hk
    · exact .inl e
    · rcases List.mem_append.1 hk with hk | hk
      · exact .inr (ob_of_row HA.out.1.gr.row k hk)
      · obtain ⟨p, hp, hk⟩ := List.mem_flatMap.1 hk
        exact .inr (ob_of_row (HA.out.1.gr.st p hp).1 k hk)
  obtain ⟨U0, hU0⟩ : ∃ U : Nat → Value, (fun i => (lva.getD i default).2) = U := ⟨_, rfl⟩
  obtain ⟨n0, hn00⟩ : ∃ U : Nat → Nat, (fun i => (lva.getD i default).1.stamp.length) = U := ⟨_, rfl⟩
  have hn0 : ∀ j, 0 ≤ j → j < na → n0 j ≤ 4 := fun j h1 h2 => by rw [← hn00]; exact hn0 j h1 h2
  rw [hU0, hn00] at hA0
  have D2 := blk_cell hA0.bx
  have m02 : Mod [] w0x W2 := (HA.out.2.1.then HBb.out.2.1).then mb2
  have HW := hide (And.intro hMk (And.intro h22 (And.intro mb2 m02)))
  have HMem := hide (show wb.heap.size ∈ M by rw [← hM]; simp)
  have HA0 := hide (And.intro hA0 hn0)
  clear hW1 hW2 h11 hz1 m12 h22 mb1 mb2 hna hsm hA0 hn0 hM hMk hU0 hn00 m02
  obtain ⟨ii, hii⟩ := info_parts info_int
  obtain ⟨ig, hig⟩ := info_parts info_grant
  have HII := hide hii
  have HIG := hide hig
  clear hii hig
  go_upto_region 32 with fail
  clear D2
  go_loopw [99] (fun s wx => L4 W2 M wb.heap.size l.book (.slice qa na ca) na s wx) (fun i _ => na - (intOf i).toNat)
  case atStart => exact ⟨0, U0, n0, rfl, Nat.zero_le _, HA0.out.1, HA0.out.2⟩
  case round =>
    obtain ⟨i, U, n, rfl, hi, hA, hn⟩ := hrel
    obtain ⟨w4, rfl⟩ : ∃ x : World, x = wr := ⟨_, rfl⟩
    by_cases hlt4 : i < na
    · obtain ⟨ga, ca', hva⟩ := hA.ra.some_ (by omega)
      simp only [Value.slice.injEq] at hva
      obtain ⟨rfl, -, rfl⟩ := hva
      have hki : (i : Int) < (na : Int) := by omega
      have hk0 : (0 : Int) ≤ (i : Int) := by omega
      have D4 := blk_cell hA.bx
      have cU := hA.us i hlt4 ga ca rfl
      obtain ⟨qi, ci, eU, hmi⟩ := (hA.ru i hlt4).form
      rw [eU] at cU
      obtain ⟨ni, hni⟩ : ∃ m, n i = m := ⟨_, rfl⟩
      rw [hni] at cU eU hmi
      have hmi' : ni ≤ 9223372036854775807 := hmi
      have hni4 : ni ≤ 4 := by rw [← hni]; exact hn i (Nat.le_refl _) hlt4
      have H4 := hide (And.intro hA (And.intro hn (And.intro eU hni)))
      clear hA hn eU hni
      go_upto_region 35 with fail
      clear D4 cU
      go_loopw [109] (fun s wx => ∃ k : Nat, s = .int .i64 (k : Int) ∧ k ≤ ni ∧ AS W2 wx M wb.heap.size l.book (.slice (some ⟨ga, 0, none⟩) na ca) na U n) (fun i _ => ni - (intOf i).toNat)
      case atStart => exact ⟨0, rfl, Nat.zero_le _, H4.out.1⟩
      case round =>
        obtain ⟨k, rfl, hk, hA⟩ := hrel
        obtain ⟨w5, rfl⟩ : ∃ x : World, x = wr := ⟨_, rfl⟩
        have D4 := blk_cell hA.bx
        have cU := hA.us i hlt4 ga ca rfl
        rw [H4.out.2.2.1] at cU
        by_cases hlt5 : k < ni
        · have hki5 : (k : Int) < (ni : Int) := by omega
          have hk05 : (0 : Int) ≤ (k : Int) := by omega
          have hru := hA.ru i hlt4
          rw [H4.out.2.2.1, H4.out.2.2.2] at hru
          obtain ⟨gu, cu, hU⟩ := hru.some_ (by omega)
          simp only [Value.slice.injEq] at hU
          obtain ⟨rfl, -, rfl⟩ := hU
          obtain ⟨x6, hx6⟩ := hru.cell (i := k) (by omega)
          have hf6 := hru.free k
          have H5 := hide hA
          clear hA hru
          go_wp2_with fail
          go_roundw
          case rel => exact ⟨k + 1, by go_num, by omega, H5.out.touch hlt4 (by rw [H4.out.2.2.1, H4.out.2.2.2]) k _⟩
          case measure => simp [intOf]; omega
        · obtain rfl : ni = k := by omega
          have H5 := hide hA
          clear hA
          go_upto_region 40 with fail
          clear D4 cU
          go_loopw [19] (fun s wx => L6 W2 M wb.heap.size l.book (.slice (some ⟨ga, 0, none⟩) na ca) na i s wx) (fun i _ => 6 - (intOf i).toNat)
          case atStart => exact ⟨0, U, n, rfl, by omega, H5.out, by rw [H4.out.2.2.2]; omega, fun j h1 h2 => H4.out.2.1 j (by omega) h2⟩
          case round =>
            obtain ⟨k6, U6, n6, rfl, hk6, hA, hn6, hnr⟩ := hrel
            obtain ⟨w6, rfl⟩ : ∃ x : World, x = wr := ⟨_, rfl⟩
            have D4 := blk_cell hA.bx
            have cU := hA.us i hlt4 ga ca rfl
            obtain ⟨q6, c6, eU6, -⟩ := (hA.ru i hlt4).form
            obtain ⟨m6, hm6⟩ : ∃ m, n6 i = m := ⟨_, rfl⟩
            rw [hm6] at eU6 hn6
            rw [eU6] at cU
            by_cases hlt6 : k6 < 6
            · have hki6 : (k6 : Int) < 6 := by omega
              have hi6 := hA.ru i hlt4
              have hF6 : ∀ w, Mod (ob (.slice q6 m6 c6)) w6 w → (∀ o, w.cell? ⟨wb.heap.size, o, none⟩ = (#[.int .i64 l.book.next, .int .i64 l.book.boots, .int .i64 l.book.longest, .slice (some ⟨ga, 0, none⟩) na ca] : Array Value)[o]?) ∧ w.cell? ⟨ga, i * 6 + 4, none⟩ = some (.slice q6 m6 c6) ∧ w.frozen? ⟨ga, i * 6 + 4, none⟩ = false := fun w m => by
                rw [← eU6] at m
                have hra := hA.ra.mod m (hA.ra.ne hi6 (by decide))
                exact ⟨blk_cell (m.at_ hA.bx (fun e => hi6.ne_blk hA.bx (by decide) _ e rfl)), m.kept cU (fun e => hA.ra.ne hi6 (by decide) ga (by simp [ob, Value.ownBlock]) e), hra.free _⟩
              rw [eU6, hm6] at hi6
              obtain ⟨xs6, hx6⟩ := hi6
              have HF6 := hide hF6
              have H6 := hide (And.intro hA (And.intro hnr (And.intro eU6 hm6)))
              have h6s := Mod.refl (ob (.slice q6 m6 c6)) w6
              clear hA hnr eU6 hm6 hF6 D4 cU
              go_upto_region 42 with fail
              refine pB 13 (Mod (ob (.slice q6 m6 c6)) w6) h6s.drew ?_
              clear h6s
              refine pP 0 ?_
              refine pT 1 rfl [11, 12, 13] (fun w h => by obtain ⟨C0, C1, -⟩ := HF6.out _ h; go_simp; try with_reducible rfl) ?_
              refine pP 2 ?_; refine pP 3 ?_
              refine pT 4 rfl [6, 7, 8, 10, 13] (fun w h => by obtain ⟨C0, C1, -⟩ := HF6.out _ h; go_simp; try with_reducible rfl) ?_
              refine pP 5 ?_; refine pP 6 ?_; refine pP 7 ?_
              refine pT 8 rfl [10, 13] (fun w h => by obtain ⟨C0, C1, -⟩ := HF6.out _ h; go_simp; try with_reducible rfl) ?_
              refine pX 9 fun hT K HK => ?_
              go_simp
              refine HK.out _ _ _ (hT.alloc _) ?_
              have mz := hT.alloc (.cells #[.int .i64 (-6)] 3 (0, 0))
              have nws := World.news_of_block (heap_alloc_new w6.drew (.cells #[.int .i64 (-6)] 3 (0, 0)))
              have hown := (((Mod.refl [] w6).drew).alloc (.cells #[.int .i64 (-6)] 3 (0, 0))).row hx6 (by simp)
              have hzz : (w6.drew.alloc (.cells #[.int .i64 (-6)] 3 (0, 0))).heap.size = w6.heap.size + 1 := by simp
              clear HK K hT
              obtain ⟨hi, hz0, hz1, hz2⟩ := HII.out
              have q6' : m6 + 1 ≤ maxLen := by unfold maxLen; omega
              have q7' : (m6 + 1) * 8 ≤ 140737488355328 := by omega
              refine pX 10 fun hT K HK => ?_
              refine step_append_lies _ rfl _ _ 38 rfl 0 3 ii _ 1 8 Tryz.underlying38 hi hz0 hz1 hz2 rfl (by decide) _ _ _ rfl hown ⟨w6.heap.size, 0, none⟩ 1 1 [.int .i64 (-6)] rfl rfl nws (by simp [Value.oneCell']) (by decide) q6' q7' (Nat.zero_le _) _ rfl ?_
              intro g5 c5' w5' ho5 hgr5 hat5 hlt5
              have m5 : Mod (ob (.slice q6 m6 c6)) w6 w5' := mz.then ((Mod.refl _ _).grown hgr5 (fun x e _ => mem_ob.2 e))
              have r5 : Row w5' 3 1 (.slice (some ⟨g5, 0, none⟩) (m6 + 1) c5') (m6 + 1) := ⟨_, ho5⟩
              have hob : ∀ x, x ∈ ob (.slice (some ⟨g5, 0, none⟩) (m6 + 1) c5') → x ∈ ob (.slice q6 m6 c6) ∨ w6.heap.size ≤ x := (fun x hx => (by
                have e2 : x = g5 := by simpa [ob, Value.ownBlock] using hx
                subst e2
                rcases hat5 with e | e
                · exact .inl (mem_ob.2 e)
                · simp at e; exact .inr (by omega)))
              have H5z := hide (And.intro m5 (And.intro r5 hob))
              refine HK.out _ _ _ m5 ?_
              clear HK K hT m5 r5 hob ho5 hgr5 hat5 hlt5 hown nws mz hzz hi hz0 hz1 hz2 hx6
              refine pP 11 ?_; refine pP 12 ?_
              refine pY 13 fun hT K HK => ?_
              obtain ⟨C0, C1, C2⟩ := HF6.out _ hT
              go_simp
              refine HK.out _ _ _ ?_
              clear HK K hT C0 C1 C2
              refine pD ?_
              go_wp2_with fail
              go_roundw
              case rel =>
                obtain ⟨m5, r5, hob⟩ := H5z.out
                obtain ⟨hA, hnr, eU6, hm6⟩ := H6.out
                exact ⟨k6 + 1, _, _, by go_num, by omega, hA.to_u hlt4 rfl (by rw [eU6]; exact m5) r5 (by rw [eU6]; exact hob), by simp only [if_true]; omega, fun j h1 h2 => by rw [if_neg (by omega)]; exact hnr j h1 h2⟩
              case measure => simp [intOf]; omega
            · obtain rfl : k6 = 6 := by omega
              have F4 := hA.ra.free (i * 6)
              obtain ⟨x6, hx6⟩ := hA.ra.cell (i := i * 6) (by omega)
              have H6 := hide (And.intro hA hnr)
              clear hA hnr eU6 hm6
              go_wp2_with fail
              go_roundw
              case rel => exact ⟨i + 1, U6, n6, by go_num, by omega, H6.out.1.id rfl hlt4 _, fun j h1 h2 => H6.out.2 j (by omega) h2⟩
              case measure => simp [intOf]; omega
    · obtain rfl : na = i := by omega
      have H4a := hide hA
      have HAm := hide (show wb.heap.size ∈ M from HMem.out)
      clear hA hn
      have h7a := H4a.out
      go_upto_region 46 with fail
      go_loopw [20] (fun s wx => L7 W2 M wb.heap.size l.book s wx) (fun i _ => 9 - (intOf i).toNat)
      case atStart => exact ⟨0, _, na, rfl, by omega, by omega, H4a.out.mod, H4a.out.bx, H4a.out.ra, H4a.out.ia⟩
      case round =>
        clear h7a
        obtain ⟨k, va, m, rfl, hk, hm, hmod, hbx, hra, hia⟩ := hrel
        obtain ⟨wf, rfl⟩ : ∃ x : World, x = wr := ⟨_, rfl⟩
        obtain ⟨qv, cv, rfl, -⟩ := hra.form
        by_cases hlt : k < 9
        · have hki : (k : Int) < 9 := by omega
          obtain ⟨xs, hx⟩ := hra
          have hown := ((Mod.refl [] wf).alloc (.cells #[.int .i64 0, .int .i64 0, .string ⟨#[]⟩, .int .i64 0, .slice none 0 0, .int .i64 0] 40 (0, 0))).row hx (by simp)
          obtain ⟨hi, hz0, hz1, hz2⟩ := HIG.out
          have q6' : m + 1 ≤ maxLen := by unfold maxLen; omega
          have q7' : (m + 1) * 72 ≤ 140737488355328 := by omega
          have nws := World.news_of_block (heap_alloc_new wf (.cells #[.int .i64 0, .int .i64 0, .string ⟨#[]⟩, .int .i64 0, .slice none 0 0, .int .i64 0] 40 (0, 0)))
          have CB := blk_cell hbx
          have H7 := hide (And.intro hmod (And.intro hbx (And.intro (Row.of hx) hia)))
          clear hmod hbx hia hx
          go_wp2_with (first
            | (at_builtin
               refine Go.wpList_append_lies _ rfl _ _ 32 rfl 0 40 ig _ 6 72 Tryz.underlying32 hi hz0 hz1 hz2 rfl (by decide) _ _ _ rfl hown ⟨wf.heap.size, 0, none⟩ 1 1 [.int .i64 0, .int .i64 0, .string ⟨#[]⟩, .int .i64 0, .slice none 0 0, .int .i64 0] rfl rfl nws (by simp [Value.oneCell']) (by decide) q6' q7' (Nat.zero_le _) _ rfl ?_
               intro g5 c5' w5' ho5 hgr5 hat5 hlt5
               have m5 : Mod (ob (.slice qv m cv)) wf w5' := (((Mod.refl (ob (.slice qv m cv)) wf).alloc (.cells #[.int .i64 0, .int .i64 0, .string ⟨#[]⟩, .int .i64 0, .slice none 0 0, .int .i64 0] 40 (0, 0))).then ((Mod.refl _ _).grown hgr5 (fun x e _ => mem_ob.2 e)))
               have r5 : Row w5' 40 6 (.slice (some ⟨g5, 0, none⟩) (m + 1) c5') (m + 1) := ⟨_, ho5⟩
               have hob : ∀ x, x ∈ ob (.slice (some ⟨g5, 0, none⟩) (m + 1) c5') → x ∈ ob (.slice qv m cv) ∨ wf.heap.size ≤ x := (fun x hx => (by
                 have e2 : x = g5 := by simpa [ob, Value.ownBlock] using hx
                 subst e2
                 rcases hat5 with e | e
                 · exact .inl (mem_ob.2 e)
                 · rw [World.size_alloc] at e
                   exact .inr (by omega)))
               have hb5 := m5.at_ H7.out.2.1 (fun e => H7.out.2.2.1.ne_blk H7.out.2.1 (by decide) _ e rfl)
               have CB5 := blk_cell hb5
               have FB5 := blk_free hb5
               have H5 := hide (And.intro m5 (And.intro r5 (And.intro hob hb5)))
               clear m5 r5 hob hb5 ho5 hgr5 hat5 hlt5 hown nws hi hz0 hz1 hz2 CB)
            | fail)
          go_roundw
          case rel =>
            obtain ⟨m5, r5, hob, hb5⟩ := H5.out
            obtain ⟨hmod, hbx, hra, hia⟩ := H7.out
            have ms : Mod [wb.heap.size] w5' (w5'.setCell ⟨wb.heap.size, 3, none⟩ (.slice (some ⟨g5, 0, none⟩) (m + 1) c5')) := (Mod.refl _ _).setCell (fun _ => by simp) _
            refine ⟨k + 1, _, m + 1, by go_num, by omega, by omega, (hmod.trans m5 (fun _ h _ => h) (fun x hx hl => ?_)).trans ms (fun _ h _ => h) (fun x hx _ => ?_), blk_set hb5 3 _, r5.mod ms (fun x hx e => ?_), fun x hx => ?_⟩
            · rcases hia x hx with e | e
              · exact e
              · omega
            · rw [List.mem_singleton.1 hx]; exact HAm.out
            · exact r5.ne_blk hb5 (by decide) x hx (List.mem_singleton.1 e)
            · rcases hob x hx with e | e
              · exact hia x e
              · exact .inr (Nat.le_trans hmod.size e)
          case measure => simp [intOf]; omega
        · obtain rfl : k = 9 := by omega
          obtain ⟨hMk, h22, mb2, m02⟩ := HW.out
          have hz0x := (HA.out.2.1.then HBb.out.2.1).size
          have m0f : Mod [] w0x wf := mod_fresh0 m02 hmod (fun x hx => by rcases hMk x hx with e | e <;> omega)
          have hsf := HS.out.1.quiet m0f
          have h7f := m0f.at_ HS.out.2.1 (by simp)
          have hbm7f : BkM wf B7 (.slice q7 n7 c7) l.book lv7 := ⟨HS.out.2.2.gr.mod m0f (by simp), HS.out.2.2.eq⟩
          have hbbf := hmod.at_ h22 (fun e => by rcases hMk _ e with e | e <;> omega)
          have hbmb : BkM wf wa.heap.size (.slice qb nb cb) l.book lvb := ⟨(HBb.out.1.gr.mod mb2 (by simp)).away hmod (fun x hx => ⟨fun e => by have := ob_of_row HBb.out.1.gr.row x e; rcases hMk x hx with e | e <;> omega, fun p hp e => by have := ob_of_row (HBb.out.1.gr.st p hp).1 x e; rcases hMk x hx with e | e <;> omega⟩), HBb.out.1.eq⟩
          have hFf : ∀ w', Mod [] wf w' → (∀ o, w'.cell? ⟨wb.heap.size + 1, o, none⟩ = (#[.int .i64 l.book.next, .int .i64 l.book.boots, .int .i64 l.book.longest, .slice qb nb cb] : Array Value)[o]?) ∧ (∀ o, w'.cell? ⟨b7, o, none⟩ = (#[.int .i64 l.book.next, .int .i64 l.book.boots, .int .i64 l.book.longest, .slice q7 n7 c7] : Array Value)[o]?) := fun w' m => ⟨blk_cell (m.at_ hbbf (by simp)), blk_cell (m.at_ h7f (by simp))⟩
          have hbook := fun (w' : World) (m : Mod [] wf w') => book_eq (hsf.quiet m) HV.out
          have HFf := hide hFf
          have HE := hide (And.intro hsf (And.intro hbm7f hbmb))
          have han := fun (w' : World) => append_nil w' (recOf 7 0) none none 0 0 0 0
          unfold aggR cellsR recOf at han
          simp only at han
          have hbn := fun (w' : World) => book_nil w'
          have hrn := fun (w' : World) => rnew_any w'
          unfold aggB Bk.new at hbn hrn
          simp only at hbn hrn
          clear hMk h22 mb2 m02 hz0x m0f hsf h7f hbm7f hbbf hbmb hFf hmod hbx hra hia
          go_upto_region 50 with fail
          refine pB 999 (Mod [] wf) ((Mod.refl [] wf).drew) ?_
          refine pH 0 rfl (fun w h => by obtain ⟨E16, E7⟩ := HFf.out _ h; go_simp; try with_reducible rfl) ?_
          refine pH 1 rfl (fun w h => by obtain ⟨E16, E7⟩ := HFf.out _ h; go_simp; try with_reducible rfl) ?_
          refine pX 2 fun hT K HK => ?_
          go_simp
          refine (rsame_eq ⟨HE.out.2.2.gr.mod hT (by simp), HE.out.2.2.eq⟩ ⟨HE.out.2.1.gr.mod hT (by simp), HE.out.2.1.eq⟩ rfl).mono ?_; rintro e x2 ⟨rfl, m2⟩
          refine HK.out _ _ _ (hT.then m2) ?_
          clear HK K hT m2
          refine pP 3 ?_; refine pP 4 ?_
          refine pH 6 rfl (fun w h => by obtain ⟨E16, E7⟩ := HFf.out _ h; go_simp; try with_reducible rfl) ?_
          refine pX 5 fun hT K HK => ?_
          go_simp
          refine (hbook _ hT).mono ?_; rintro e x1 ⟨xq, xn, xc, xl, rfl, hxb, m1, -⟩
          have HX := hide (And.intro hxb (hT.then m1))
          refine HK.out _ _ _ (hT.then m1) ?_
          clear HK K hT m1 hxb
          refine pX 7 fun hT K HK => ?_
          go_simp
          refine (rsame_eq HX.out.1 ⟨HE.out.2.1.gr.mod hT (by simp), HE.out.2.1.eq⟩ rfl).mono ?_; rintro e x2 ⟨rfl, m2⟩
          refine HK.out _ _ _ (hT.then m2) ?_
          clear HK K hT m2
          refine pP 8 ?_; refine pP 9 ?_; refine pP 10 ?_; refine pP 11 ?_
          refine pX 12 fun hT K HK => ?_
          go_simp
          refine (han _).mono ?_; rintro e x2 ⟨rfl, m2⟩
          refine HK.out _ _ _ (hT.then m2) ?_
          clear HK K hT m2
          refine pP 13 ?_; refine pP 14 ?_; refine pP 15 ?_; refine pP 16 ?_
          refine pX 17 fun hT K HK => ?_
          go_simp
          refine (compact_nil _).mono ?_; rintro e x2 ⟨rfl, hx⟩
          rw [hx]
          refine HK.out _ _ _ hT ?_
          clear HK K hT hx x2
          refine pP 18 ?_; refine pP 19 ?_; refine pP 20 ?_; refine pP 21 ?_
          refine pX 22 fun hT K HK => ?_
          go_simp
          refine (hbn _).mono ?_; rintro e x2 ⟨rfl, m2⟩
          refine HK.out _ _ _ (hT.then m2) ?_
          clear HK K hT m2
          refine pX 23 fun hT K HK => ?_
          go_simp
          refine (hrn _).mono ?_; rintro e x3 ⟨rfl, m2⟩
          refine HK.out _ _ _ (hT.then m2) ?_
          clear HK K hT m2
          refine pX 24 fun hT K HK => ?_
          go_simp
          refine (rsame_eq (a := Bk.new) (b := Bk.new) (l1 := []) (l2 := []) (base1 := 0) (base2 := 0) ⟨GrM.nil _ _, rfl⟩ ⟨GrM.nil _ _, rfl⟩ rfl).mono ?_; rintro e x4 ⟨rfl, m2⟩
          refine HK.out _ _ _ (hT.then m2) ?_
          clear HK K hT m2
          refine pP 25 ?_; refine pP 26 ?_; refine pP 27 ?_
          refine pX 28 fun hT K HK => ?_
          go_simp
          refine (recs_nil _).mono ?_; rintro e x2 ⟨rfl, hx⟩
          rw [hx]
          refine HK.out _ _ _ hT ?_
          clear HK K hT hx x2
          refine pP 29 ?_; refine pP 30 ?_; refine pP 31 ?_; refine pP 32 ?_
          refine pX 33 fun hT K HK => ?_
          go_simp
          refine (gen_nil _).mono ?_; rintro e x2 ⟨rfl, hx⟩
          rw [hx]
          refine HK.out _ _ _ hT ?_
          clear HK K hT hx x2
          refine pP 34 ?_; refine pP 35 ?_; refine pP 36 ?_; refine pP 37 ?_
          refine pX 38 fun hT K HK => ?_
          go_simp
          refine (used_nil _).mono ?_; rintro e x2 ⟨rfl, hx⟩
          rw [hx]
          refine HK.out _ _ _ hT ?_
          clear HK K hT hx x2
          refine pP 39 ?_; refine pP 40 ?_; refine pP 41 ?_
          refine pE fun hT => ?_
          go_wp2_with fail
          go_ret
          exact ⟨rfl, (HE.out.1.quiet hT).md⟩
end Go.Proofs.YtpphoeimakjjdaaGreatDoor
