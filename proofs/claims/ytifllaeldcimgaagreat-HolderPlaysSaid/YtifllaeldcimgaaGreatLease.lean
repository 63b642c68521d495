/-
  PLAIN LAWS, OVER ANY PROGRAM: leases in memory: nine cells; a slice of leases that reads as a list; a struct stored whole.
-/
import Derived.Test.YtifllaeldcimgaaGreatInts
import Derived.Test.YtifllaeldcimgaaGreatAppend
namespace Go.Proofs.YtifllaeldcimgaaGreat
open Go.RowKit

structure Lease where
  frm : Int
  id : Int
  path : ByteArray
  mode : Int
  stamp : List Int
  term : Int
  sent : Int
  expiry : Int
  recd : Bool
instance decBytes : DecidableEq ByteArray := fun a b => decidable_of_iff (a.data = b.data) ⟨fun h => by cases a; cases b; simp only at h; rw [h], fun h => by rw [h]⟩
theorem lease_ext {x y : Lease} (h : (x.frm = y.frm ∧ x.id = y.id ∧ x.path = y.path ∧ x.mode = y.mode ∧ x.stamp = y.stamp) ∧ x.term = y.term ∧ x.sent = y.sent ∧ x.expiry = y.expiry ∧ x.recd = y.recd) : x = y := by
  cases x; cases y
  simp only at h
  obtain ⟨⟨rfl, rfl, rfl, rfl, rfl⟩, rfl, rfl, rfl, rfl⟩ := h
  rfl
instance decLease : DecidableEq Lease := fun x y => decidable_of_iff _ ⟨lease_ext, fun h => by subst h; exact ⟨⟨rfl, rfl, rfl, rfl, rfl⟩, rfl, rfl, rfl, rfl⟩⟩
def Lease.zero : Lease := ⟨0, 0, ByteArray.empty, 0, [], 0, 0, 0, false⟩
instance : Inhabited Lease := ⟨Lease.zero⟩
/-- the nine cells; v: the stamp's slice -/
def cellsL (x : Lease) (v : Value) : Array Value := #[.int .i64 x.frm, .int .i64 x.id, .string x.path, .int .i64 x.mode, v, .int .i64 x.term, .int .i64 x.sent, .int .i64 x.expiry, .bool x.recd]
def aggL (x : Lease) (v : Value) : Value := .agg (cellsL x v)
def encL (p : Lease × Value) : List Value := (cellsL p.1 p.2).toList
theorem encL_len (p : Lease × Value) : (encL p).length = 9 := rfl

/-- nine cells of a block stored one after the other -/
def st9 (w : World) (r : Nat) (v0 v1 v2 v3 v4 v5 v6 v7 v8 : Value) : World :=
  ((((((((w.setCell ⟨r, 0, none⟩ v0).setCell ⟨r, 1, none⟩ v1).setCell ⟨r, 2, none⟩ v2).setCell ⟨r, 3, none⟩ v3).setCell ⟨r, 4, none⟩ v4).setCell ⟨r, 5, none⟩ v5).setCell ⟨r, 6, none⟩ v6).setCell ⟨r, 7, none⟩ v7).setCell ⟨r, 8, none⟩ v8
theorem blk_cell {w : World} {b : Nat} {cs : Array Value} {T : TypeId} (h : w.heap[b]? = some (.cells cs T (0, 0))) (o : Nat) : w.cell? ⟨b, o, none⟩ = cs[o]? := by simp [World.cell?, h]
theorem blk_free {w : World} {b : Nat} {cs : Array Value} {T : TypeId} (h : w.heap[b]? = some (.cells cs T (0, 0))) (o : Nat) : w.frozen? ⟨b, o, none⟩ = false := by simp [World.frozen?, h]
theorem blk_set {w : World} {b : Nat} {cs : Array Value} {T : TypeId} (h : w.heap[b]? = some (.cells cs T (0, 0))) (o : Nat) (v : Value) : (w.setCell ⟨b, o, none⟩ v).heap[b]? = some (.cells (cs.setIfInBounds o v) T (0, 0)) := by
  have hlt := lt_of_block h
  have h' : w.heap[b] = .cells cs T (0, 0) := by simpa [Array.getElem?_eq_getElem hlt] using h
  show (w.heap.modify b _)[b]? = _
  rw [Array.getElem?_eq_getElem (by simpa using hlt), Array.getElem_modify_self, h']
  rfl
theorem blk_alloc {w : World} {b : Nat} {o : Obj} (h : w.heap[b]? = some o) (o' : Obj) : (w.alloc o').heap[b]? = some o := ((Gr.refl w).alloc o').heap (lt_of_block h) |>.trans h
theorem blk_other {w : World} {b : Nat} {o : Obj} (h : w.heap[b]? = some o) {a : Addr} (ha : a.block ≠ b) (v : Value) : (w.setCell a v).heap[b]? = some o := (Below.heap_setCell w a v b (Ne.symm ha)).trans h
theorem st9_heap {w : World} {r : Nat} {cs : Array Value} {T : TypeId} (h : w.heap[r]? = some (.cells cs T (0, 0))) (hs : cs.size = 9) (v0 v1 v2 v3 v4 v5 v6 v7 v8 : Value) :
    (st9 w r v0 v1 v2 v3 v4 v5 v6 v7 v8).heap[r]? = some (.cells #[v0, v1, v2, v3, v4, v5, v6, v7, v8] T (0, 0)) := by
  obtain ⟨a0, a1, a2, a3, a4, a5, a6, a7, a8, rfl⟩ : ∃ a0 a1 a2 a3 a4 a5 a6 a7 a8, cs = #[a0, a1, a2, a3, a4, a5, a6, a7, a8] := by
    obtain ⟨l⟩ := cs
    match l, hs with
    | [a0, a1, a2, a3, a4, a5, a6, a7, a8], _ => exact ⟨a0, a1, a2, a3, a4, a5, a6, a7, a8, rfl⟩
  have h0 : (w.setCell ⟨r, 0, none⟩ v0).heap[r]? = some (.cells #[v0, a1, a2, a3, a4, a5, a6, a7, a8] T (0, 0)) := blk_set h 0 v0
  have h1 : ((w.setCell ⟨r, 0, none⟩ v0).setCell ⟨r, 1, none⟩ v1).heap[r]? = some (.cells #[v0, v1, a2, a3, a4, a5, a6, a7, a8] T (0, 0)) := blk_set h0 1 v1
  have h2 : (((w.setCell ⟨r, 0, none⟩ v0).setCell ⟨r, 1, none⟩ v1).setCell ⟨r, 2, none⟩ v2).heap[r]? = some (.cells #[v0, v1, v2, a3, a4, a5, a6, a7, a8] T (0, 0)) := blk_set h1 2 v2
  have h3 : ((((w.setCell ⟨r, 0, none⟩ v0).setCell ⟨r, 1, none⟩ v1).setCell ⟨r, 2, none⟩ v2).setCell ⟨r, 3, none⟩ v3).heap[r]? = some (.cells #[v0, v1, v2, v3, a4, a5, a6, a7, a8] T (0, 0)) := blk_set h2 3 v3
  have h4 : (((((w.setCell ⟨r, 0, none⟩ v0).setCell ⟨r, 1, none⟩ v1).setCell ⟨r, 2, none⟩ v2).setCell ⟨r, 3, none⟩ v3).setCell ⟨r, 4, none⟩ v4).heap[r]? = some (.cells #[v0, v1, v2, v3, v4, a5, a6, a7, a8] T (0, 0)) := blk_set h3 4 v4
  have h5 : ((((((w.setCell ⟨r, 0, none⟩ v0).setCell ⟨r, 1, none⟩ v1).setCell ⟨r, 2, none⟩ v2).setCell ⟨r, 3, none⟩ v3).setCell ⟨r, 4, none⟩ v4).setCell ⟨r, 5, none⟩ v5).heap[r]? = some (.cells #[v0, v1, v2, v3, v4, v5, a6, a7, a8] T (0, 0)) := blk_set h4 5 v5
  have h6 : (((((((w.setCell ⟨r, 0, none⟩ v0).setCell ⟨r, 1, none⟩ v1).setCell ⟨r, 2, none⟩ v2).setCell ⟨r, 3, none⟩ v3).setCell ⟨r, 4, none⟩ v4).setCell ⟨r, 5, none⟩ v5).setCell ⟨r, 6, none⟩ v6).heap[r]? = some (.cells #[v0, v1, v2, v3, v4, v5, v6, a7, a8] T (0, 0)) := blk_set h5 6 v6
  have h7 : ((((((((w.setCell ⟨r, 0, none⟩ v0).setCell ⟨r, 1, none⟩ v1).setCell ⟨r, 2, none⟩ v2).setCell ⟨r, 3, none⟩ v3).setCell ⟨r, 4, none⟩ v4).setCell ⟨r, 5, none⟩ v5).setCell ⟨r, 6, none⟩ v6).setCell ⟨r, 7, none⟩ v7).heap[r]? = some (.cells #[v0, v1, v2, v3, v4, v5, v6, v7, a8] T (0, 0)) := blk_set h6 7 v7
  have h8 : (((((((((w.setCell ⟨r, 0, none⟩ v0).setCell ⟨r, 1, none⟩ v1).setCell ⟨r, 2, none⟩ v2).setCell ⟨r, 3, none⟩ v3).setCell ⟨r, 4, none⟩ v4).setCell ⟨r, 5, none⟩ v5).setCell ⟨r, 6, none⟩ v6).setCell ⟨r, 7, none⟩ v7).setCell ⟨r, 8, none⟩ v8).heap[r]? = some (.cells #[v0, v1, v2, v3, v4, v5, v6, v7, v8] T (0, 0)) := blk_set h7 8 v8
  exact h8
theorem st9_mod {S : List Nat} (w w0 : World) (h : Mod S w0 w) (r : Nat) (hr : r < w0.heap.size → r ∈ S) (v0 v1 v2 v3 v4 v5 v6 v7 v8 : Value) : Mod S w0 (st9 w r v0 v1 v2 v3 v4 v5 v6 v7 v8) :=
  ((((((((h.setCell hr v0).setCell hr v1).setCell hr v2).setCell hr v3).setCell hr v4).setCell hr v5).setCell hr v6).setCell hr v7).setCell hr v8
theorem st9_size (w : World) (r : Nat) (v0 v1 v2 v3 v4 v5 v6 v7 v8 : Value) : (st9 w r v0 v1 v2 v3 v4 v5 v6 v7 v8).heap.size = w.heap.size := by simp [st9]

/-- two results, the first a struct in a block of its own -/
theorem res_cell2 {P : Program} {fn : Func} {p u : Tmp} {ty : TypeId} (h : fn.results = #[.cell p ty, .tmp u]) (tmps : Array Value) (w : World) {r : Nat} {cs : Array Value} {T : TypeId} (hp : tmps.getD p undef = .pointer (some ⟨r, 0, none⟩))
    (hb : w.heap[r]? = some (.cells cs T (0, 0))) (aE : ∀ w, (isAgg ty).run P w = .ok true w) (zE : ∀ w, (Go.sizeOf ty).run P w = .ok cs.size w) {e : Value} (he : e = .tuple #[.agg cs, tmps.getD u undef]) : (results fn tmps).run P w = .ok e w := by
  subst he
  rw [results_cell_tmp h, hp]
  have e1 : (asAddr (.pointer (some ⟨r, 0, none⟩))).run P w = .ok ⟨r, 0, none⟩ w := rfl
  rw [e1]
  have e2 : (loadVar ty ⟨r, 0, none⟩).run P w = .ok (.agg cs) w := by
    have e3 := run_loadCells_list (P := P) (w := w) ⟨r, 0, none⟩ cs.toList (fun i v hi => by
      rw [Addr.add_lit, Nat.zero_add, blk_cell hb]; simpa using hi)
    rw [Array.length_toList] at e3
    unfold loadVar
    simp only [Sem.run_bind, aE, Result.andThen, if_true, zE]
    simp [e3]
  simp only [Result.andThen]
  rw [e2]
/-- one result, a struct in a block of its own -/
theorem res_cell1 {P : Program} {fn : Func} {p : Tmp} {ty : TypeId} (h : fn.results = #[.cell p ty]) (tmps : Array Value) (w : World) {r : Nat} {cs : Array Value} {T : TypeId} (hp : tmps.getD p undef = .pointer (some ⟨r, 0, none⟩))
    (hb : w.heap[r]? = some (.cells cs T (0, 0))) (aE : ∀ w, (isAgg ty).run P w = .ok true w) (zE : ∀ w, (Go.sizeOf ty).run P w = .ok cs.size w) : (results fn tmps).run P w = .ok (.agg cs) w := by
  have e1 : (asAddr (.pointer (some ⟨r, 0, none⟩))).run P w = .ok ⟨r, 0, none⟩ w := rfl
  have e2 : (loadVar ty ⟨r, 0, none⟩).run P w = .ok (.agg cs) w := by
    have e3 := run_loadCells_list (P := P) (w := w) ⟨r, 0, none⟩ cs.toList (fun i v hi => by
      rw [Addr.add_lit, Nat.zero_add, blk_cell hb]; simpa using hi)
    rw [Array.length_toList] at e3
    unfold loadVar
    simp only [Sem.run_bind, aE, Result.andThen, if_true, zE]
    simp [e3]
  have e0 : (results fn tmps).run P w = ((asAddr (tmps.getD p undef)).run P w).andThen fun a w₁ => (loadVar ty a).run P w₁ := by
    simp [results, h, Sem.run_bind, Result.andThen]
  rw [e0, hp, e1]
  simp only [Result.andThen]
  rw [e2]

/-- the stamp's slice v is a row of its own that reads as x's stamp, in blocks of f -/
structure LsV (w : World) (f : List Nat) (p : Lease × Value) : Prop where
  row : w.ownsRow 0 3 1 p.2 p.1.stamp.length (p.1.stamp.map (Value.int .i64))
  sub : ∀ k, k ∈ ob p.2 → k ∈ f
theorem RdN.lt {w : World} {v : Value} {m : List Int} (h : RdN w v m) (hm : m ≠ []) : ∀ k, k ∈ ob v → k < w.heap.size := by
  intro k hk
  rcases h.2 with ⟨p, c, rfl, rfl⟩ | ⟨b, off, cap, rfl, hb, _⟩
  · exact absurd rfl hm
  · have : k = b := by simpa [ob, Value.ownBlock] using hk
    omega
/-- a new row of ints reads as its list -/
theorem RdN.of_row {w : World} {base : Nat} {T : TypeId} {v : Value} {m : List Int} (h : w.ownsRow base T 1 v m.length (m.map (Value.int .i64))) : RdN w v m := by
  rcases h.2 with ⟨rfl, hn⟩ | ⟨g, cap, cur, rfl, _, hg, hh1, hh2, _⟩
  · exact ⟨by omega, .inl ⟨none, 0, rfl, List.length_eq_zero_iff.1 hn⟩⟩
  · refine ⟨by omega, .inr ⟨g, 0, cap, rfl, lt_of_block hg, fun i hi => ?_⟩⟩
    rw [Nat.zero_add, h.cellAt _ (by omega)]
    simp [hi]
/-- a row of ints of its own -/
def RowI (w : World) (v : Value) (m : List Int) : Prop := w.ownsRow 0 3 1 v m.length (m.map (Value.int .i64))
theorem RowI.of {w : World} {base : Nat} {v : Value} {m : List Int} (h : w.ownsRow base 3 1 v m.length (m.map (Value.int .i64))) : RowI w v m := ⟨h.1, h.2.imp id (fun ⟨g, cap, cur, a, _, b⟩ => ⟨g, cap, cur, a, Nat.zero_le _, b⟩)⟩
theorem RowI.mod {w w' : World} {v : Value} {m : List Int} (h : RowI w v m) {S : List Nat} (k : Mod S w w') (hf : ∀ x, x ∈ ob v → x ∉ S) : RowI w' v m := k.row h (fun x hx => hf x (by simpa [ob] using hx))
theorem RowI.gr {w w' : World} {v : Value} {m : List Int} (h : RowI w v m) (k : Gr w w') : RowI w' v m := h.mod (k.mod []) (by simp)
theorem LsV.rd {w : World} {f : List Nat} {p : Lease × Value} (h : LsV w f p) : RdN w p.2 p.1.stamp := RdN.of_row h.row
theorem LsV.mod {w w' : World} {f : List Nat} {p : Lease × Value} (h : LsV w f p) {S : List Nat} (m : Mod S w w') (hf : ∀ k, k ∈ f → k ∉ S) : LsV w' f p := ⟨m.row h.row (fun k hk => hf k (h.sub k (by simpa [ob] using hk))), h.sub⟩
theorem LsV.mono {w : World} {f f' : List Nat} {p : Lease × Value} (h : LsV w f p) (hf : ∀ k, k ∈ f → k ∈ f') : LsV w f' p := ⟨h.row, fun k hk => hf k (h.sub k hk)⟩
theorem ob_row {w : World} {base : Nat} {T : TypeId} {sz n : Nat} {v : Value} {xs : List Value} (h : w.ownsRow base T sz v n xs) : ∀ k, k ∈ ob v → base ≤ k ∧ k < w.heap.size :=
  fun k hk => by have := h.lt k (by simpa [ob] using hk); omega

/-- a slice that reads as the leases l, in blocks of f -/
def RdLs (w : World) (v : Value) (f : List Nat) (l : List Lease) : Prop :=
  l.length ≤ maxLen ∧ ∃ lv : List (Lease × Value), lv.map Prod.fst = l ∧ (∀ p, p ∈ lv → LsV w f p) ∧
    ((∃ p c, v = .slice p 0 c ∧ l = []) ∨ ∃ b off cap, v = .slice (some ⟨b, off, none⟩) l.length cap ∧ b < w.heap.size ∧ b ∈ f ∧ ∀ i, i < l.length → ∀ j, j < 9 → w.cell? ⟨b, off + i * 9 + j, none⟩ = (encL (lv.getD i default))[j]?)
theorem RdLs.mod {w w' : World} {v : Value} {f : List Nat} {l : List Lease} (h : RdLs w v f l) {S : List Nat} (m : Mod S w w') (hf : ∀ k, k ∈ f → k ∉ S) : RdLs w' v f l := by
  obtain ⟨h1, lv, h2, h3, h4⟩ := h
  refine ⟨h1, lv, h2, fun p hp => (h3 p hp).mod m hf, h4.imp id ?_⟩
  rintro ⟨b, off, cap, rfl, hb, hbf, hc⟩
  exact ⟨b, off, cap, rfl, Nat.lt_of_lt_of_le hb m.size, hbf, fun i hi j hj => (m.cell (x := ⟨b, off + i * 9 + j, none⟩) hb (hf b hbf)).trans (hc i hi j hj)⟩
theorem RdLs.gr {w w' : World} {v : Value} {f : List Nat} {l : List Lease} (h : RdLs w v f l) (g : Gr w w') : RdLs w' v f l := h.mod (g.mod []) (by simp)
theorem RdLs.len {w : World} {v : Value} {f : List Nat} {l : List Lease} (h : RdLs w v f l) : ∃ p c, v = .slice p l.length c := by
  obtain ⟨_, lv, _, _, ⟨p, c, rfl, rfl⟩ | ⟨b, off, cap, rfl, _⟩⟩ := h
  · exact ⟨p, c, rfl⟩
  · exact ⟨_, cap, rfl⟩
theorem RdLs.at_ {w : World} {q : Option Addr} {n c : Nat} {f : List Nat} {l : List Lease} (h : RdLs w (.slice q n c) f l) (i : Nat) (hi : i < l.length) :
    ∃ b off v, q = some ⟨b, off, none⟩ ∧ b < w.heap.size ∧ b ∈ f ∧ LsV w f (l.getD i default, v) ∧ w.cell? ⟨b, off + i * 9, none⟩ = some (.int .i64 (l.getD i default).frm) ∧ w.cell? ⟨b, off + i * 9 + 1, none⟩ = some (.int .i64 (l.getD i default).id) ∧
      w.cell? ⟨b, off + i * 9 + 2, none⟩ = some (.string (l.getD i default).path) ∧ w.cell? ⟨b, off + i * 9 + 3, none⟩ = some (.int .i64 (l.getD i default).mode) ∧ w.cell? ⟨b, off + i * 9 + 4, none⟩ = some v ∧
      w.cell? ⟨b, off + i * 9 + 5, none⟩ = some (.int .i64 (l.getD i default).term) ∧ w.cell? ⟨b, off + i * 9 + 6, none⟩ = some (.int .i64 (l.getD i default).sent) ∧ w.cell? ⟨b, off + i * 9 + 7, none⟩ = some (.int .i64 (l.getD i default).expiry) ∧
      w.cell? ⟨b, off + i * 9 + 8, none⟩ = some (.bool (l.getD i default).recd) := by
  obtain ⟨_, lv, h2, h3, h4⟩ := h
  have hl : lv.length = l.length := by rw [← h2]; simp
  have hm : lv.getD i default ∈ lv := by simp [show i < lv.length by omega]
  have he : l.getD i default = (lv.getD i default).1 := by subst h2; simp at hi; simp [hi]
  rcases h4 with ⟨p, c, hv, rfl⟩ | ⟨b, off, cap, hv, hb, hbf, hc⟩
  · simp at hi
  · simp only [Value.slice.injEq] at hv
    rw [he]
    exact ⟨b, off, (lv.getD i default).2, hv.1, hb, hbf, h3 _ hm, hc i hi 0 (by omega), hc i hi 1 (by omega), hc i hi 2 (by omega), hc i hi 3 (by omega), hc i hi 4 (by omega), hc i hi 5 (by omega), hc i hi 6 (by omega), hc i hi 7 (by omega), hc i hi 8 (by omega)⟩
theorem RdLs.of_row {w : World} {base : Nat} {T : TypeId} {v : Value} {f : List Nat} {lv : List (Lease × Value)} (h : w.ownsRow base T 9 v lv.length (lv.flatMap encL)) (hv : ∀ p, p ∈ lv → LsV w f p) (hf : ∀ k, k ∈ ob v → k ∈ f) : RdLs w v f (lv.map Prod.fst) := by
  rcases h.2 with ⟨rfl, hn⟩ | ⟨g, cap, cur, rfl, _, hg, hh1, hh2, _⟩
  · have : lv = [] := List.length_eq_zero_iff.1 hn
    subst this
    exact ⟨by simp, [], rfl, by simp, .inl ⟨none, 0, rfl, rfl⟩⟩
  · refine ⟨by simp; omega, lv, rfl, hv, .inr ⟨g, 0, cap, by simp, lt_of_block hg, hf g (by simp [ob, Value.ownBlock]), fun i hi j hj => ?_⟩⟩
    rw [List.length_map] at hi
    rw [Nat.zero_add, h.cellAt _ (by omega), flat_get encL 9 encL_len lv i j hi hj]
end Go.Proofs.YtifllaeldcimgaaGreat
