/-
  WALKS: layer 17: List, Get, Use at a holder of one lease with a stamp of two counters, their rows given; rows of ints that are stored into.
-/
import Derived.Test.YtifllaeldcimgaaHoldN
namespace Go.Proofs.Ytifllaeldcimgaa
open Go.RowKit

section
variable {w w' : World} {ph pm : Nat} {fs : List Nat} {rho : Int} {l : List Lease}
theorem RowI.form2 {v : Value} {a b : Int} (h : RowI w v [a, b]) : ∃ g cap, v = .slice (some ⟨g, 0, none⟩) 2 cap ∧ g < w.heap.size := by
  rcases h.2 with ⟨_, hn⟩ | ⟨g, cap, cur, rfl, _, hg, _⟩
  · simp at hn
  · exact ⟨g, cap, rfl, lt_of_block hg⟩
theorem RowI.at0 {g cap : Nat} {a b : Int} (h : RowI w (.slice (some ⟨g, 0, none⟩) 2 cap) [a, b]) : w.cell? ⟨g, 0, none⟩ = some (.int .i64 a) := by
  have := World.ownsRow.cellAt h 0 (by simp)
  simpa using this
theorem RowI.at1 {g cap : Nat} {a b : Int} (h : RowI w (.slice (some ⟨g, 0, none⟩) 2 cap) [a, b]) : w.cell? ⟨g, 1, none⟩ = some (.int .i64 b) := by
  have := World.ownsRow.cellAt h 1 (by simp)
  simpa using this
theorem RowI.free {g cap : Nat} {a b : Int} (h : RowI w (.slice (some ⟨g, 0, none⟩) 2 cap) [a, b]) (j : Nat) : w.frozen? ⟨g, j, none⟩ = false := World.ownsRow.frozenAt h j
theorem RowI.set0 {g cap : Nat} {a b : Int} (h : RowI w (.slice (some ⟨g, 0, none⟩) 2 cap) [a, b]) (z : Int) : RowI (w.setCell ⟨g, 0, none⟩ (.int .i64 z)) (.slice (some ⟨g, 0, none⟩) 2 cap) [z, b] := (World.ownsRow.stored h 0 (.int .i64 z)).1
theorem rd_two {b : Nat} {x y z : Int} (h : w.heap[b]? = some (.cells #[.int .i64 x, .int .i64 y, .int .i64 z] 3 (0, 0))) : RdN w (.slice (some ⟨b, 0, none⟩) 2 3) [x, y] := by
  refine ⟨(by decide : 2 ≤ maxLen), .inr ⟨b, 0, 3, rfl, lt_of_block h, fun i hi => ?_⟩⟩
  have h2 : i < 2 := hi
  rcases (by omega : i = 0 ∨ i = 1) with rfl | rfl <;> simp [World.cell?, h]
theorem HS.put {W : World} (s : HS W w ph pm fs rho l) {S : List Nat} (m : Mod S w w') (h : ∀ k, k ∈ S → W.heap.size ≤ k ∧ k ≠ ph ∧ k ≠ pm ∧ k ∉ fs) : HS W w' ph pm fs rho l :=
  ⟨s.hd.mod m (fun e => (h _ e).2.1 rfl) (fun e => (h _ e).2.2.1 rfl) (fun k hk e => (h k e).2.2.2 hk), s.mod.trans m (by simp) (fun x hx hlt => by have := (h x hx).1; omega), s.nph, s.npm⟩
/-- the row of a lease -/
abbrev rowL (f i : Int) (p : ByteArray) (m : Int) (v : Value) (t s e : Int) (r : Bool) : List Value := [.int .i64 f, .int .i64 i, .string p, .int .i64 m, v, .int .i64 t, .int .i64 s, .int .i64 e, .bool r]
theorem list_one {f i m t s e a b : Int} {p : ByteArray} {r : Bool} (h : Hd w ph pm fs rho [⟨f, i, p, m, [a, b], t, s, e, r⟩]) :
    Calls Try.prog 12 #[.pointer (some ⟨ph, 0, none⟩)] w fun en w' => ∃ pb pc sp sc, en = .returned (.slice (some ⟨pb, 0, none⟩) 1 pc) ∧ w'.ownsRow 0 30 9 (.slice (some ⟨pb, 0, none⟩) 1 pc) 1 (rowL f i p m (.slice (some ⟨sp, 0, none⟩) 2 sc) t s e r) ∧
      RowI w' (.slice (some ⟨sp, 0, none⟩) 2 sc) [a, b] ∧ (w.heap.size ≤ pb ∧ w.heap.size ≤ sp ∧ pb ≠ sp ∧ pb < w'.heap.size ∧ sp < w'.heap.size) ∧ Mod [] w w' := by
  refine (hlist_any h).mono ?_
  rintro en w' ⟨v, sl, fb, rfl, hr, hs, hv, hf, hm⟩
  obtain ⟨⟨x, q, c⟩, rfl⟩ : ∃ s, sl = [s] := List.length_eq_one_iff.1 (by have := congrArg List.length hs; simpa using this)
  have hx : x = ⟨f, i, p, m, [a, b], t, s, e, r⟩ := by simpa using hs
  subst hx
  have h1 := hv _ (List.mem_singleton.2 rfl)
  obtain ⟨sp, sc, hq, hlt⟩ := RowI.form2 (w := w') h1.row
  simp only [pr, Value.slice.injEq] at hq
  obtain ⟨rfl, -, rfl⟩ := hq
  have hsf := hf sp (h1.sub sp (by simp [pr, ob, Value.ownBlock]))
  rcases hr.2 with ⟨_, hn⟩ | ⟨g, cap, cur, rfl, hb, hg, hrest⟩
  · simp at hn
  · refine ⟨g, cap, sp, c, rfl, ⟨rfl, .inr ⟨g, cap, cur, rfl, Nat.zero_le _, hg, ?_⟩⟩, h1.row, ⟨hb, hsf.1, fun e => hsf.2.2 (by simp [ob, Value.ownBlock, e]), lt_of_block hg, hlt⟩, hm⟩
    simpa [encS, encL, pr, cellsL] using hrest
theorem get_one (h : Hd w ph pm fs rho l) (kf ki : Int) (hf : i64w kf) (hi : i64w ki) {f i m t s e a b : Int} {p : ByteArray} {r : Bool} (hs : getL l (kf, ki) = some ⟨f, i, p, m, [a, b], t, s, e, r⟩) :
    Calls Try.prog 17 #[.pointer (some ⟨ph, 0, none⟩), .int .i64 kf, .int .i64 ki] w fun en w' => ∃ g c, en = .returned (.tuple #[.agg #[.int .i64 f, .int .i64 i, .string p, .int .i64 m, .slice (some ⟨g, 0, none⟩) 2 c, .int .i64 t, .int .i64 s, .int .i64 e, .bool r], .bool true]) ∧ RowI w' (.slice (some ⟨g, 0, none⟩) 2 c) [a, b] ∧ (w.heap.size ≤ g ∧ g < w'.heap.size) ∧ Mod [] w w' :=
  (hget_any h kf ki hf hi).mono fun _ w' ho => by
    rw [hs] at ho
    obtain ⟨v, rfl, hr, hm⟩ := ho
    obtain ⟨g, c, rfl, hlt⟩ := RowI.form2 (w := w') (RowI.of hr)
    exact ⟨g, c, rfl, RowI.of hr, ob_row hr g (by simp [ob, Value.ownBlock]), hm⟩
theorem use_one (h : Hd w ph pm fs rho l) (now : Int) (path : ByteArray) (md : Int) (hq : path.size ≤ 9223372036854775807) {f i m t s e a b : Int} {p : ByteArray} {r : Bool} {k : Int} (hs : useS l now path.data.toList md = (some ⟨f, i, p, m, [a, b], t, s, e, r⟩, k)) :
    Calls Try.prog 14 #[.pointer (some ⟨ph, 0, none⟩), .int .i64 now, .string path, .int .i64 md] w fun en w' => ∃ g c, en = .returned (.tuple #[.agg #[.int .i64 f, .int .i64 i, .string p, .int .i64 m, .slice (some ⟨g, 0, none⟩) 2 c, .int .i64 t, .int .i64 s, .int .i64 e, .bool r], .int .i64 k]) ∧ RowI w' (.slice (some ⟨g, 0, none⟩) 2 c) [a, b] ∧ (w.heap.size ≤ g ∧ g < w'.heap.size) ∧ Mod [] w w' :=
  (huse_any h now path md hq).mono fun _ w' ho => by
    rw [hs] at ho
    obtain ⟨v, fb, rfl, hv, hf, hm⟩ := ho
    obtain ⟨g, c, hq, hlt⟩ := RowI.form2 (w := w') hv.row
    simp only at hq
    subst hq
    exact ⟨g, c, rfl, hv.row, hf g (hv.sub g (by simp [ob, Value.ownBlock])), hm⟩
theorem row_far {w' : World} {T : TypeId} {sz n g cap : Nat} {xs : List Value} (h : w.ownsRow 0 T sz (.slice (some ⟨g, 0, none⟩) n cap) n xs) {S : List Nat} (m : Mod S w w') (hg : g ∉ S) : w'.ownsRow 0 T sz (.slice (some ⟨g, 0, none⟩) n cap) n xs :=
  m.row h (fun k e => by simp [Value.ownBlock] at e; subst e; exact hg)
/-- which blocks HolderOwn has made: p (row pb, stamp sp), q (row qb, stamp tq), x (box xb, stamp sx), y (box yb, stamp sy) -/
structure Blks where
  (wc : World) (ph pm : Nat) (fs : List Nat) (pb pc sp sc qb qc tq tc xb sx xc yb sy yc : Nat)
/-- all apart -/
structure Apart (B : Blks) : Prop where
  n : [B.pb, B.sp, B.qb, B.tq, B.xb, B.sx, B.yb, B.sy].Nodup
  old : ∀ k, k ∈ [B.pb, B.sp, B.qb, B.tq, B.xb, B.sx, B.yb, B.sy] → B.wc.heap.size ≤ k ∧ k ≠ B.ph ∧ k ≠ B.pm ∧ k ∉ B.fs
abbrev lastL : List Lease := [⟨0, 1, { data := #[97] }, 2, [4, 6], 30, 1, 31, false⟩]
/-- the memory: p's, x's, y's stamps begin with a1, a2, a3 -/
structure StO (B : Blks) (a1 a2 a3 : Int) (w : World) : Prop where
  hs : HS B.wc w B.ph B.pm B.fs 0 lastL
  p : w.ownsRow 0 30 9 (.slice (some ⟨B.pb, 0, none⟩) 1 B.pc) 1 (rowL 0 1 { data := #[97] } 2 (.slice (some ⟨B.sp, 0, none⟩) 2 B.sc) 30 1 31 false)
  ps : RowI w (.slice (some ⟨B.sp, 0, none⟩) 2 B.sc) [a1, 6]
  q : w.ownsRow 0 30 9 (.slice (some ⟨B.qb, 0, none⟩) 1 B.qc) 1 (rowL 0 1 { data := #[97] } 2 (.slice (some ⟨B.tq, 0, none⟩) 2 B.tc) 30 1 31 false)
  qs : RowI w (.slice (some ⟨B.tq, 0, none⟩) 2 B.tc) [4, 6]
  x : w.heap[B.xb]? = some (objL 0 1 { data := #[97] } 2 (.slice (some ⟨B.sx, 0, none⟩) 2 B.xc) 30 1 31 false)
  xs : RowI w (.slice (some ⟨B.sx, 0, none⟩) 2 B.xc) [a2, 6]
  y : w.heap[B.yb]? = some (objL 0 1 { data := #[97] } 2 (.slice (some ⟨B.sy, 0, none⟩) 2 B.yc) 30 1 31 false)
  ys : RowI w (.slice (some ⟨B.sy, 0, none⟩) 2 B.yc) [a3, 6]
theorem ob_sl {g n c : Nat} {x : Nat} (h : x ∈ ob (.slice (some ⟨g, 0, none⟩) n c)) : x = g := by simpa [ob, Value.ownBlock] using h
theorem StO.gr {B : Blks} {a1 a2 a3 : Int} {w w' : World} (h : StO B a1 a2 a3 w) (g : Gr w w') : StO B a1 a2 a3 w' :=
  ⟨h.hs.gr g, row_far h.p (g.mod []) (by simp), h.ps.gr g, row_far h.q (g.mod []) (by simp), h.qs.gr g, (g.mod []).at_ h.x (by simp), h.xs.gr g, (g.mod []).at_ h.y (by simp), h.ys.gr g⟩
theorem StO.putp {B : Blks} {a1 a2 a3 : Int} {w : World} (hA : Apart B) (h : StO B a1 a2 a3 w) (z : Int) : StO B z a2 a3 (w.setCell ⟨B.sp, 0, none⟩ (.int .i64 z)) := by
  have m : Mod [B.sp] w (w.setCell ⟨B.sp, 0, none⟩ (.int .i64 z)) := (Mod.refl [B.sp] w).setCell (fun _ => by simp) _
  have hn := hA.n
  simp only [List.nodup_cons, List.mem_cons, not_or] at hn
  obtain ⟨⟨h1, h2, h3, h4, h5, h6, h7, -⟩, ⟨k2, k3, k4, k5, k6, k7, -⟩, -⟩ := hn
  exact ⟨h.hs.put m (fun k hk => hA.old k (by simp at hk; simp [hk])), row_far h.p m (by simpa using h1), h.ps.set0 z, row_far h.q m (by simpa using Ne.symm k2), h.qs.mod m (fun x e => by rw [ob_sl e]; simpa using Ne.symm k3), m.at_ h.x (by simpa using Ne.symm k4), h.xs.mod m (fun x e => by rw [ob_sl e]; simpa using Ne.symm k5), m.at_ h.y (by simpa using Ne.symm k6), h.ys.mod m (fun x e => by rw [ob_sl e]; simpa using Ne.symm k7)⟩
theorem StO.putx {B : Blks} {a1 a2 a3 : Int} {w : World} (hA : Apart B) (h : StO B a1 a2 a3 w) (z : Int) : StO B a1 z a3 (w.setCell ⟨B.sx, 0, none⟩ (.int .i64 z)) := by
  have m : Mod [B.sx] w (w.setCell ⟨B.sx, 0, none⟩ (.int .i64 z)) := (Mod.refl [B.sx] w).setCell (fun _ => by simp) _
  have hn := hA.n
  simp only [List.nodup_cons, List.mem_cons, not_or] at hn
  obtain ⟨⟨-, -, -, -, h5, -, -, -⟩, ⟨-, -, -, k5, -, -, -⟩, ⟨-, -, l5, -, -, -⟩, ⟨-, m5, -, -, -⟩, ⟨n5, -, -, -⟩, ⟨o6, o7, -⟩, -⟩ := hn
  exact ⟨h.hs.put m (fun k hk => hA.old k (by simp at hk; simp [hk])), row_far h.p m (by simpa using h5), h.ps.mod m (fun x e => by rw [ob_sl e]; simpa using k5), row_far h.q m (by simpa using l5), h.qs.mod m (fun x e => by rw [ob_sl e]; simpa using m5), m.at_ h.x (by simpa using n5), h.xs.set0 z, m.at_ h.y (by simpa using Ne.symm o6), h.ys.mod m (fun x e => by rw [ob_sl e]; simpa using Ne.symm o7)⟩
theorem StO.puty {B : Blks} {a1 a2 a3 : Int} {w : World} (hA : Apart B) (h : StO B a1 a2 a3 w) (z : Int) : StO B a1 a2 z (w.setCell ⟨B.sy, 0, none⟩ (.int .i64 z)) := by
  have m : Mod [B.sy] w (w.setCell ⟨B.sy, 0, none⟩ (.int .i64 z)) := (Mod.refl [B.sy] w).setCell (fun _ => by simp) _
  have hn := hA.n
  simp only [List.nodup_cons, List.mem_cons, not_or] at hn
  obtain ⟨⟨-, -, -, -, -, -, h7, -⟩, ⟨-, -, -, -, -, k7, -⟩, ⟨-, -, -, -, l7, -⟩, ⟨-, -, -, m7, -⟩, ⟨-, -, n7, -⟩, ⟨-, o7, -⟩, ⟨q7, -⟩, -⟩ := hn
  exact ⟨h.hs.put m (fun k hk => hA.old k (by simp at hk; simp [hk])), row_far h.p m (by simpa using h7), h.ps.mod m (fun x e => by rw [ob_sl e]; simpa using k7), row_far h.q m (by simpa using l7), h.qs.mod m (fun x e => by rw [ob_sl e]; simpa using m7), m.at_ h.x (by simpa using n7), h.xs.mod m (fun x e => by rw [ob_sl e]; simpa using o7), m.at_ h.y (by simpa using q7), h.ys.set0 z⟩
end
end Go.Proofs.Ytifllaeldcimgaa
