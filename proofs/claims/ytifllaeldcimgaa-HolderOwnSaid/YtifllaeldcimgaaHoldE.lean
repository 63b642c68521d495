/-
  PLAIN LAWS OF MEMORY for HolderOwn's three appends in one statement.
-/
import Derived.Test.YtifllaeldcimgaaHoldM
import Derived.Test.YtifllaeldcimgaaWpL
import Derived.Deep.AppendLies
namespace Go.Proofs.Ytifllaeldcimgaa
open Go.RowKit

section
variable {B : Blks} {N : Nat} {w w' : World}
/-- everything but the stamps of p, x, y -/
structure Rst (B : Blks) (w : World) : Prop where
  hs : HS B.wc w B.ph B.pm B.fs 0 lastL
  p : w.ownsRow 0 30 9 (.slice (some ⟨B.pb, 0, none⟩) 1 B.pc) 1 (rowL 0 1 { data := #[97] } 2 (.slice (some ⟨B.sp, 0, none⟩) 2 B.sc) 30 1 31 false)
  q : w.ownsRow 0 30 9 (.slice (some ⟨B.qb, 0, none⟩) 1 B.qc) 1 (rowL 0 1 { data := #[97] } 2 (.slice (some ⟨B.tq, 0, none⟩) 2 B.tc) 30 1 31 false)
  qs : RowI w (.slice (some ⟨B.tq, 0, none⟩) 2 B.tc) [4, 6]
  x : w.heap[B.xb]? = some (objL 0 1 { data := #[97] } 2 (.slice (some ⟨B.sx, 0, none⟩) 2 B.xc) 30 1 31 false)
  y : w.heap[B.yb]? = some (objL 0 1 { data := #[97] } 2 (.slice (some ⟨B.sy, 0, none⟩) 2 B.yc) 30 1 31 false)
theorem Apart.stamps (hA : Apart B) {k : Nat} (hk : k = B.sp ∨ k = B.sx ∨ k = B.sy) : k ≠ B.pb ∧ k ≠ B.qb ∧ k ≠ B.tq ∧ k ≠ B.xb ∧ k ≠ B.yb ∧ B.wc.heap.size ≤ k ∧ k ≠ B.ph ∧ k ≠ B.pm ∧ k ∉ B.fs := by
  have hn := hA.n
  simp only [List.nodup_cons, List.mem_cons, not_or] at hn
  obtain ⟨⟨h1, h2, h3, h4, h5, h6, h7, -⟩, ⟨k2, k3, k4, k5, k6, k7, -⟩, ⟨l3, l4, l5, l6, l7, -⟩, ⟨m4, m5, m6, m7, -⟩, ⟨n5, n6, n7, -⟩, ⟨o6, o7, -⟩, ⟨q7, -⟩, -⟩ := hn
  rcases hk with rfl | rfl | rfl
  · exact ⟨Ne.symm h1, k2, k3, k4, k6, hA.old _ (by simp)⟩
  · exact ⟨Ne.symm h5, Ne.symm l5, Ne.symm m5, Ne.symm n5, o6, hA.old _ (by simp)⟩
  · exact ⟨Ne.symm h7, Ne.symm l7, Ne.symm m7, Ne.symm n7, Ne.symm q7, hA.old _ (by simp)⟩
theorem Apart.pxy (hA : Apart B) : (B.sp ≠ B.sx ∧ B.sp ≠ B.sy ∧ B.sx ≠ B.sy) ∧ (B.pb ≠ B.xb ∧ B.pb ≠ B.yb ∧ B.xb ≠ B.yb) ∧ (B.pb ≠ B.qb ∧ B.pb ≠ B.tq ∧ B.xb ≠ B.qb ∧ B.xb ≠ B.tq ∧ B.yb ≠ B.qb ∧ B.yb ≠ B.tq) := by
  have hn := hA.n
  simp only [List.nodup_cons, List.mem_cons, not_or] at hn
  obtain ⟨⟨h1, h2, h3, h4, h5, h6, h7, -⟩, ⟨k2, k3, k4, k5, k6, k7, -⟩, ⟨l3, l4, l5, l6, l7, -⟩, ⟨m4, m5, m6, m7, -⟩, ⟨n5, n6, n7, -⟩, ⟨o6, o7, -⟩, ⟨q7, -⟩, -⟩ := hn
  exact ⟨⟨k5, k7, o7⟩, ⟨h4, h6, n6⟩, h2, h3, Ne.symm l4, Ne.symm m4, Ne.symm l6, Ne.symm m6⟩
theorem Rst.mod (hA : Apart B) (h : Rst B w) {S : List Nat} (m : Mod S w w') (hS : ∀ k, k ∈ S → k = B.sp ∨ k = B.sx ∨ k = B.sy) : Rst B w' :=
  ⟨h.hs.put m (fun k hk => (hA.stamps (hS k hk)).2.2.2.2.2), row_far h.p m (fun e => (hA.stamps (hS _ e)).1 rfl), row_far h.q m (fun e => (hA.stamps (hS _ e)).2.1 rfl), h.qs.mod m (fun x hx e => by rw [ob_sl hx] at e; exact (hA.stamps (hS _ e)).2.2.1 rfl),
    m.at_ h.x (fun e => (hA.stamps (hS _ e)).2.2.2.1 rfl), m.at_ h.y (fun e => (hA.stamps (hS _ e)).2.2.2.2.1 rfl)⟩
/-- a stamp in block s, with room c, its first two n, 6; or what an append of z has made of it -/
def Stmp (N : Nat) (w : World) (s c : Nat) (n z : Int) : Option (Nat × Nat) → Prop
  | none => RowI w (.slice (some ⟨s, 0, none⟩) 2 c) [n, 6]
  | some (g, d) => RowI w (.slice (some ⟨g, 0, none⟩) 3 d) [n, 6, z] ∧ (g = s ∨ N ≤ g)
theorem Stmp.mod {s c : Nat} {n z : Int} {o : Option (Nat × Nat)} (h : Stmp N w s c n z o) {S : List Nat} (m : Mod S w w') (hs : s ∉ S) (hS : ∀ k, k ∈ S → k < N) : Stmp N w' s c n z o := by
  cases o with
  | none => exact RowI.mod h m (fun x hx e => by rw [ob_sl hx] at e; exact hs e)
  | some p => exact ⟨RowI.mod h.1 m (fun x hx e => by
      rw [ob_sl hx] at e
      rcases h.2 with q | q
      · rw [q] at e; exact hs e
      · have := hS _ e; omega), h.2⟩
/-- the new cell of z, if it has been made -/
def Cel (N : Nat) (w : World) (z : Int) : Option Nat → Prop
  | none => True
  | some n => w.heap[n]? = some (.cells #[.int .i64 z] 3 (0, 0)) ∧ N ≤ n
theorem Cel.mod {z : Int} {o : Option Nat} (h : Cel N w z o) {S : List Nat} (m : Mod S w w') (hS : ∀ k, k ∈ S → k < N) : Cel N w' z o := by
  cases o with
  | none => trivial
  | some n => exact ⟨m.at_ h.1 (fun e => by have := hS _ e; have := h.2; omega), h.2⟩
structure R25 (B : Blks) (N : Nat) (n1 n2 n3 : Option Nat) (r1 r2 r3 : Option (Nat × Nat)) (w : World) : Prop where
  rst : Rst B w
  size : N ≤ w.heap.size
  lt : B.sp < N ∧ B.sx < N ∧ B.sy < N ∧ B.pb < N ∧ B.xb < N ∧ B.yb < N
  c1 : Cel N w 1 n1
  c2 : Cel N w 2 n2
  c3 : Cel N w 3 n3
  s1 : Stmp N w B.sp B.sc 81 1 r1
  s2 : Stmp N w B.sx B.xc 82 2 r2
  s3 : Stmp N w B.sy B.yc 83 3 r3
variable {n1 n2 n3 : Option Nat} {r1 r2 r3 : Option (Nat × Nat)}
def T25 (B : Blks) (w : World) : Prop := w.cell? ⟨B.pb, 4, none⟩ = some (.slice (some ⟨B.sp, 0, none⟩) 2 B.sc) ∧ w.cell? ⟨B.xb, 4, none⟩ = some (.slice (some ⟨B.sx, 0, none⟩) 2 B.xc) ∧ w.cell? ⟨B.yb, 4, none⟩ = some (.slice (some ⟨B.sy, 0, none⟩) 2 B.yc)
theorem R25.T (h : R25 B N n1 n2 n3 r1 r2 r3 w) : T25 B w := ⟨World.ownsRow.cellAt h.rst.p 4 (by decide), blk_cell h.rst.x 4, blk_cell h.rst.y 4⟩
theorem R25.gr (hA : Apart B) (h : R25 B N n1 n2 n3 r1 r2 r3 w) (g : Gr w w') : R25 B N n1 n2 n3 r1 r2 r3 w' :=
  ⟨h.rst.mod hA (g.mod []) (by simp), Nat.le_trans h.size g.size, h.lt, h.c1.mod (g.mod []) (by simp), h.c2.mod (g.mod []) (by simp), h.c3.mod (g.mod []) (by simp), h.s1.mod (g.mod []) (by simp) (by simp), h.s2.mod (g.mod []) (by simp) (by simp), h.s3.mod (g.mod []) (by simp) (by simp)⟩
abbrev celO (z : Int) : Obj := .cells #[.int .i64 z] 3 (0, 0)
theorem R25.alloc1 (hA : Apart B) (h : R25 B N n1 n2 n3 r1 r2 r3 w) : R25 B N (some w.heap.size) n2 n3 r1 r2 r3 (w.alloc (celO 1)) :=
  { h.gr hA ((Gr.refl w).alloc (celO 1)) with c1 := ⟨heap_alloc_new w (celO 1), h.size⟩ }
theorem R25.alloc2 (hA : Apart B) (h : R25 B N n1 n2 n3 r1 r2 r3 w) : R25 B N n1 (some w.heap.size) n3 r1 r2 r3 (w.alloc (celO 2)) :=
  { h.gr hA ((Gr.refl w).alloc (celO 2)) with c2 := ⟨heap_alloc_new w (celO 2), h.size⟩ }
theorem R25.alloc3 (hA : Apart B) (h : R25 B N n1 n2 n3 r1 r2 r3 w) : R25 B N n1 n2 (some w.heap.size) r1 r2 r3 (w.alloc (celO 3)) :=
  { h.gr hA ((Gr.refl w).alloc (celO 3)) with c3 := ⟨heap_alloc_new w (celO 3), h.size⟩ }
theorem R25.app1 (hA : Apart B) (h : R25 B N n1 n2 n3 r1 r2 r3 w) {g d : Nat} (ho : w'.ownsRow 0 3 1 (.slice (some ⟨g, 0, none⟩) 3 d) 3 [.int .i64 81, .int .i64 6, .int .i64 1]) (hg : w.grownBy w' (some B.sp)) (hat : some B.sp = some g ∨ g = w.heap.size) : R25 B N n1 n2 n3 (some (g, d)) r2 r3 w' := by
  have m : Mod [B.sp] w w' := (Mod.refl [B.sp] w).grown hg (fun k e _ => by cases e; simp)
  have hp := hA.pxy.1
  have hl := h.lt
  have hS : ∀ k, k ∈ [B.sp] → k < N := fun k hk => by obtain rfl : k = B.sp := by simpa using hk
                                                      omega
  exact ⟨h.rst.mod hA m (by simp), Nat.le_trans h.size m.size, hl, h.c1.mod m hS, h.c2.mod m hS, h.c3.mod m hS, ⟨ho, hat.imp (fun e => (Option.some.inj e).symm) (fun e => by rw [e]; exact h.size)⟩, h.s2.mod m (by simpa using Ne.symm hp.1) hS, h.s3.mod m (by simpa using Ne.symm hp.2.1) hS⟩
theorem R25.app2 (hA : Apart B) (h : R25 B N n1 n2 n3 r1 r2 r3 w) {g d : Nat} (ho : w'.ownsRow 0 3 1 (.slice (some ⟨g, 0, none⟩) 3 d) 3 [.int .i64 82, .int .i64 6, .int .i64 2]) (hg : w.grownBy w' (some B.sx)) (hat : some B.sx = some g ∨ g = w.heap.size) : R25 B N n1 n2 n3 r1 (some (g, d)) r3 w' := by
  have m : Mod [B.sx] w w' := (Mod.refl [B.sx] w).grown hg (fun k e _ => by cases e; simp)
  have hp := hA.pxy.1
  have hl := h.lt
  have hS : ∀ k, k ∈ [B.sx] → k < N := fun k hk => by obtain rfl : k = B.sx := by simpa using hk
                                                      omega
  exact ⟨h.rst.mod hA m (by simp), Nat.le_trans h.size m.size, hl, h.c1.mod m hS, h.c2.mod m hS, h.c3.mod m hS, h.s1.mod m (by simpa using hp.1) hS, ⟨ho, hat.imp (fun e => (Option.some.inj e).symm) (fun e => by rw [e]; exact h.size)⟩, h.s3.mod m (by simpa using Ne.symm hp.2.2) hS⟩
theorem R25.app3 (hA : Apart B) (h : R25 B N n1 n2 n3 r1 r2 r3 w) {g d : Nat} (ho : w'.ownsRow 0 3 1 (.slice (some ⟨g, 0, none⟩) 3 d) 3 [.int .i64 83, .int .i64 6, .int .i64 3]) (hg : w.grownBy w' (some B.sy)) (hat : some B.sy = some g ∨ g = w.heap.size) : R25 B N n1 n2 n3 r1 r2 (some (g, d)) w' := by
  have m : Mod [B.sy] w w' := (Mod.refl [B.sy] w).grown hg (fun k e _ => by cases e; simp)
  have hp := hA.pxy.1
  have hl := h.lt
  have hS : ∀ k, k ∈ [B.sy] → k < N := fun k hk => by obtain rfl : k = B.sy := by simpa using hk
                                                      omega
  exact ⟨h.rst.mod hA m (by simp), Nat.le_trans h.size m.size, hl, h.c1.mod m hS, h.c2.mod m hS, h.c3.mod m hS, h.s1.mod m (by simpa using hp.2.1) hS, h.s2.mod m (by simpa using hp.2.2) hS, ⟨ho, hat.imp (fun e => (Option.some.inj e).symm) (fun e => by rw [e]; exact h.size)⟩⟩
/-- the memory behind the statement -/
structure StE (B : Blks) (g1 d1 g2 d2 : Nat) (w : World) : Prop where
  hs : HS B.wc w B.ph B.pm B.fs 0 lastL
  p : w.ownsRow 0 30 9 (.slice (some ⟨B.pb, 0, none⟩) 1 B.pc) 1 (rowL 0 1 { data := #[97] } 2 (.slice (some ⟨g1, 0, none⟩) 3 d1) 30 1 31 false)
  ps : RowI w (.slice (some ⟨g1, 0, none⟩) 3 d1) [81, 6, 1]
  q : w.ownsRow 0 30 9 (.slice (some ⟨B.qb, 0, none⟩) 1 B.qc) 1 (rowL 0 1 { data := #[97] } 2 (.slice (some ⟨B.tq, 0, none⟩) 2 B.tc) 30 1 31 false)
  qs : RowI w (.slice (some ⟨B.tq, 0, none⟩) 2 B.tc) [4, 6]
  x : w.heap[B.xb]? = some (objL 0 1 { data := #[97] } 2 (.slice (some ⟨g2, 0, none⟩) 3 d2) 30 1 31 false)
  xs : RowI w (.slice (some ⟨g2, 0, none⟩) 3 d2) [82, 6, 2]
  off : g1 ≠ B.pb ∧ g2 ≠ B.pb
def End25 (B : Blks) (w : World) : Prop := ∃ g1 d1 g2 d2, StE B g1 d1 g2 d2 w
theorem R25.fin (hA : Apart B) {g1 d1 g2 d2 : Nat} (h : R25 B N n1 n2 n3 (some (g1, d1)) (some (g2, d2)) r3 w) (v3 : Value) :
    StE B g1 d1 g2 d2 (((w.setCell ⟨B.pb, 4, none⟩ (.slice (some ⟨g1, 0, none⟩) 3 d1)).setCell ⟨B.xb, 4, none⟩ (.slice (some ⟨g2, 0, none⟩) 3 d2)).setCell ⟨B.yb, 4, none⟩ v3) := by
  obtain ⟨hp, hg1⟩ := h.s1
  obtain ⟨hx, hg2⟩ := h.s2
  have hl := h.lt
  have e1 := hA.stamps (.inl (rfl : B.sp = B.sp))
  have e2 := hA.stamps (.inr (.inl (rfl : B.sx = B.sx)))
  have hpx := hA.pxy.2
  have a1 : g1 ≠ B.pb ∧ g1 ≠ B.xb ∧ g1 ≠ B.yb := by rcases hg1 with rfl | q; exact ⟨e1.1, e1.2.2.2.1, e1.2.2.2.2.1⟩; omega
  have a2 : g2 ≠ B.pb ∧ g2 ≠ B.xb ∧ g2 ≠ B.yb := by rcases hg2 with rfl | q; exact ⟨e2.1, e2.2.2.2.1, e2.2.2.2.2.1⟩; omega
  have m1 : Mod [B.pb] w (w.setCell ⟨B.pb, 4, none⟩ (.slice (some ⟨g1, 0, none⟩) 3 d1)) := (Mod.refl _ w).setCell (fun _ => by simp) _
  have p1 := (World.ownsRow.stored h.rst.p 4 (.slice (some ⟨g1, 0, none⟩) 3 d1)).1
  have x1 := m1.at_ h.rst.x (by simpa using Ne.symm hpx.1.1)
  generalize w.setCell ⟨B.pb, 4, none⟩ (.slice (some ⟨g1, 0, none⟩) 3 d1) = wa at m1 p1 x1 ⊢
  have m2 : Mod [B.xb] wa (wa.setCell ⟨B.xb, 4, none⟩ (.slice (some ⟨g2, 0, none⟩) 3 d2)) := (Mod.refl _ wa).setCell (fun _ => by simp) _
  have x2 := blk_set x1 4 (.slice (some ⟨g2, 0, none⟩) 3 d2)
  generalize wa.setCell ⟨B.xb, 4, none⟩ (.slice (some ⟨g2, 0, none⟩) 3 d2) = wb at m2 x2 ⊢
  have m3 : Mod [B.yb] wb (wb.setCell ⟨B.yb, 4, none⟩ v3) := (Mod.refl _ wb).setCell (fun _ => by simp) _
  generalize wb.setCell ⟨B.yb, 4, none⟩ v3 = wz at m3 ⊢
  have m : Mod [B.pb, B.xb, B.yb] w wz := (m1.trans m2 (U := [B.pb, B.xb, B.yb]) (fun x hx _ => by simp at hx; simp [hx]) (fun x hx _ => by simp at hx; simp [hx])).trans m3 (fun _ x _ => x) (fun x hx _ => by simp at hx; simp [hx])
  refine ⟨h.rst.hs.put m (fun k hk => hA.old k (by simp at hk ⊢; rcases hk with e | e | e <;> simp [e])), row_far (row_far p1 m2 (by simpa using hpx.1.1)) m3 (by simpa using hpx.1.2.1), hp.mod m (fun x hx => by rw [ob_sl hx]; simpa using a1), row_far h.rst.q m (by simp only [List.mem_cons, List.mem_nil_iff, or_false, not_or]; exact ⟨Ne.symm hpx.2.1, Ne.symm hpx.2.2.2.1, Ne.symm hpx.2.2.2.2.2.1⟩), h.rst.qs.mod m (fun x hx => by rw [ob_sl hx]; simp only [List.mem_cons, List.mem_nil_iff, or_false, not_or]; exact ⟨Ne.symm hpx.2.2.1, Ne.symm hpx.2.2.2.2.1, Ne.symm hpx.2.2.2.2.2.2⟩), m3.at_ x2 (by simpa using hpx.1.2.2), hx.mod m (fun x hx => by rw [ob_sl hx]; simpa using a2), a1.1, a2.1⟩
theorem StO.start (h : StO B 81 82 83 w) : R25 B w.heap.size none none none none none none w :=
  ⟨⟨h.hs, h.p, h.q, h.qs, h.x, h.y⟩, Nat.le_refl _, ⟨(World.ownsRow.lt h.ps _ rfl).2, (World.ownsRow.lt h.xs _ rfl).2, (World.ownsRow.lt h.ys _ rfl).2, (World.ownsRow.lt h.p _ rfl).2, lt_of_block h.x, lt_of_block h.y⟩, trivial, trivial, trivial, h.ps, h.xs, h.ys⟩
theorem step_app1 {ops : Array Oper} {o : Oper} {a : Act} {K : Act → World → Prop} {Q : Exit → Act → World → Prop} {E : Prop} (hA : Apart B) {n : Nat} (h : R25 B N (some n) n2 n3 none r2 r3 w) (hgd : o.guard = none) (s x : Operand)
    (ho : o.op = .call { callee := .builtin .append, args := #[s, x], argTypes := #[28, 28] }) (hs : a.eval s = .slice (some ⟨B.sp, 0, none⟩) 2 B.sc) (hx : a.eval x = .slice (some ⟨n, 0, none⟩) 1 1)
    (hK : ∀ g d w', R25 B N (some n) n2 n3 (some (g, d)) r2 r3 w' → K (a.put o.dst (.slice (some ⟨g, 0, none⟩) 3 d)) w') : if Region.wanted o (yielded ops a.tmps) = true then Oper.wp Try.prog o a w K Q else E := by
  obtain ⟨i0, hi0, hz0, hz1, hz2⟩ := info_parts info_int
  refine step_append_lies _ hgd s x _ ho 0 3 i0 _ 1 8 Try.underlying28 hi0 hz0 hz1 hz2 rfl (by omega) (.slice (some ⟨B.sp, 0, none⟩) 2 B.sc) 2 [.int .i64 81, .int .i64 6] hs h.s1 ⟨n, 0, none⟩ 1 1 [.int .i64 1] hx rfl (World.news_of_block (cs := #[.int .i64 1]) (t := 3) (fr := (0, 0)) h.c1.1) (by simp [Value.oneCell']) (by omega) (by unfold maxLen; omega) (by omega) (Nat.zero_le _) _ rfl ?_
  intro g d w1 hown hgrow hat _
  exact hK g d w1 (h.app1 hA hown hgrow hat)
theorem step_app2 {ops : Array Oper} {o : Oper} {a : Act} {K : Act → World → Prop} {Q : Exit → Act → World → Prop} {E : Prop} (hA : Apart B) {n : Nat} (h : R25 B N n1 (some n) n3 r1 none r3 w) (hgd : o.guard = none) (s x : Operand)
    (ho : o.op = .call { callee := .builtin .append, args := #[s, x], argTypes := #[28, 28] }) (hs : a.eval s = .slice (some ⟨B.sx, 0, none⟩) 2 B.xc) (hx : a.eval x = .slice (some ⟨n, 0, none⟩) 1 1)
    (hK : ∀ g d w', R25 B N n1 (some n) n3 r1 (some (g, d)) r3 w' → K (a.put o.dst (.slice (some ⟨g, 0, none⟩) 3 d)) w') : if Region.wanted o (yielded ops a.tmps) = true then Oper.wp Try.prog o a w K Q else E := by
  obtain ⟨i0, hi0, hz0, hz1, hz2⟩ := info_parts info_int
  refine step_append_lies _ hgd s x _ ho 0 3 i0 _ 1 8 Try.underlying28 hi0 hz0 hz1 hz2 rfl (by omega) (.slice (some ⟨B.sx, 0, none⟩) 2 B.xc) 2 [.int .i64 82, .int .i64 6] hs h.s2 ⟨n, 0, none⟩ 1 1 [.int .i64 2] hx rfl (World.news_of_block (cs := #[.int .i64 2]) (t := 3) (fr := (0, 0)) h.c2.1) (by simp [Value.oneCell']) (by omega) (by unfold maxLen; omega) (by omega) (Nat.zero_le _) _ rfl ?_
  intro g d w1 hown hgrow hat _
  exact hK g d w1 (h.app2 hA hown hgrow hat)
theorem step_app3 {ops : Array Oper} {o : Oper} {a : Act} {K : Act → World → Prop} {Q : Exit → Act → World → Prop} {E : Prop} (hA : Apart B) {n : Nat} (h : R25 B N n1 n2 (some n) r1 r2 none w) (hgd : o.guard = none) (s x : Operand)
    (ho : o.op = .call { callee := .builtin .append, args := #[s, x], argTypes := #[28, 28] }) (hs : a.eval s = .slice (some ⟨B.sy, 0, none⟩) 2 B.yc) (hx : a.eval x = .slice (some ⟨n, 0, none⟩) 1 1)
    (hK : ∀ g d w', R25 B N n1 n2 (some n) r1 r2 (some (g, d)) w' → K (a.put o.dst (.slice (some ⟨g, 0, none⟩) 3 d)) w') : if Region.wanted o (yielded ops a.tmps) = true then Oper.wp Try.prog o a w K Q else E := by
  obtain ⟨i0, hi0, hz0, hz1, hz2⟩ := info_parts info_int
  refine step_append_lies _ hgd s x _ ho 0 3 i0 _ 1 8 Try.underlying28 hi0 hz0 hz1 hz2 rfl (by omega) (.slice (some ⟨B.sy, 0, none⟩) 2 B.yc) 2 [.int .i64 83, .int .i64 6] hs h.s3 ⟨n, 0, none⟩ 1 1 [.int .i64 3] hx rfl (World.news_of_block (cs := #[.int .i64 3]) (t := 3) (fr := (0, 0)) h.c3.1) (by simp [Value.oneCell']) (by omega) (by unfold maxLen; omega) (by omega) (Nat.zero_le _) _ rfl ?_
  intro g d w1 hown hgrow hat _
  exact hK g d w1 (h.app3 hA hown hgrow hat)
end
end Go.Proofs.Ytifllaeldcimgaa
