/-
  LedSame LedSame2: see the remarks below.
-/
import Derived.Test.YtpphoeimakjjdaaGreatDoorMLedRc
import Derived.Test.YtpphoeimakjjdaaGreatDoorMLedK
import Derived.Test.YtpphoeimakjjdaaGreatDoorMWpL
import Derived.Test.YtpphoeimakjjdaaGreatDoorMStepC
/-
  WALKS: the document's layer 11: grants, books compared; the new book.
-/
namespace Go.Proofs.YtpphoeimakjjdaaGreatDoor
open Go.RowKit

set_option maxHeartbeats 4000000 in
set_option maxRecDepth 100000 in
theorem rsameG_any {w : World} {x y : Grt} {sv tv : Value} (hx : RdN w sv x.stamp) (hy : RdN w tv y.stamp) :
    Calls Tryz.prog 52 #[aggG x sv, aggG y tv] w fun e w' => e = .returned (.bool (decide (x = y))) ∧ Mod [] w w' := by
  obtain ⟨i1, h1, p1, m1, s1, t1⟩ := x
  obtain ⟨i2, h2, p2, m2, s2, t2⟩ := y
  simp only at hx hy
  have he := fun {W : World} (g : Gr w W) => sameInts_any (hx.gr g) (hy.gr g)
  obtain ⟨q1, c1, rfl⟩ := hx.len
  obtain ⟨q2, c2, rfl⟩ := hy.len
  generalize hB : decide (s1 = s2) = B at he
  have HB := hide hB
  clear hx hy hB
  unfold aggG cellsG
  simp only
  go_enter Tryz.func52, Tryz.ntmps52
  go_wp2_with (go_at_call 53; refine (he (((Gr.refl w).alloc _).alloc _)).mono ?_; rintro e w1 ⟨rfl, hg⟩)
  all_goals
    go_ret
    refine ⟨?_, by first | exact (((Gr.refl w).alloc _).alloc _).mod [] | exact ((((Gr.refl w).alloc _).alloc _).trans hg).mod []⟩
    rw [grt_dec]
    simp only [HB.out]
    first | (simp [*]; done) | (simp [*]; rfl)
end Go.Proofs.YtpphoeimakjjdaaGreatDoor
/-
  WALKS: the document's layer 11: books compared. (Written by wip/gen_ledsame.py.)
-/
namespace Go.Proofs.YtpphoeimakjjdaaGreatDoor
open Go.RowKit Go.Shelf

def TQ (b1 b2 g1 g2 k : Nat) (s1 s2 : Value) (C1 C2 : List Value) (w : World) : Prop := w.cell? ⟨b1, 3, none⟩ = some s1 ∧ w.cell? ⟨b2, 3, none⟩ = some s2 ∧ (∀ j, j < 6 → w.cell? ⟨g1, k * 6 + j, none⟩ = some (C1.getD j undef)) ∧ (∀ j, j < 6 → w.cell? ⟨g2, k * 6 + j, none⟩ = some (C2.getD j undef))
theorem TQ.mod {b1 b2 g1 g2 k : Nat} {s1 s2 : Value} {C1 C2 : List Value} {w w' : World} (h : TQ b1 b2 g1 g2 k s1 s2 C1 C2 w) (m : Mod [] w w') : TQ b1 b2 g1 g2 k s1 s2 C1 C2 w' :=
  ⟨m.kept h.1 (by simp), m.kept h.2.1 (by simp), fun j hj => m.kept (h.2.2.1 j hj) (by simp), fun j hj => m.kept (h.2.2.2 j hj) (by simp)⟩
theorem fst_ext {l1 l2 : List (Grt × Value)} (hl : l1.length = l2.length) (h : ∀ j, j < l1.length → (l1.getD j default).1 = (l2.getD j default).1) : l1.map Prod.fst = l2.map Prod.fst := by
  refine List.ext_getElem (by simp [hl]) fun j h1 h2 => ?_
  rw [List.length_map] at h1 h2
  have := h j h1
  simp only [List.getElem_map]
  simpa [h1, h2] using this
set_option maxHeartbeats 4000000 in
set_option maxRecDepth 100000 in
theorem rsame_any {w : World} {base1 base2 n1 n2 c1 c2 : Nat} {q1 q2 : Option Addr} {a b : Bk} {l1 l2 : List (Grt × Value)} (h1 : BkM w base1 (.slice q1 n1 c1) a l1) (h2 : BkM w base2 (.slice q2 n2 c2) b l2) :
    Calls Tryz.prog 20 #[.agg #[.int .i64 a.next, .int .i64 a.boots, .int .i64 a.longest, .slice q1 n1 c1], .agg #[.int .i64 b.next, .int .i64 b.boots, .int .i64 b.longest, .slice q2 n2 c2]] w fun e w' => e = .returned (.bool (decide (a = b))) ∧ Mod [] w w' := by
  obtain ⟨q1', c1', hv1, hx1⟩ := h1.gr.shape
  obtain ⟨q2', c2', hv2, hx2⟩ := h2.gr.shape
  simp only [Value.slice.injEq] at hv1 hv2
  obtain ⟨rfl, rfl, rfl⟩ := hv1
  obtain ⟨rfl, rfl, rfl⟩ := hv2
  have hx1' : l1.length ≤ 9223372036854775807 := hx1
  have hx2' : l2.length ≤ 9223372036854775807 := hx2
  have he1 := h1.eq
  have he2 := h2.eq
  obtain ⟨x1, y1, z1, gs1⟩ := a
  obtain ⟨x2, y2, z2, gs2⟩ := b
  simp only at he1 he2 ⊢
  subst he1 he2
  obtain ⟨D, hD⟩ : ∃ D, decide ((⟨x1, y1, z1, l1.map Prod.fst⟩ : Bk) = ⟨x2, y2, z2, l2.map Prod.fst⟩) = D := ⟨_, rfl⟩
  rw [hD]
  have HD := hide hD
  clear hD
  obtain ⟨W0, hW0⟩ : ∃ W0, W0 = (w.alloc (.cells #[.int .i64 x1, .int .i64 y1, .int .i64 z1, .slice q1 l1.length c1] 34 (0, 0))).alloc (.cells #[.int .i64 x2, .int .i64 y2, .int .i64 z2, .slice q2 l2.length c2] 34 (0, 0)) := ⟨_, rfl⟩
  have hm0 : Mod [] w W0 := by rw [hW0]; exact ((Mod.refl _ _).alloc _).alloc _
  have ha0 : W0.heap[w.heap.size]? = some (.cells #[.int .i64 x1, .int .i64 y1, .int .i64 z1, .slice q1 l1.length c1] 34 (0, 0)) := by rw [hW0]; exact blk_alloc (heap_alloc_new w _) _
  have hb0 : W0.heap[w.heap.size + 1]? = some (.cells #[.int .i64 x2, .int .i64 y2, .int .i64 z2, .slice q2 l2.length c2] 34 (0, 0)) := by
    rw [hW0]
    have := heap_alloc_new (w.alloc (.cells #[.int .i64 x1, .int .i64 y1, .int .i64 z1, .slice q1 l1.length c1] 34 (0, 0))) (.cells #[.int .i64 x2, .int .i64 y2, .int .i64 z2, .slice q2 l2.length c2] 34 (0, 0))
    simpa using this
  have A0 := blk_cell ha0
  have B0 := blk_cell hb0
  have HB := hide (And.intro ha0 (And.intro hb0 hm0))
  have HG := hide (And.intro (h1.gr.mod hm0 (by simp)) (h2.gr.mod hm0 (by simp)))
  clear h1 h2 ha0 hb0 hm0 hx1 hx2
  have hways : (x1 ≠ x2) ∨ (x1 = x2 ∧ y1 ≠ y2) ∨ (x1 = x2 ∧ y1 = y2 ∧ z1 ≠ z2) ∨ (x1 = x2 ∧ y1 = y2 ∧ z1 = z2 ∧ l1.length ≠ l2.length) ∨ (x1 = x2 ∧ y1 = y2 ∧ z1 = z2 ∧ l1.length = l2.length) := by
    by_cases e1 : x1 = x2 <;> by_cases e2 : y1 = y2 <;> by_cases e3 : z1 = z2 <;> by_cases e4 : l1.length = l2.length <;> simp [e1, e2, e3, e4]
  rcases hways with e1 | ⟨e1, e2⟩ | ⟨e1, e2, e3⟩ | ⟨e1, e2, e3, e4⟩ | ⟨e1, e2, e3, e4⟩
  · have HF : Hid (D = false) := hide (by rw [← HD.out]; simp [e1])
    have e1' : (x1 != x2) = true := by simpa using e1
    clear e1
    go_enter Tryz.func20, Tryz.ntmps20
    go_upto_region 1 with fail
    rw [← hW0]
    clear hW0
    go_wp2_with fail
    go_ret
    exact ⟨by rw [HF.out]; rfl, HB.out.2.2⟩
  · have HF : Hid (D = false) := hide (by rw [← HD.out]; simp [e2])
    have e1' : (x1 != x2) = false := by simpa using e1
    have e2' : (y1 != y2) = true := by simpa using e2
    clear e1 e2
    go_enter Tryz.func20, Tryz.ntmps20
    go_upto_region 1 with fail
    rw [← hW0]
    clear hW0
    go_wp2_with fail
    go_ret
    exact ⟨by rw [HF.out]; rfl, HB.out.2.2⟩
  · have HF : Hid (D = false) := hide (by rw [← HD.out]; simp [e3])
    have e1' : (x1 != x2) = false := by simpa using e1
    have e2' : (y1 != y2) = false := by simpa using e2
    have e3' : (z1 != z2) = true := by simpa using e3
    clear e1 e2 e3
    go_enter Tryz.func20, Tryz.ntmps20
    go_upto_region 1 with fail
    rw [← hW0]
    clear hW0
    go_wp2_with fail
    go_ret
    exact ⟨by rw [HF.out]; rfl, HB.out.2.2⟩
  · have HF : Hid (D = false) := hide (by
      rw [← HD.out, decide_eq_false]
      intro e
      simp only [Bk.mk.injEq] at e
      have := congrArg List.length e.2.2.2
      simp at this
      exact e4 this)
    have e1' : (x1 != x2) = false := by simpa using e1
    have e2' : (y1 != y2) = false := by simpa using e2
    have e3' : (z1 != z2) = false := by simpa using e3
    have e4' : ((l1.length : Int) != (l2.length : Int)) = true := by rw [bne_iff_ne]; omega
    clear e1 e2 e3 e4
    go_enter Tryz.func20, Tryz.ntmps20
    go_upto_region 1 with fail
    rw [← hW0]
    clear hW0
    go_wp2_with fail
    go_ret
    exact ⟨by rw [HF.out]; rfl, HB.out.2.2⟩
  · subst e1 e2 e3
    obtain ⟨n2, hn2⟩ : ∃ n, l2.length = n := ⟨_, rfl⟩
    rw [hn2] at hW0 B0 HB HG hx2' e4 ⊢
    subst e4
    have b1 : (x1 != x1) = false := by simp
    have b2 : (y1 != y1) = false := by simp
    have b3 : (z1 != z1) = false := by simp
    have b4 : ((l1.length : Int) != (l1.length : Int)) = false := by simp
    have HN := hide hn2
    clear hn2
    go_enter Tryz.func20, Tryz.ntmps20
    go_upto_region 1 with fail
    rw [← hW0]
    clear hW0
    go_upto_region 4 with fail
    clear A0 B0
    go_loopw [5] (fun i wr => ∃ k : Nat, i = .int .i64 (k : Int) ∧ k ≤ l1.length ∧ Hid (∀ j, j < k → (l1.getD j default).1 = (l2.getD j default).1) ∧ Mod [] W0 wr) (fun i _ => l1.length - (intOf i).toNat)
    case atStart => exact ⟨0, rfl, Nat.zero_le _, hide (fun j hj => absurd hj (by omega)), Mod.refl _ _⟩
    case round =>
      obtain ⟨k, rfl, hk, HK, hm⟩ := hrel
      have A1 := blk_cell (hm.at_ HB.out.1 (by simp))
      have B1 := blk_cell (hm.at_ HB.out.2.1 (by simp))
      by_cases hlt : k < l1.length
      · have hki : (k : Int) < (l1.length : Int) := by omega
        have hk0 : (0 : Int) ≤ (k : Int) := by omega
        obtain ⟨gb1, rfl, hgb1, -, hc1, -, hrd1⟩ := (HG.out.1.mod hm (by simp)).at_ k hlt
        obtain ⟨gb2, rfl, hgb2, -, hc2, -, hrd2⟩ := (HG.out.2.mod hm (by simp)).at_ k (by rw [HN.out]; exact hlt)
        obtain ⟨pr1, hp1⟩ : ∃ p, l1.getD k default = p := ⟨_, rfl⟩
        obtain ⟨pr2, hp2⟩ : ∃ p, l2.getD k default = p := ⟨_, rfl⟩
        rw [hp1] at hc1 hrd1
        rw [hp2] at hc2 hrd2
        obtain ⟨⟨i1, h1, p1, m1, s1, t1⟩, sv1⟩ := pr1
        obtain ⟨⟨i2, h2, p2, m2, s2, t2⟩, sv2⟩ := pr2
        simp only at hrd1 hrd2
        obtain ⟨sq1, sc1, hs1⟩ := hrd1.len
        obtain ⟨sq2, sc2, hs2⟩ := hrd2.len
        obtain ⟨sn1, hn1⟩ : ∃ n, s1.length = n := ⟨_, rfl⟩
        obtain ⟨sn2, hn2⟩ : ∃ n, s2.length = n := ⟨_, rfl⟩
        rw [hn1] at hs1
        rw [hn2] at hs2
        subst hs1 hs2
        have hsg := rsameG_any (w := wr.drew) (x := ⟨i1, h1, p1, m1, s1, t1⟩) (y := ⟨i2, h2, p2, m2, s2, t2⟩) (hrd1.mod (Mod.refl [] wr).drew (by simp)) (hrd2.mod (Mod.refl [] wr).drew (by simp))
        obtain ⟨E, hE⟩ : ∃ E, decide ((⟨i1, h1, p1, m1, s1, t1⟩ : Grt) = ⟨i2, h2, p2, m2, s2, t2⟩) = E := ⟨_, rfl⟩
        have HDE := hide hE
        have hTQ : TQ w.heap.size (w.heap.size + 1) gb1 gb2 k (.slice (some ⟨gb1, 0, none⟩) l1.length c1) (.slice (some ⟨gb2, 0, none⟩) l1.length c2) [.int .i64 i1, .int .i64 h1, .string p1, .int .i64 m1, .slice sq1 sn1 sc1, .int .i64 t1] [.int .i64 i2, .int .i64 h2, .string p2, .int .i64 m2, .slice sq2 sn2 sc2, .int .i64 t2] wr.drew := by
          refine ⟨A1 3, B1 3, fun j hj => ?_, fun j hj => ?_⟩
          · have := hc1 j hj
            match j, hj with
            | 0, _ => exact this
            | 1, _ => exact this
            | 2, _ => exact this
            | 3, _ => exact this
            | 4, _ => exact this
            | 5, _ => exact this
          · have := hc2 j hj
            match j, hj with
            | 0, _ => exact this
            | 1, _ => exact this
            | 2, _ => exact this
            | 3, _ => exact this
            | 4, _ => exact this
            | 5, _ => exact this
        have HP := hide (And.intro hp1 (And.intro hp2 hm))
        clear hc1 hc2 hrd1 hrd2 hn1 hn2 hp1 hp2 hm hE
        go_upto_region 6 with fail
        clear A1 B1
        refine wpL_start (s := 11) (T := TQ w.heap.size (w.heap.size + 1) gb1 gb2 k (.slice (some ⟨gb1, 0, none⟩) l1.length c1) (.slice (some ⟨gb2, 0, none⟩) l1.length c2) [.int .i64 i1, .int .i64 h1, .string p1, .int .i64 m1, .slice sq1 sn1 sc1, .int .i64 t1] [.int .i64 i2, .int .i64 h2, .string p2, .int .i64 m2, .slice sq2 sn2 sc2, .int .i64 t2]) (by kernel_rfl) (fun hc => ?_)
        have hT : TQ w.heap.size (w.heap.size + 1) gb1 gb2 k (.slice (some ⟨gb1, 0, none⟩) l1.length c1) (.slice (some ⟨gb2, 0, none⟩) l1.length c2) [.int .i64 i1, .int .i64 h1, .string p1, .int .i64 m1, .slice sq1 sn1 sc1, .int .i64 t1] [.int .i64 i2, .int .i64 h2, .string p2, .int .i64 m2, .slice sq2 sn2 sc2, .int .i64 t2] wr.drew := hTQ
        refine wpL_pure (i := 0) (oi := { dst := some 41, op := Op.fieldAddr 34 (Operand.tmp 2) 3, type := 0, pos := "ref.go:79", after := #[], guard := none }) (v := ?_) rfl (by kernel_rfl) (by kernel_rfl) (by kernel_rfl) (fun _ _ _ h => h) (by decide) hc (Or.inl ⟨by rfl, ?_⟩) (fun _ => hT) (fun hc2 => ?_)
        rotate_left
        · (intro w _; go_simp; try with_reducible rfl)
        clear hc; have hc := hc2; clear hc2
        try simp only [Act.put, List.setIfInBounds_toArray, List.set_cons_zero, List.set_cons_succ]
        refine wpL_take (T' := TQ w.heap.size (w.heap.size + 1) gb1 gb2 k (.slice (some ⟨gb1, 0, none⟩) l1.length c1) (.slice (some ⟨gb2, 0, none⟩) l1.length c2) [.int .i64 i1, .int .i64 h1, .string p1, .int .i64 m1, .slice sq1 sn1 sc1, .int .i64 t1] [.int .i64 i2, .int .i64 h2, .string p2, .int .i64 m2, .slice sq2 sn2 sc2, .int .i64 t2]) (i := 1) (oi := { dst := some 42, op := Op.load 32 (Operand.tmp 41), type := 32, pos := "ref.go:79", after := #[gD 0], guard := none }) (v := ?_) rfl (by kernel_rfl) (by kernel_rfl) (by kernel_rfl) (fun _ _ _ h => h) (by decide) (fun l2 w hc3 hu hs => hs (by
          cases hS : l2.getD 11 false with
          | false => exact getD_in (by rw [hc3.size]; decide) hS
          | true =>
            have a0 := hc3.step (k := 10) (by kernel_rfl) hS
            have a1 := hc3.step (k := 4) (by kernel_rfl) a0
            have a2 := hc3.step (k := 3) (by kernel_rfl) a1
            have a3 := hc3.step (k := 1) (by kernel_rfl) a2
            rw [getD_tf hu] at a3
            cases a3)) hc (Or.inl ⟨by rfl, ?_⟩) (fun _ => hT) (fun hc2 => ?_)
        rotate_left
        · (intro w hSw; have A := hSw.1; have B := hSw.2.1; go_simp; try with_reducible rfl)
        clear hc; have hc := hc2; clear hc2
        try simp only [Act.put, List.setIfInBounds_toArray, List.set_cons_zero, List.set_cons_succ]
        refine wpL_pure (i := 2) (oi := { dst := some 43, op := Op.move (Operand.tmp 5), type := 3, pos := "ref.go:79", after := #[], guard := none }) (v := ?_) rfl (by kernel_rfl) (by kernel_rfl) (by kernel_rfl) (fun _ _ _ h => h) (by decide) hc (Or.inl ⟨by rfl, ?_⟩) (fun _ => hT) (fun hc2 => ?_)
        rotate_left
        · (intro w _; go_simp; try with_reducible rfl)
        clear hc; have hc := hc2; clear hc2
        try simp only [Act.put, List.setIfInBounds_toArray, List.set_cons_zero, List.set_cons_succ]
        refine wpL_pure (i := 3) (oi := { dst := some 44, op := Op.indexAddr 32 (Operand.tmp 42) (Operand.tmp 43), type := 0, pos := "ref.go:79", after := #[gD 1, gD 2], guard := none }) (v := ?_) rfl (by kernel_rfl) (by kernel_rfl) (by kernel_rfl) (fun _ _ _ h => h) (by decide) hc (Or.inl ⟨by rfl, ?_⟩) (fun _ => hT) (fun hc2 => ?_)
        rotate_left
        · (intro w _; go_simp; try with_reducible rfl)
        clear hc; have hc := hc2; clear hc2
        try simp only [Act.put, List.setIfInBounds_toArray, List.set_cons_zero, List.set_cons_succ]
        refine wpL_take (T' := TQ w.heap.size (w.heap.size + 1) gb1 gb2 k (.slice (some ⟨gb1, 0, none⟩) l1.length c1) (.slice (some ⟨gb2, 0, none⟩) l1.length c2) [.int .i64 i1, .int .i64 h1, .string p1, .int .i64 m1, .slice sq1 sn1 sc1, .int .i64 t1] [.int .i64 i2, .int .i64 h2, .string p2, .int .i64 m2, .slice sq2 sn2 sc2, .int .i64 t2]) (i := 4) (oi := { dst := some 45, op := Op.load 40 (Operand.tmp 44), type := 40, pos := "ref.go:79", after := #[gD 3], guard := none }) (v := ?_) rfl (by kernel_rfl) (by kernel_rfl) (by kernel_rfl) (fun _ _ _ h => h) (by decide) (fun l2 w hc3 hu hs => hs (by
          cases hS : l2.getD 11 false with
          | false => exact getD_in (by rw [hc3.size]; decide) hS
          | true =>
            have a0 := hc3.step (k := 10) (by kernel_rfl) hS
            have a1 := hc3.step (k := 4) (by kernel_rfl) a0
            rw [getD_tf hu] at a1
            cases a1)) hc (Or.inl ⟨by rfl, ?_⟩) (fun _ => hT) (fun hc2 => ?_)
        rotate_left
        · (intro w hSw; have A := hSw.1; have B := hSw.2.1; have c0 := hSw.2.2.1 0 (by decide); have c1 := hSw.2.2.1 1 (by decide); have c2 := hSw.2.2.1 2 (by decide); have c3 := hSw.2.2.1 3 (by decide); have c4 := hSw.2.2.1 4 (by decide); have c5 := hSw.2.2.1 5 (by decide); have d0 := hSw.2.2.2 0 (by decide); have d1 := hSw.2.2.2 1 (by decide); have d2 := hSw.2.2.2 2 (by decide); have d3 := hSw.2.2.2 3 (by decide); have d4 := hSw.2.2.2 4 (by decide); have d5 := hSw.2.2.2 5 (by decide); simp at c0 c1 c2 c3 c4 c5 d0 d1 d2 d3 d4 d5; go_simp; try with_reducible rfl)
        clear hc; have hc := hc2; clear hc2
        try simp only [Act.put, List.setIfInBounds_toArray, List.set_cons_zero, List.set_cons_succ]
        refine wpL_pure (i := 5) (oi := { dst := some 46, op := Op.fieldAddr 34 (Operand.tmp 3) 3, type := 0, pos := "ref.go:79", after := #[], guard := none }) (v := ?_) rfl (by kernel_rfl) (by kernel_rfl) (by kernel_rfl) (fun _ _ _ h => h) (by decide) hc (Or.inl ⟨by rfl, ?_⟩) (fun _ => hT) (fun hc2 => ?_)
        rotate_left
        · (intro w _; go_simp; try with_reducible rfl)
        clear hc; have hc := hc2; clear hc2
        try simp only [Act.put, List.setIfInBounds_toArray, List.set_cons_zero, List.set_cons_succ]
        refine wpL_take (T' := TQ w.heap.size (w.heap.size + 1) gb1 gb2 k (.slice (some ⟨gb1, 0, none⟩) l1.length c1) (.slice (some ⟨gb2, 0, none⟩) l1.length c2) [.int .i64 i1, .int .i64 h1, .string p1, .int .i64 m1, .slice sq1 sn1 sc1, .int .i64 t1] [.int .i64 i2, .int .i64 h2, .string p2, .int .i64 m2, .slice sq2 sn2 sc2, .int .i64 t2]) (i := 6) (oi := { dst := some 47, op := Op.load 32 (Operand.tmp 46), type := 32, pos := "ref.go:79", after := #[gD 5], guard := none }) (v := ?_) rfl (by kernel_rfl) (by kernel_rfl) (by kernel_rfl) (fun _ _ _ h => h) (by decide) (fun l2 w hc3 hu hs => hs (by
          cases hS : l2.getD 11 false with
          | false => exact getD_in (by rw [hc3.size]; decide) hS
          | true =>
            have a0 := hc3.step (k := 10) (by kernel_rfl) hS
            have a1 := hc3.step (k := 9) (by kernel_rfl) a0
            have a2 := hc3.step (k := 8) (by kernel_rfl) a1
            have a3 := hc3.step (k := 6) (by kernel_rfl) a2
            rw [getD_tf hu] at a3
            cases a3)) hc (Or.inl ⟨by rfl, ?_⟩) (fun _ => hT) (fun hc2 => ?_)
        rotate_left
        · (intro w hSw; have A := hSw.1; have B := hSw.2.1; go_simp; try with_reducible rfl)
        clear hc; have hc := hc2; clear hc2
        try simp only [Act.put, List.setIfInBounds_toArray, List.set_cons_zero, List.set_cons_succ]
        refine wpL_pure (i := 7) (oi := { dst := some 48, op := Op.move (Operand.tmp 5), type := 3, pos := "ref.go:79", after := #[], guard := none }) (v := ?_) rfl (by kernel_rfl) (by kernel_rfl) (by kernel_rfl) (fun _ _ _ h => h) (by decide) hc (Or.inl ⟨by rfl, ?_⟩) (fun _ => hT) (fun hc2 => ?_)
        rotate_left
        · (intro w _; go_simp; try with_reducible rfl)
        clear hc; have hc := hc2; clear hc2
        try simp only [Act.put, List.setIfInBounds_toArray, List.set_cons_zero, List.set_cons_succ]
        refine wpL_pure (i := 8) (oi := { dst := some 49, op := Op.indexAddr 32 (Operand.tmp 47) (Operand.tmp 48), type := 0, pos := "ref.go:79", after := #[gD 6, gD 7], guard := none }) (v := ?_) rfl (by kernel_rfl) (by kernel_rfl) (by kernel_rfl) (fun _ _ _ h => h) (by decide) hc (Or.inl ⟨by rfl, ?_⟩) (fun _ => hT) (fun hc2 => ?_)
        rotate_left
        · (intro w _; go_simp; try with_reducible rfl)
        clear hc; have hc := hc2; clear hc2
        try simp only [Act.put, List.setIfInBounds_toArray, List.set_cons_zero, List.set_cons_succ]
        refine wpL_take (T' := TQ w.heap.size (w.heap.size + 1) gb1 gb2 k (.slice (some ⟨gb1, 0, none⟩) l1.length c1) (.slice (some ⟨gb2, 0, none⟩) l1.length c2) [.int .i64 i1, .int .i64 h1, .string p1, .int .i64 m1, .slice sq1 sn1 sc1, .int .i64 t1] [.int .i64 i2, .int .i64 h2, .string p2, .int .i64 m2, .slice sq2 sn2 sc2, .int .i64 t2]) (i := 9) (oi := { dst := some 50, op := Op.load 40 (Operand.tmp 49), type := 40, pos := "ref.go:79", after := #[gD 8], guard := none }) (v := ?_) rfl (by kernel_rfl) (by kernel_rfl) (by kernel_rfl) (fun _ _ _ h => h) (by decide) (fun l2 w hc3 hu hs => hs (by
          cases hS : l2.getD 11 false with
          | false => exact getD_in (by rw [hc3.size]; decide) hS
          | true =>
            have a0 := hc3.step (k := 10) (by kernel_rfl) hS
            have a1 := hc3.step (k := 9) (by kernel_rfl) a0
            rw [getD_tf hu] at a1
            cases a1)) hc (Or.inl ⟨by rfl, ?_⟩) (fun _ => hT) (fun hc2 => ?_)
        rotate_left
        · (intro w hSw; have A := hSw.1; have B := hSw.2.1; have c0 := hSw.2.2.1 0 (by decide); have c1 := hSw.2.2.1 1 (by decide); have c2 := hSw.2.2.1 2 (by decide); have c3 := hSw.2.2.1 3 (by decide); have c4 := hSw.2.2.1 4 (by decide); have c5 := hSw.2.2.1 5 (by decide); have d0 := hSw.2.2.2 0 (by decide); have d1 := hSw.2.2.2 1 (by decide); have d2 := hSw.2.2.2 2 (by decide); have d3 := hSw.2.2.2 3 (by decide); have d4 := hSw.2.2.2 4 (by decide); have d5 := hSw.2.2.2 5 (by decide); simp at c0 c1 c2 c3 c4 c5 d0 d1 d2 d3 d4 d5; go_simp; try with_reducible rfl)
        clear hc; have hc := hc2; clear hc2
        try simp only [Act.put, List.setIfInBounds_toArray, List.set_cons_zero, List.set_cons_succ]
        refine wpL_ready (rs := [10]) (by kernel_rfl) (by simp) ?_ hc
        intro i hi hc2
        simp only [List.mem_cons, List.mem_nil_iff, or_false] at hi
        subst hi
        clear hc; have hc := hc2; clear hc2
        refine wpOp_step (o := { dst := some 51, op := Op.call { callee := Callee.value (Operand.func 52), args := #[Operand.tmp 45, Operand.tmp 50], argTypes := #[40, 40] }, type := 4, pos := "ref.go:79", after := #[gD 4, gD 9], guard := none }) rfl (fun K hK => ?_)
        have HK := hide hK
        clear hK
        refine step_call rfl 52 #[.tmp 45, .tmp 50] #[40, 40] rfl (enters_of Tryz.func52 (by kernel_rfl) rfl) #[aggG ⟨i1, h1, p1, m1, s1, t1⟩ (.slice sq1 sn1 sc1), aggG ⟨i2, h2, p2, m2, s2, t2⟩ (.slice sq2 sn2 sc2)] (by simp [Act.eval, aggG, cellsG]) ?_
        refine hsg.mono ?_
        rintro e w3 ⟨rfl, hm3⟩
        refine ⟨_, rfl, ?_⟩
        rw [HDE.out]
        have hT2 : TQ w.heap.size (w.heap.size + 1) gb1 gb2 k (.slice (some ⟨gb1, 0, none⟩) l1.length c1) (.slice (some ⟨gb2, 0, none⟩) l1.length c2) [.int .i64 i1, .int .i64 h1, .string p1, .int .i64 m1, .slice sq1 sn1 sc1, .int .i64 t1] [.int .i64 i2, .int .i64 h2, .string p2, .int .i64 m2, .slice sq2 sn2 sc2, .int .i64 t2] w3 := hT.mod hm3
        have H3 := hide hm3
        clear hm3
        refine HK.out _ _ ⟨fun _ => hT2, ?_⟩
        clear HK K hT
        have hT := hT2
        clear hT2
        try simp only [Act.put, List.setIfInBounds_toArray, List.set_cons_zero, List.set_cons_succ]
        refine wpL_ready (rs := [11]) (by kernel_rfl) (by simp) ?_ hc
        intro i hi hc2
        simp only [List.mem_cons, List.mem_nil_iff, or_false] at hi
        subst hi
        clear hc; have hc := hc2; clear hc2
        refine wpOp_step (o := { dst := some 52, op := Op.unOp UnOp.not 4 (Operand.tmp 51), type := 4, pos := "ref.go:79", after := #[gD 10], guard := none }) rfl (fun K hK => ?_)
        have HK := hide hK
        clear hK
        go_simp
        refine HK.out _ _ ⟨fun h => by simp at h, ?_⟩
        clear HK K hT
        have hT := hc.size
        try simp only [Act.put, List.setIfInBounds_toArray, List.set_cons_zero, List.set_cons_succ]
        refine wpL_done (by kernel_rfl) ?_
        clear hT hc
        cases E with
        | true =>
          go_wp2_with fail
          go_roundw
          case rel =>
            refine ⟨k + 1, by go_num, by omega, hide (fun j hj => ?_), HP.out.2.2.drew.then H3.out⟩
            by_cases e : j = k
            · subst e
              rw [HP.out.1, HP.out.2.1]
              exact of_decide_eq_true HDE.out
            · exact HK.out j (by omega)
          case measure => simp [intOf]; omega
        | false =>
          have HF : Hid (D = false) := hide (by
            rw [← HD.out, decide_eq_false]
            intro e
            simp only [Bk.mk.injEq] at e
            have e3 := e.2.2.2
            have hkk : (l1.map Prod.fst).getD k default = (l2.map Prod.fst).getD k default := by rw [e3]
            have h2l : k < l2.length := by rw [HN.out]; exact hlt
            have a1 : (l1.map Prod.fst).getD k default = (l1.getD k default).1 := by simp [hlt]
            have a2 : (l2.map Prod.fst).getD k default = (l2.getD k default).1 := by simp [h2l]
            rw [a1, a2, HP.out.1, HP.out.2.1] at hkk
            exact of_decide_eq_false HDE.out hkk)
          go_wp2_with fail
          go_ret
          exact ⟨by rw [HF.out]; rfl, HB.out.2.2.then (HP.out.2.2.drew.then H3.out)⟩
      · obtain rfl : k = l1.length := by omega
        have HF : Hid (D = true) := hide (by
          rw [← HD.out, decide_eq_true]
          rw [fst_ext HN.out.symm HK.out])
        have HM := hide hm
        clear hm
        go_wp2_with fail
        go_ret
        exact ⟨by rw [HF.out]; rfl, HB.out.2.2.then HM.out⟩
end Go.Proofs.YtpphoeimakjjdaaGreatDoor
