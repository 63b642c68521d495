/-
  LedRf9 LedSame2 LedRf11: see the remarks below.
-/
import Derived.Test.YtpphoeimakjjdaaGreatDoorMWc
import Derived.Test.YtpphoeimakjjdaaGreatDoorMLedRf10
import Derived.Test.YtpphoeimakjjdaaGreatDoorMLedMay
import Derived.Test.YtpphoeimakjjdaaGreatDoorMStepC
import Derived.Test.YtpphoeimakjjdaaGreatDoorMCtr
import Derived.Test.YtpphoeimakjjdaaGreatDoorMBookA
/-
  WALKS: the document's layer 11: may a record be?
-/
namespace Go.Proofs.YtpphoeimakjjdaaGreatDoor
open Go.RowKit

theorem rused_any {w : World} {r : Rcd} {p1 p2 : Option Addr} {n1 n2 c1 c2 : Nat} (hs : RdN w (.slice p1 n1 c1) r.grant.stamp) (ht : RdN w (.slice p2 n2 c2) r.stamp) :
    Calls Tryz.prog 130 #[aggR r (.slice p1 n1 c1) (.slice p2 n2 c2)] w fun e w' => UsedTo w r e w' := by
  by_cases h1 : r.kind = 1
  · exact used1_any hs ht h1
  by_cases h2 : r.kind = 2
  · exact used2_any hs ht h2
  by_cases h3 : r.kind = 3
  · exact used3_any hs ht h3
  by_cases h4 : r.kind = 4
  · exact used4_any hs ht h4
  by_cases h5 : r.kind = 5
  · exact used5_any hs ht h5
  by_cases h6 : r.kind = 6
  · exact used6_any hs ht h6
  exact used0_any ⟨h1, h2, h3, h4, h5, h6⟩
structure TL0 (w0 w : World) : Prop where
  md : Mod [] w0 w
theorem tl0_of {B : Nat} {w0 w' : World} {T : TypeId} {v0 v1 v2 v3 v4 v5 v6 v7 v8 v9 v10 v11 : Value} (hb : w0.heap[B]? = some (.cells #[v0, v1, v2, v3, v4, v5, v6, v7, v8, v9, v10, v11] T (0, 0))) (m : Mod [] w0 w') :
    TL0 w0 w' ∧ w'.cell? ⟨B, 0, none⟩ = some v0 ∧ w'.cell? ⟨B, 1, none⟩ = some v1 ∧ w'.cell? ⟨B, 2, none⟩ = some v2 ∧ w'.cell? ⟨B, 3, none⟩ = some v3 ∧ w'.cell? ⟨B, 4, none⟩ = some v4 ∧ w'.cell? ⟨B, 5, none⟩ = some v5 ∧ w'.cell? ⟨B, 6, none⟩ = some v6 ∧ w'.cell? ⟨B, 7, none⟩ = some v7 ∧ w'.cell? ⟨B, 8, none⟩ = some v8 ∧ w'.cell? ⟨B, 9, none⟩ = some v9 ∧ w'.cell? ⟨B, 10, none⟩ = some v10 ∧ w'.cell? ⟨B, 11, none⟩ = some v11 :=
  have k := blk_cell (m.at_ hb (by simp))
  ⟨⟨m⟩, k 0, k 1, k 2, k 3, k 4, k 5, k 6, k 7, k 8, k 9, k 10, k 11⟩
set_option maxHeartbeats 4000000 in
set_option maxRecDepth 100000 in
set_option linter.unusedSimpArgs false in
theorem rrec_any {w : World} {r : Rcd} {p1 p2 : Option Addr} {n1 n2 c1 c2 : Nat} (hs : RdN w (.slice p1 n1 c1) r.grant.stamp) (ht : RdN w (.slice p2 n2 c2) r.stamp) (hp : r.grant.path.size ≤ 9223372036854775806) :
    Calls Tryz.prog 89 #[aggR r (.slice p1 n1 c1) (.slice p2 n2 c2)] w fun e w' => e = .returned (.bool (mayB r)) ∧ Mod [] w w' := by
  obtain ⟨R, hR⟩ : ∃ R, mayB r = R := ⟨_, rfl⟩
  rw [hR]
  rw [may_used] at hR
  obtain ⟨kd, ⟨gi, gh, gp, gm, gs, gt⟩, ri, rs, rn, rb, rl⟩ := r
  simp only at hs ht hp
  obtain ⟨V, hV⟩ : ∃ V : Array Value, V = #[.int .i64 kd, .int .i64 gi, .int .i64 gh, .string gp, .int .i64 gm, .slice p1 n1 c1, .int .i64 gt, .int .i64 ri, .slice p2 n2 c2, .int .i64 rn, .int .i64 rb, .int .i64 rl] := ⟨_, rfl⟩
  obtain ⟨W1, hW1⟩ : ∃ W1, W1 = w.alloc (.cells V 42 (0, 0)) := ⟨_, rfl⟩
  have hb1 : W1.heap[w.heap.size]? = some (.cells V 42 (0, 0)) := by rw [hW1]; exact heap_alloc_new w _
  have hm1 : Mod [] w W1 := by rw [hW1]; exact (Mod.refl _ _).alloc _
  rw [hV] at hb1 hW1
  clear hV V
  obtain ⟨U, hU⟩ : ∃ U, usedR ⟨kd, ⟨gi, gh, gp, gm, gs, gt⟩, ri, rs, rn, rb, rl⟩ = U := ⟨_, rfl⟩
  obtain ⟨D, hD⟩ : ∃ D, decide (U = ⟨kd, ⟨gi, gh, gp, gm, gs, gt⟩, ri, rs, rn, rb, rl⟩) = D := ⟨_, rfl⟩
  have hu := fun (W : World) (m : Mod [] W1 W) => rused_any (r := ⟨kd, ⟨gi, gh, gp, gm, gs, gt⟩, ri, rs, rn, rb, rl⟩) (hs.mod (hm1.then m) (by simp)) (ht.mod (hm1.then m) (by simp))
  unfold UsedTo at hu
  rw [hU] at hu
  have hsr : ∀ {W : World} {sv tv : Value}, RdN W sv U.grant.stamp → RdN W tv U.stamp → Mod [] W1 W → Calls Tryz.prog 17 #[aggR U sv tv, aggR ⟨kd, ⟨gi, gh, gp, gm, gs, gt⟩, ri, rs, rn, rb, rl⟩ (.slice p1 n1 c1) (.slice p2 n2 c2)] W fun e w' => e = .returned (.bool D) ∧ Mod [] W w' := fun h1 h2 m => by
    have := rsameRec_any (y := ⟨kd, ⟨gi, gh, gp, gm, gs, gt⟩, ri, rs, rn, rb, rl⟩) h1 h2 (hs.mod (hm1.then m) (by simp)) (ht.mod (hm1.then m) (by simp))
    rw [hD] at this
    exact this
  have hg := fun (W : World) (m : Mod [] W1 W) => rgrant_any (g := ⟨gi, gh, gp, gm, gs, gt⟩) (hs.mod (hm1.then m) (by simp)) hp
  have hl := fun (W : World) (m : Mod [] W1 W) => rlast_any (hs.mod (hm1.then m) (by simp))
  have hv := fun (W : World) (m : Mod [] W1 W) => rsvalid_any (ht.mod (hm1.then m) (by simp))
  have hc := fun (W : World) => rcounter_any ri W
  have hlen : rs.length = n2 := by obtain ⟨_, _, e⟩ := ht.len; cases e; rfl
  rw [hU, hD] at hR
  clear hU hD
  unfold aggG cellsG at hg
  unfold aggR cellsR at hu hsr ⊢
  simp only at hg hu hsr ⊢
  obtain ⟨L, hL⟩ : ∃ L, lastI gs = L := ⟨_, rfl⟩
  obtain ⟨G, hG⟩ : ∃ G, grantB ⟨gi, gh, gp, gm, gs, gt⟩ = G := ⟨_, rfl⟩
  obtain ⟨S, hS⟩ : ∃ S, decide (stampOk rs) = S := ⟨_, rfl⟩
  obtain ⟨N, hN⟩ : ∃ N, decide (countOk ri) = N := ⟨_, rfl⟩
  rw [hG] at hg
  rw [hL] at hl
  rw [hS] at hv
  rw [hN] at hc
  have HG := hide (And.intro hG (And.intro hL (And.intro hS (And.intro hN hlen))))
  have HB := hide (And.intro hb1 hm1)
  have HR := hide hR
  have B1 := blk_cell hb1
  clear hs ht hp hb1 hm1 hR hG hL hS hN hlen
  go_enter Tryz.func89, Tryz.ntmps89
  go_upto_region 1 with fail
  rw [← hW1]
  clear hW1
  go_region_held3 (fun w' => TL0 W1 w' ∧ w'.cell? ⟨w.heap.size, 0, none⟩ = some (.int .i64 kd) ∧ w'.cell? ⟨w.heap.size, 1, none⟩ = some (.int .i64 gi) ∧ w'.cell? ⟨w.heap.size, 2, none⟩ = some (.int .i64 gh) ∧ w'.cell? ⟨w.heap.size, 3, none⟩ = some (.string gp) ∧ w'.cell? ⟨w.heap.size, 4, none⟩ = some (.int .i64 gm) ∧ w'.cell? ⟨w.heap.size, 5, none⟩ = some (.slice p1 n1 c1) ∧ w'.cell? ⟨w.heap.size, 6, none⟩ = some (.int .i64 gt) ∧ w'.cell? ⟨w.heap.size, 7, none⟩ = some (.int .i64 ri) ∧ w'.cell? ⟨w.heap.size, 8, none⟩ = some (.slice p2 n2 c2) ∧ w'.cell? ⟨w.heap.size, 9, none⟩ = some (.int .i64 rn) ∧ w'.cell? ⟨w.heap.size, 10, none⟩ = some (.int .i64 rb) ∧ w'.cell? ⟨w.heap.size, 11, none⟩ = some (.int .i64 rl))
    (first | (exact tl0_of HB.out.1 ((Mod.refl [] W1).drew)) | (go_split_ands; exact tl0_of HB.out.1 (Mod.then (TL0.md (by assumption)) hmX)))
    (first
      | (go_at_call 130; go_split_ands; refine (hu _ (by first | exact TL0.md (by assumption) | exact (Mod.refl [] W1).drew)).mono ?_; rintro e x5 ⟨sv, tv, rfl, hr1, hr2, hmX⟩)
      | (go_at_call 17; go_split_ands; refine (hsr hr1 hr2 (TL0.md (by assumption))).mono ?_; rintro e x6 ⟨rfl, hmX⟩)
      | fail)
  go_split_ands
  have hTL : Mod [] W1 x6 := TL0.md (by assumption)
  have HT := hide hTL
  clear hmX hr1 hr2 hu hsr
  repeat (first | (clear ‹TL0 _ _›) | (clear ‹World.cell? _ _ = _›))
  have C1 := blk_cell (hTL.at_ HB.out.1 (by simp))
  clear hTL B1
  cases D with
  | false =>
    go_wp2_with fail
    go_ret
    exact ⟨by rw [← HR.out]; rfl, HB.out.2.then HT.out⟩
  | true =>
    have hk : kd = 1 ∨ kd = 2 ∨ kd = 3 ∨ kd = 4 ∨ kd = 5 ∨ kd = 6 ∨ kd = 7 ∨ (kd ≠ 1 ∧ kd ≠ 2 ∧ kd ≠ 3 ∧ kd ≠ 4 ∧ kd ≠ 5 ∧ kd ≠ 6 ∧ kd ≠ 7) := by omega
    rcases hk with rfl | rfl | rfl | rfl | rfl | rfl | rfl | hk
    · by_cases h1 : 1 ≤ rn
      · by_cases h2 : rn ≤ 1099511627777
        · by_cases h3 : 0 ≤ rb
          · by_cases h4 : rb ≤ 1099511627776
            all_goals
              go_wp2_with fail
              go_ret
              exact ⟨by (rw [← HR.out]; simp [kindT, headsB, h1, h2, h3, h4]; try omega), HB.out.2.then HT.out⟩
          · go_wp2_with fail
            go_ret
            exact ⟨by (rw [← HR.out]; simp [kindT, headsB, h1, h2, h3]; try omega), HB.out.2.then HT.out⟩
        · go_wp2_with fail
          go_ret
          exact ⟨by (rw [← HR.out]; simp [kindT, headsB, h1, h2]; try omega), HB.out.2.then HT.out⟩
      · go_wp2_with fail
        go_ret
        exact ⟨by (rw [← HR.out]; simp [kindT, headsB, h1]; try omega), HB.out.2.then HT.out⟩
    · go_wp2_with (first
        | (go_at_call 128; refine (rlegal_any rl _).mono ?_; rintro e w3 ⟨rfl, hx⟩; rw [hx]; clear hx)
        | fail)
      go_ret
      exact ⟨by (rw [← HR.out]; simp [kindT, legalT]; exact (Bool.decide_and _ _).symm), HB.out.2.then HT.out⟩
    · go_wp2_with (first
        | (go_at_call 129; refine (hg _ HT.out).mono ?_; rintro e w3 ⟨rfl, m3⟩; have H3 := hide m3; clear m3)
        | fail)
      go_ret
      exact ⟨by rw [← HR.out]; simp [kindT, HG.out.1], (HB.out.2.then HT.out).then H3.out⟩
    · go_upto_region 11 with fail
      refine pB 999 (Mod [] W1) (HT.out.drew) ?_
      refine pP 0 ?_
      refine pH 1 rfl (fun w h => by have C0 := blk_cell (h.at_ HB.out.1 (by simp)); go_simp; try with_reducible rfl) ?_
      refine pX 2 fun hT K HK => ?_
      go_simp
      refine (hg _ hT).mono ?_; rintro e x7 ⟨rfl, m7⟩
      refine HK.out _ _ _ (hT.then m7) ?_
      clear HK K hT m7
      refine pP 3 ?_
      cases G with
      | false =>
        refine pN 4 ?_; refine pN 5 ?_; refine pN 6 ?_; refine pN 7 ?_; refine pN 8 ?_; refine pN 9 ?_; refine pN 10 ?_; refine pN 11 ?_; refine pP 12 ?_; refine pP 13 ?_
        refine pE fun hT => ?_
        go_wp2_with fail
        go_ret
        exact ⟨by rw [← HR.out]; simp [kindT, HG.out.1], HB.out.2.then hT⟩
      | true =>
        refine pP 4 ?_; refine pP 5 ?_
        refine pH 6 rfl (fun w h => by have C0 := blk_cell (h.at_ HB.out.1 (by simp)); go_simp; try with_reducible rfl) ?_
        refine pP 8 ?_; refine pP 9 ?_
        refine pH 10 rfl (fun w h => by have C0 := blk_cell (h.at_ HB.out.1 (by simp)); go_simp; try with_reducible rfl) ?_
        refine pX 7 fun hT K HK => ?_
        go_simp
        refine (hl _ hT).mono ?_; rintro e x8 ⟨rfl, hx⟩
        rw [hx]
        refine HK.out _ _ _ hT ?_
        clear HK K hT hx x8
        refine pP 11 ?_; refine pP 12 ?_; refine pP 13 ?_
        refine pE fun hT => ?_
        go_wp2_with fail
        go_ret
        exact ⟨by rw [← HR.out]; simp [kindT, HG.out.1, HG.out.2.1]; rfl, HB.out.2.then hT⟩
    · cases N with
      | false =>
        go_wp2_with (first
          | (go_at_call 131; refine (hc _).mono ?_; rintro e w3 ⟨rfl, hx⟩; rw [hx]; clear hx)
          | (go_at_call 132; refine (hv _ HT.out).mono ?_; rintro e w3 ⟨rfl, hx⟩; rw [hx]; clear hx)
          | fail)
        go_ret
        exact ⟨by rw [← HR.out]; simp [kindT, stmB, HG.out.2.2.2.1, HG.out.2.2.1, HG.out.2.2.2.2], HB.out.2.then HT.out⟩
      | true =>
        by_cases h0 : 0 < n2
        · have h0d : decide ((0 : Int) < (n2 : Int)) = true := decide_eq_true (by omega)
          go_wp2_with (first
            | (go_at_call 131; refine (hc _).mono ?_; rintro e w3 ⟨rfl, hx⟩; rw [hx]; clear hx)
            | (go_at_call 132; refine (hv _ HT.out).mono ?_; rintro e w3 ⟨rfl, hx⟩; rw [hx]; clear hx)
            | fail)
          go_ret
          exact ⟨by rw [← HR.out]; simp [kindT, stmB, HG.out.2.2.2.1, HG.out.2.2.1, HG.out.2.2.2.2, h0], HB.out.2.then HT.out⟩
        · have h0d : decide ((0 : Int) < (n2 : Int)) = false := decide_eq_false (by omega)
          go_wp2_with (first
            | (go_at_call 131; refine (hc _).mono ?_; rintro e w3 ⟨rfl, hx⟩; rw [hx]; clear hx)
            | (go_at_call 132; refine (hv _ HT.out).mono ?_; rintro e w3 ⟨rfl, hx⟩; rw [hx]; clear hx)
            | fail)
          go_ret
          exact ⟨by rw [← HR.out]; simp [kindT, stmB, HG.out.2.2.2.1, HG.out.2.2.1, HG.out.2.2.2.2, h0], HB.out.2.then HT.out⟩
    · go_wp2_with (first
        | (go_at_call 131; refine (hc _).mono ?_; rintro e w3 ⟨rfl, hx⟩; rw [hx]; clear hx)
        | fail)
      go_ret
      exact ⟨by rw [← HR.out]; simp [kindT, HG.out.2.2.2.1], HB.out.2.then HT.out⟩
    · go_wp2_with fail
      go_ret
      exact ⟨by rw [← HR.out]; rfl, HB.out.2.then HT.out⟩
    · obtain ⟨h1, h2, h3, h4, h5, h6, h7⟩ := hk
      have hkt : kindT ⟨kd, ⟨gi, gh, gp, gm, gs, gt⟩, ri, rs, rn, rb, rl⟩ = false := by unfold kindT; simp [h1, h2, h3, h4, h5, h6, h7]
      have e1 : (kd == 1) = false := by simpa using h1
      have e2 : (kd == 2) = false := by simpa using h2
      have e3 : (kd == 3) = false := by simpa using h3
      have e4 : (kd == 4) = false := by simpa using h4
      have e5 : (kd == 5) = false := by simpa using h5
      have e6 : (kd == 6) = false := by simpa using h6
      have e7 : (kd == 7) = false := by simpa using h7
      clear h1 h2 h3 h4 h5 h6 h7
      go_wp2_with fail
      go_ret
      exact ⟨by rw [← HR.out, hkt]; rfl, HB.out.2.then HT.out⟩
end Go.Proofs.YtpphoeimakjjdaaGreatDoor
/-
  WALKS: the document's layer 11: books compared. (Written by wip/gen_ledsame.py.)
-/
namespace Go.Proofs.YtpphoeimakjjdaaGreatDoor
open Go.RowKit Go.Shelf

def TQ (b1 b2 g1 g2 k : Nat) (s1 s2 : Value) (C1 C2 : List Value) (w : World) : Prop := w.cell? ⟨b1, 3, none⟩ = some s1 ∧ w.cell? ⟨b2, 3, none⟩ = some s2 ∧ (∀ j, j < 6 → w.cell? ⟨g1, k * 6 + j, none⟩ = some (C1.getD j undef)) ∧ (∀ j, j < 6 → w.cell? ⟨g2, k * 6 + j, none⟩ = some (C2.getD j undef))
theorem TQ.mod {b1 b2 g1 g2 k : Nat} {s1 s2 : Value} {C1 C2 : List Value} {w w' : World} (h : TQ b1 b2 g1 g2 k s1 s2 C1 C2 w) (m : Mod [] w w') : TQ b1 b2 g1 g2 k s1 s2 C1 C2 w' :=
  ⟨m.kept h.1 (by simp), m.kept h.2.1 (by simp), fun j hj => m.kept (h.2.2.1 j hj) (by simp), fun j hj => m.kept (h.2.2.2 j hj) (by simp)⟩
theorem fst_ext {l1 l2 : List (Grt × Value)} (hl : l1.length = l2.length) (h : ∀ j, j < l1.length → (l1.getD j default).1 = (l2.getD j default).1) : l1.map Prod.fst = l2.map Prod.fst := by
  refine List.ext_getElem (by simp [hl]) fun j h1 h2 => ?_
  rw [List.length_map] at h1 h2
  have := h j h1
  simp only [List.getElem_map]
  simpa [h1, h2] using this
set_option maxHeartbeats 4000000 in
set_option maxRecDepth 100000 in
theorem rsame_any {w : World} {base1 base2 n1 n2 c1 c2 : Nat} {q1 q2 : Option Addr} {a b : Bk} {l1 l2 : List (Grt × Value)} (h1 : BkM w base1 (.slice q1 n1 c1) a l1) (h2 : BkM w base2 (.slice q2 n2 c2) b l2) :
    Calls Tryz.prog 20 #[.agg #[.int .i64 a.next, .int .i64 a.boots, .int .i64 a.longest, .slice q1 n1 c1], .agg #[.int .i64 b.next, .int .i64 b.boots, .int .i64 b.longest, .slice q2 n2 c2]] w fun e w' => e = .returned (.bool (decide (a = b))) ∧ Mod [] w w' := by
  obtain ⟨q1', c1', hv1, hx1⟩ := h1.gr.shape
  obtain ⟨q2', c2', hv2, hx2⟩ := h2.gr.shape
  simp only [Value.slice.injEq] at hv1 hv2
  obtain ⟨rfl, rfl, rfl⟩ := hv1
  obtain ⟨rfl, rfl, rfl⟩ := hv2
  have hx1' : l1.length ≤ 9223372036854775807 := hx1
  have hx2' : l2.length ≤ 9223372036854775807 := hx2
  have he1 := h1.eq
  have he2 := h2.eq
  obtain ⟨x1, y1, z1, gs1⟩ := a
  obtain ⟨x2, y2, z2, gs2⟩ := b
  simp only at he1 he2 ⊢
  subst he1 he2
  obtain ⟨D, hD⟩ : ∃ D, decide ((⟨x1, y1, z1, l1.map Prod.fst⟩ : Bk) = ⟨x2, y2, z2, l2.map Prod.fst⟩) = D := ⟨_, rfl⟩
  rw [hD]
  have HD := hide hD
  clear hD
  obtain ⟨W0, hW0⟩ : ∃ W0, W0 = (w.alloc (.cells #[.int .i64 x1, .int .i64 y1, .int .i64 z1, .slice q1 l1.length c1] 34 (0, 0))).alloc (.cells #[.int .i64 x2, .int .i64 y2, .int .i64 z2, .slice q2 l2.length c2] 34 (0, 0)) := ⟨_, rfl⟩
  have hm0 : Mod [] w W0 := by rw [hW0]; exact ((Mod.refl _ _).alloc _).alloc _
  have ha0 : W0.heap[w.heap.size]? = some (.cells #[.int .i64 x1, .int .i64 y1, .int .i64 z1, .slice q1 l1.length c1] 34 (0, 0)) := by rw [hW0]; exact blk_alloc (heap_alloc_new w _) _
  have hb0 : W0.heap[w.heap.size + 1]? = some (.cells #[.int .i64 x2, .int .i64 y2, .int .i64 z2, .slice q2 l2.length c2] 34 (0, 0)) := by
    rw [hW0]
    have := heap_alloc_new (w.alloc (.cells #[.int .i64 x1, .int .i64 y1, .int .i64 z1, .slice q1 l1.length c1] 34 (0, 0))) (.cells #[.int .i64 x2, .int .i64 y2, .int .i64 z2, .slice q2 l2.length c2] 34 (0, 0))
    simpa using this
  have A0 := blk_cell ha0
  have B0 := blk_cell hb0
  have HB := hide (And.intro ha0 (And.intro hb0 hm0))
  have HG := hide (And.intro (h1.gr.mod hm0 (by simp)) (h2.gr.mod hm0 (by simp)))
  clear h1 h2 ha0 hb0 hm0 hx1 hx2
  have hways : (x1 ≠ x2) ∨ (x1 = x2 ∧ y1 ≠ y2) ∨ (x1 = x2 ∧ y1 = y2 ∧ z1 ≠ z2) ∨ (x1 = x2 ∧ y1 = y2 ∧ z1 = z2 ∧ l1.length ≠ l2.length) ∨ (x1 = x2 ∧ y1 = y2 ∧ z1 = z2 ∧ l1.length = l2.length) := by
    by_cases e1 : x1 = x2 <;> by_cases e2 : y1 = y2 <;> by_cases e3 : z1 = z2 <;> by_cases e4 : l1.length = l2.length <;> simp [e1, e2, e3, e4]
  rcases hways with e1 | ⟨e1, e2⟩ | ⟨e1, e2, e3⟩ | ⟨e1, e2, e3, e4⟩ | ⟨e1, e2, e3, e4⟩
  · have HF : Hid (D = false) := hide (by rw [← HD.out]; simp [e1])
    have e1' : (x1 != x2) = true := by simpa using e1
    clear e1
    go_enter Tryz.func20, Tryz.ntmps20
    go_upto_region 1 with fail
    rw [← hW0]
    clear hW0
    go_wp2_with fail
    go_ret
    exact ⟨by rw [HF.out]; rfl, HB.out.2.2⟩
  · have HF : Hid (D = false) := hide (by rw [← HD.out]; simp [e2])
    have e1' : (x1 != x2) = false := by simpa using e1
    have e2' : (y1 != y2) = true := by simpa using e2
    clear e1 e2
    go_enter Tryz.func20, Tryz.ntmps20
    go_upto_region 1 with fail
    rw [← hW0]
    clear hW0
    go_wp2_with fail
    go_ret
    exact ⟨by rw [HF.out]; rfl, HB.out.2.2⟩
  · have HF : Hid (D = false) := hide (by rw [← HD.out]; simp [e3])
    have e1' : (x1 != x2) = false := by simpa using e1
    have e2' : (y1 != y2) = false := by simpa using e2
    have e3' : (z1 != z2) = true := by simpa using e3
    clear e1 e2 e3
    go_enter Tryz.func20, Tryz.ntmps20
    go_upto_region 1 with fail
    rw [← hW0]
    clear hW0
    go_wp2_with fail
    go_ret
    exact ⟨by rw [HF.out]; rfl, HB.out.2.2⟩
  · have HF : Hid (D = false) := hide (by
      rw [← HD.out, decide_eq_false]
      intro e
      simp only [Bk.mk.injEq] at e
      have := congrArg List.length e.2.2.2
      simp at this
      exact e4 this)
    have e1' : (x1 != x2) = false := by simpa using e1
    have e2' : (y1 != y2) = false := by simpa using e2
    have e3' : (z1 != z2) = false := by simpa using e3
    have e4' : ((l1.length : Int) != (l2.length : Int)) = true := by rw [bne_iff_ne]; omega
    clear e1 e2 e3 e4
    go_enter Tryz.func20, Tryz.ntmps20
    go_upto_region 1 with fail
    rw [← hW0]
    clear hW0
    go_wp2_with fail
    go_ret
    exact ⟨by rw [HF.out]; rfl, HB.out.2.2⟩
  · subst e1 e2 e3
    obtain ⟨n2, hn2⟩ : ∃ n, l2.length = n := ⟨_, rfl⟩
    rw [hn2] at hW0 B0 HB HG hx2' e4 ⊢
    subst e4
    have b1 : (x1 != x1) = false := by simp
    have b2 : (y1 != y1) = false := by simp
    have b3 : (z1 != z1) = false := by simp
    have b4 : ((l1.length : Int) != (l1.length : Int)) = false := by simp
    have HN := hide hn2
    clear hn2
    go_enter Tryz.func20, Tryz.ntmps20
    go_upto_region 1 with fail
    rw [← hW0]
    clear hW0
    go_upto_region 4 with fail
    clear A0 B0
    go_loopw [5] (fun i wr => ∃ k : Nat, i = .int .i64 (k : Int) ∧ k ≤ l1.length ∧ Hid (∀ j, j < k → (l1.getD j default).1 = (l2.getD j default).1) ∧ Mod [] W0 wr) (fun i _ => l1.length - (intOf i).toNat)
    case atStart => exact ⟨0, rfl, Nat.zero_le _, hide (fun j hj => absurd hj (by omega)), Mod.refl _ _⟩
    case round =>
      obtain ⟨k, rfl, hk, HK, hm⟩ := hrel
      have A1 := blk_cell (hm.at_ HB.out.1 (by simp))
      have B1 := blk_cell (hm.at_ HB.out.2.1 (by simp))
      by_cases hlt : k < l1.length
      · have hki : (k : Int) < (l1.length : Int) := by omega
        have hk0 : (0 : Int) ≤ (k : Int) := by omega
        obtain ⟨gb1, rfl, hgb1, -, hc1, -, hrd1⟩ := (HG.out.1.mod hm (by simp)).at_ k hlt
        obtain ⟨gb2, rfl, hgb2, -, hc2, -, hrd2⟩ := (HG.out.2.mod hm (by simp)).at_ k (by rw [HN.out]; exact hlt)
        obtain ⟨pr1, hp1⟩ : ∃ p, l1.getD k default = p := ⟨_, rfl⟩
        obtain ⟨pr2, hp2⟩ : ∃ p, l2.getD k default = p := ⟨_, rfl⟩
        rw [hp1] at hc1 hrd1
        rw [hp2] at hc2 hrd2
        obtain ⟨⟨i1, h1, p1, m1, s1, t1⟩, sv1⟩ := pr1
        obtain ⟨⟨i2, h2, p2, m2, s2, t2⟩, sv2⟩ := pr2
        simp only at hrd1 hrd2
        obtain ⟨sq1, sc1, hs1⟩ := hrd1.len
        obtain ⟨sq2, sc2, hs2⟩ := hrd2.len
        obtain ⟨sn1, hn1⟩ : ∃ n, s1.length = n := ⟨_, rfl⟩
        obtain ⟨sn2, hn2⟩ : ∃ n, s2.length = n := ⟨_, rfl⟩
        rw [hn1] at hs1
        rw [hn2] at hs2
        subst hs1 hs2
        have hsg := rsameG_any (w := wr.drew) (x := ⟨i1, h1, p1, m1, s1, t1⟩) (y := ⟨i2, h2, p2, m2, s2, t2⟩) (hrd1.mod (Mod.refl [] wr).drew (by simp)) (hrd2.mod (Mod.refl [] wr).drew (by simp))
        obtain ⟨E, hE⟩ : ∃ E, decide ((⟨i1, h1, p1, m1, s1, t1⟩ : Grt) = ⟨i2, h2, p2, m2, s2, t2⟩) = E := ⟨_, rfl⟩
        have HDE := hide hE
        have hTQ : TQ w.heap.size (w.heap.size + 1) gb1 gb2 k (.slice (some ⟨gb1, 0, none⟩) l1.length c1) (.slice (some ⟨gb2, 0, none⟩) l1.length c2) [.int .i64 i1, .int .i64 h1, .string p1, .int .i64 m1, .slice sq1 sn1 sc1, .int .i64 t1] [.int .i64 i2, .int .i64 h2, .string p2, .int .i64 m2, .slice sq2 sn2 sc2, .int .i64 t2] wr.drew := by
          refine ⟨A1 3, B1 3, fun j hj => ?_, fun j hj => ?_⟩
          · have := hc1 j hj
            match j, hj with
            | 0, _ => exact this
            | 1, _ => exact this
            | 2, _ => exact this
            | 3, _ => exact this
            | 4, _ => exact this
            | 5, _ => exact this
          · have := hc2 j hj
            match j, hj with
            | 0, _ => exact this
            | 1, _ => exact this
            | 2, _ => exact this
            | 3, _ => exact this
            | 4, _ => exact this
            | 5, _ => exact this
        have HP := hide (And.intro hp1 (And.intro hp2 hm))
        clear hc1 hc2 hrd1 hrd2 hn1 hn2 hp1 hp2 hm hE
        go_upto_region 6 with fail
        clear A1 B1
        refine pB 11 (TQ w.heap.size (w.heap.size + 1) gb1 gb2 k (.slice (some ⟨gb1, 0, none⟩) l1.length c1) (.slice (some ⟨gb2, 0, none⟩) l1.length c2) [.int .i64 i1, .int .i64 h1, .string p1, .int .i64 m1, .slice sq1 sn1 sc1, .int .i64 t1] [.int .i64 i2, .int .i64 h2, .string p2, .int .i64 m2, .slice sq2 sn2 sc2, .int .i64 t2]) (hTQ) ?_
        refine pP 0 ?_
        refine pT 1 rfl [3, 4, 10, 11] (fun w hSw => by have A := hSw.1; have B := hSw.2.1; go_simp; try with_reducible rfl) ?_
        refine pP 2 ?_; refine pP 3 ?_
        refine pT 4 rfl [10, 11] (fun w hSw => by have A := hSw.1; have B := hSw.2.1; have c0 := hSw.2.2.1 0 (by decide); have c1 := hSw.2.2.1 1 (by decide); have c2 := hSw.2.2.1 2 (by decide); have c3 := hSw.2.2.1 3 (by decide); have c4 := hSw.2.2.1 4 (by decide); have c5 := hSw.2.2.1 5 (by decide); have d0 := hSw.2.2.2 0 (by decide); have d1 := hSw.2.2.2 1 (by decide); have d2 := hSw.2.2.2 2 (by decide); have d3 := hSw.2.2.2 3 (by decide); have d4 := hSw.2.2.2 4 (by decide); have d5 := hSw.2.2.2 5 (by decide); simp at c0 c1 c2 c3 c4 c5 d0 d1 d2 d3 d4 d5; go_simp; try with_reducible rfl) ?_
        refine pP 5 ?_
        refine pT 6 rfl [8, 9, 10, 11] (fun w hSw => by have A := hSw.1; have B := hSw.2.1; go_simp; try with_reducible rfl) ?_
        refine pP 7 ?_; refine pP 8 ?_
        refine pT 9 rfl [10, 11] (fun w hSw => by have A := hSw.1; have B := hSw.2.1; have c0 := hSw.2.2.1 0 (by decide); have c1 := hSw.2.2.1 1 (by decide); have c2 := hSw.2.2.1 2 (by decide); have c3 := hSw.2.2.1 3 (by decide); have c4 := hSw.2.2.1 4 (by decide); have c5 := hSw.2.2.1 5 (by decide); have d0 := hSw.2.2.2 0 (by decide); have d1 := hSw.2.2.2 1 (by decide); have d2 := hSw.2.2.2 2 (by decide); have d3 := hSw.2.2.2 3 (by decide); have d4 := hSw.2.2.2 4 (by decide); have d5 := hSw.2.2.2 5 (by decide); simp at c0 c1 c2 c3 c4 c5 d0 d1 d2 d3 d4 d5; go_simp; try with_reducible rfl) ?_
        refine pX 10 fun hT K HK => ?_
        refine step_call rfl 52 #[.tmp 45, .tmp 50] #[40, 40] rfl (enters_of Tryz.func52 (by kernel_rfl) rfl) #[aggG ⟨i1, h1, p1, m1, s1, t1⟩ (.slice sq1 sn1 sc1), aggG ⟨i2, h2, p2, m2, s2, t2⟩ (.slice sq2 sn2 sc2)] (by simp [Act.eval, aggG, cellsG]) ?_
        refine hsg.mono ?_
        rintro e w3 ⟨rfl, hm3⟩
        refine ⟨_, rfl, ?_⟩
        rw [HDE.out]
        have hT2 : TQ w.heap.size (w.heap.size + 1) gb1 gb2 k (.slice (some ⟨gb1, 0, none⟩) l1.length c1) (.slice (some ⟨gb2, 0, none⟩) l1.length c2) [.int .i64 i1, .int .i64 h1, .string p1, .int .i64 m1, .slice sq1 sn1 sc1, .int .i64 t1] [.int .i64 i2, .int .i64 h2, .string p2, .int .i64 m2, .slice sq2 sn2 sc2, .int .i64 t2] w3 := hT.mod hm3
        have H3 := hide hm3
        clear hm3
        refine HK.out _ _ _ hT2 ?_
        clear HK K hT hT2
        refine pY 11 fun hT K HK => ?_
        go_simp
        refine HK.out _ _ _ ?_
        clear HK K hT
        refine pD ?_
        cases E with
        | true =>
          go_wp2_with fail
          go_roundw
          case rel =>
            refine ⟨k + 1, by go_num, by omega, hide (fun j hj => ?_), HP.out.2.2.drew.then H3.out⟩
            by_cases e : j = k
            · subst e
              rw [HP.out.1, HP.out.2.1]
              exact of_decide_eq_true HDE.out
            · exact HK.out j (by omega)
          case measure => simp [intOf]; omega
        | false =>
          have HF : Hid (D = false) := hide (by
            rw [← HD.out, decide_eq_false]
            intro e
            simp only [Bk.mk.injEq] at e
            have e3 := e.2.2.2
            have hkk : (l1.map Prod.fst).getD k default = (l2.map Prod.fst).getD k default := by rw [e3]
            have h2l : k < l2.length := by rw [HN.out]; exact hlt
            have a1 : (l1.map Prod.fst).getD k default = (l1.getD k default).1 := by simp [hlt]
            have a2 : (l2.map Prod.fst).getD k default = (l2.getD k default).1 := by simp [h2l]
            rw [a1, a2, HP.out.1, HP.out.2.1] at hkk
            exact of_decide_eq_false HDE.out hkk)
          go_wp2_with fail
          go_ret
          exact ⟨by rw [HF.out]; rfl, HB.out.2.2.then (HP.out.2.2.drew.then H3.out)⟩
      · obtain rfl : k = l1.length := by omega
        have HF : Hid (D = true) := hide (by
          rw [← HD.out, decide_eq_true]
          rw [fst_ext HN.out.symm HK.out])
        have HM := hide hm
        clear hm
        go_wp2_with fail
        go_ret
        exact ⟨by rw [HF.out]; rfl, HB.out.2.2.then HM.out⟩
theorem rsame_eq {w : World} {base1 base2 n1 n2 c1 c2 : Nat} {q1 q2 : Option Addr} {a b : Bk} {l1 l2 : List (Grt × Value)} (h1 : BkM w base1 (.slice q1 n1 c1) a l1) (h2 : BkM w base2 (.slice q2 n2 c2) b l2) (e : a = b) :
    Calls Tryz.prog 20 #[.agg #[.int .i64 a.next, .int .i64 a.boots, .int .i64 a.longest, .slice q1 n1 c1], .agg #[.int .i64 b.next, .int .i64 b.boots, .int .i64 b.longest, .slice q2 n2 c2]] w fun e w' => e = .returned (.bool true) ∧ Mod [] w w' := by
  refine (rsame_any h1 h2).mono ?_
  rintro e' w' ⟨rfl, m⟩
  have : decide (a = b) = true := decide_eq_true e
  exact ⟨congrArg (fun x => Ending.returned (.bool x)) this, m⟩
end Go.Proofs.YtpphoeimakjjdaaGreatDoor
/-
  WALKS: the document's layer 11: fault: what a record does not fit for.
-/
namespace Go.Proofs.YtpphoeimakjjdaaGreatDoor
open Go.RowKit

theorem find_has {lv : List (Grt × Value)} {id : Int} {e : Ending} (h : FindTo lv id e) :
    ∃ i : Int, e = .returned (.int .i64 i) ∧ decide (0 ≤ i) = hasG (lv.map Prod.fst) id ∧ (0 ≤ i → ∃ k : Nat, i = (k : Int) ∧ k < lv.length ∧ (lv.getD k default).1.id = id) := by
  rcases h with ⟨k, hk, hi, hj, rfl⟩ | ⟨hn, rfl⟩
  · refine ⟨k, rfl, ?_, fun _ => ⟨k, rfl, hk, hi⟩⟩
    rw [decide_eq_true (by omega)]
    symm
    exact hasG_iff.2 ⟨(lv.getD k default).1, List.mem_map.2 ⟨lv.getD k default, by simp [hk], rfl⟩, hi⟩
  · refine ⟨-1, rfl, ?_, fun h => absurd h (by omega)⟩
    rw [decide_eq_false (by omega)]
    symm
    cases he : hasG (lv.map Prod.fst) id with
    | false => rfl
    | true =>
      obtain ⟨g, hg, he⟩ := hasG_iff.1 he
      obtain ⟨p, hp, rfl⟩ := List.mem_map.1 hg
      obtain ⟨j, hj, rfl⟩ := List.mem_iff_getElem.1 hp
      exact absurd he (by have := hn j hj; simpa [hj] using this)
theorem may_kind7 {r : Rcd} (h : mayB r = true) : r.kind = 1 ∨ r.kind = 2 ∨ r.kind = 3 ∨ r.kind = 4 ∨ r.kind = 5 ∨ r.kind = 6 ∨ r.kind = 7 := by
  unfold mayB at h
  by_cases h1 : r.kind = 1; · exact .inl h1
  by_cases h2 : r.kind = 2; · exact .inr (.inl h2)
  by_cases h3 : r.kind = 3; · exact .inr (.inr (.inl h3))
  by_cases h4 : r.kind = 4; · exact .inr (.inr (.inr (.inl h4)))
  by_cases h5 : r.kind = 5; · exact .inr (.inr (.inr (.inr (.inl h5))))
  by_cases h6 : r.kind = 6; · exact .inr (.inr (.inr (.inr (.inr (.inl h6)))))
  by_cases h7 : r.kind = 7; · exact .inr (.inr (.inr (.inr (.inr (.inr h7)))))
  simp [h1, h2, h3, h4, h5, h6, h7] at h
theorem fault_rest {b : Bk} {r : Rcd} (h : validB b = true) (h2 : mayB r = true) : (applyB b r).2 = if limitI b r.kind ≠ 0 then limitI b r.kind else if (changeB b r).isSome = true then 0 else 43 := by
  unfold applyB
  rw [if_neg (by simp [h, h2])]
  split
  · rfl
  · cases changeB b r <;> rfl
set_option maxHeartbeats 4000000 in
set_option maxRecDepth 100000 in
set_option linter.unusedSimpArgs false in
theorem rfault_any {w : World} {base : Nat} {gv sv tv : Value} {b : Bk} {lv : List (Grt × Value)} {r : Rcd} (h : BkM w base gv b lv) (hps : ∀ p, p ∈ lv → p.1.path.size ≤ 9223372036854775806) (hs : RdN w sv r.grant.stamp) (ht : RdN w tv r.stamp) (hp : r.grant.path.size ≤ 9223372036854775806) :
    Calls Tryz.prog 54 #[aggB b gv, aggR r sv tv] w fun e w' => e = .returned (.int .i64 (applyB b r).2) ∧ Mod [] w w' := by
  obtain ⟨kd, ⟨gi, gh, gp, gm, gs, gt⟩, ri, rs, rn, rb, rl⟩ := r
  obtain ⟨nx, bo, lo, bg⟩ := b
  simp only at hs ht hp
  obtain rfl : bg = lv.map Prod.fst := h.eq
  have hval := fun (W : World) (m : Mod [] w W) => rvalid_any (b := ⟨nx, bo, lo, lv.map Prod.fst⟩) ⟨h.gr.mod m (by simp), rfl⟩ hps
  obtain ⟨q2, c2, rfl⟩ := ht.len
  obtain ⟨q1, c1, rfl⟩ := hs.len
  have hmay := fun (W : World) (m : Mod [] w W) => rrec_any (r := ⟨kd, ⟨gi, gh, gp, gm, gs, gt⟩, ri, rs, rn, rb, rl⟩) (hs.mod m (by simp)) (ht.mod m (by simp)) hp
  obtain ⟨q0, c0, rfl, hmx⟩ := h.gr.shape
  have hfi := fun (W : World) (m : Mod [] w W) (i : Int) => rfind_any (h.gr.mod m (by simp)) i
  have hla := fun (W : World) (m : Mod [] w W) => rlast_any (hs.mod m (by simp))
  have hlb := fun (W : World) (m : Mod [] w W) => rlast_any (ht.mod m (by simp))
  have hsm := fun (W : World) (m : Mod [] w W) => rsame_any (w := W) (a := ⟨nx, bo, lo, lv.map Prod.fst⟩) (b := Bk.new) (l2 := []) (base2 := 0) (q2 := none) (n2 := 0) (c2 := 0) ⟨h.gr.mod m (by simp), rfl⟩ ⟨GrM.nil _ _, rfl⟩
  obtain ⟨E, hE⟩ : ∃ E, (applyB ⟨nx, bo, lo, lv.map Prod.fst⟩ ⟨kd, ⟨gi, gh, gp, gm, gs, gt⟩, ri, rs, rn, rb, rl⟩).2 = E := ⟨_, rfl⟩
  rw [hE]
  obtain ⟨V, hV⟩ : ∃ V, validB ⟨nx, bo, lo, lv.map Prod.fst⟩ = V := ⟨_, rfl⟩
  obtain ⟨M, hM⟩ : ∃ M, mayB ⟨kd, ⟨gi, gh, gp, gm, gs, gt⟩, ri, rs, rn, rb, rl⟩ = M := ⟨_, rfl⟩
  rw [hV] at hval
  rw [hM] at hmay
  obtain ⟨CB, hCB⟩ : ∃ CB : Array Value, CB = #[.int .i64 nx, .int .i64 bo, .int .i64 lo, .slice q0 lv.length c0] := ⟨_, rfl⟩
  obtain ⟨CR, hCR⟩ : ∃ CR : Array Value, CR = #[.int .i64 kd, .int .i64 gi, .int .i64 gh, .string gp, .int .i64 gm, .slice q1 gs.length c1, .int .i64 gt, .int .i64 ri, .slice q2 rs.length c2, .int .i64 rn, .int .i64 rb, .int .i64 rl] := ⟨_, rfl⟩
  obtain ⟨W0, hW0⟩ : ∃ W0, W0 = (w.alloc (.cells CB 34 (0, 0))).alloc (.cells CR 42 (0, 0)) := ⟨_, rfl⟩
  have hb0 : W0.heap[w.heap.size]? = some (.cells CB 34 (0, 0)) := by rw [hW0]; exact blk_alloc (heap_alloc_new w _) _
  have hr0 : W0.heap[w.heap.size + 1]? = some (.cells CR 42 (0, 0)) := by
    rw [hW0]
    have := heap_alloc_new (w.alloc (.cells CB 34 (0, 0))) (.cells CR 42 (0, 0))
    simpa using this
  have hm0 : Mod [] w W0 := by rw [hW0]; exact ((Mod.refl _ _).alloc _).alloc _
  have hF : ∀ W, Mod [] W0 W → (∀ i, W.cell? ⟨w.heap.size, i, none⟩ = CB[i]?) ∧ (∀ i, W.cell? ⟨w.heap.size + 1, i, none⟩ = CR[i]?) := fun W m => ⟨blk_cell (m.at_ hb0 (by simp)), blk_cell (m.at_ hr0 (by simp))⟩
  rw [hCB, hCR] at hF hW0
  clear hb0 hr0 hCB hCR
  have HF := hide hF
  have HE := hide (And.intro hE (And.intro hV hM))
  have HM := hide hm0
  clear hE hV hF hm0 hs ht h hps hp
  unfold aggB at hval hsm ⊢
  unfold aggR cellsR at hmay ⊢
  simp only at hval hmay hsm ⊢
  have hmx' : lv.length ≤ 9223372036854775807 := hmx
  go_enter Tryz.func54, Tryz.ntmps54
  go_upto_region 1 with fail
  rw [← hW0]
  clear hW0
  obtain ⟨B0, B1⟩ := HF.out _ (Mod.refl _ _)
  cases V with
  | false =>
    clear hM
    go_wp2_with (first
      | (go_at_call 88; refine (hval _ HM.out).mono ?_; rintro e w3 ⟨rfl, m3⟩; have H3 := hide m3; clear m3)
      | fail)
    go_ret
    exact ⟨by rw [← HE.out.1, apply_bad (.inl HE.out.2.1)]; rfl, HM.out.then H3.out⟩
  | true =>
  cases M with
  | false =>
    clear hM
    go_wp2_with (first
      | (go_at_call 88; refine (hval _ HM.out).mono ?_; rintro e w3 ⟨rfl, m3⟩; obtain ⟨B2, B3⟩ := HF.out _ m3; have H3 := hide m3; clear m3)
      | (go_at_call 89; refine (hmay _ (HM.out.then H3.out)).mono ?_; rintro e w4 ⟨rfl, m4⟩; have H4 := hide (H3.out.then m4); clear m4)
      | fail)
    go_ret
    exact ⟨by rw [← HE.out.1, apply_bad (.inr HE.out.2.2)]; rfl, HM.out.then H4.out⟩
  | true =>
  have hk := may_kind7 hM
  simp only at hk
  clear hM
  go_upto_region 3 with (first
    | (go_at_call 88; refine (hval _ HM.out).mono ?_; rintro e w3 ⟨rfl, m3⟩; obtain ⟨B2, B3⟩ := HF.out _ m3; have H3 := hide m3; clear m3)
    | (go_at_call 89; refine (hmay _ (HM.out.then H3.out)).mono ?_; rintro e w4 ⟨rfl, m4⟩; obtain ⟨B4, B5⟩ := HF.out _ (H3.out.then m4); have H4 := hide (H3.out.then m4); clear m4 B2 B3)
    | fail)
  clear hval hmay B0 B1 H3
  have hend : ∀ {W : World} {v : Int}, Mod [] w4 W → (if limitI ⟨nx, bo, lo, lv.map Prod.fst⟩ kd ≠ 0 then limitI ⟨nx, bo, lo, lv.map Prod.fst⟩ kd else if (changeB ⟨nx, bo, lo, lv.map Prod.fst⟩ ⟨kd, ⟨gi, gh, gp, gm, gs, gt⟩, ri, rs, rn, rb, rl⟩).isSome = true then 0 else 43) = v → Ending.returned (.int .i64 v) = .returned (.int .i64 E) ∧ Mod [] w W := fun m e => ⟨by rw [← HE.out.1, fault_rest HE.out.2.1 HE.out.2.2, e], (HM.out.then H4.out).then m⟩
  have hfi4 := hfi _ (HM.out.then H4.out) ri
  obtain ⟨T, hT⟩ : ∃ T, hasG (lv.map Prod.fst) ri = T := ⟨_, rfl⟩
  obtain ⟨LA, hLA⟩ : ∃ L, lastI gs = L := ⟨_, rfl⟩
  obtain ⟨LB, hLB⟩ : ∃ L, lastI rs = L := ⟨_, rfl⟩
  rw [hLA] at hla
  rw [hLB] at hlb
  rcases hk with rfl | rfl | rfl | rfl | rfl | rfl | rfl
  · go_upto_region 12 with (first
      | (go_at_call 57; refine hfi4.mono ?_; rintro e w5 ⟨hf, hx⟩; rw [hx]; clear hx; obtain ⟨i, rfl, -, -⟩ := find_has hf; clear hf)
      | fail)
    obtain ⟨S, hS⟩ : ∃ S, decide ((⟨nx, bo, lo, lv.map Prod.fst⟩ : Bk) = Bk.new) = S := ⟨_, rfl⟩
    rw [hS] at hsm
    refine pB 999 (Mod [] w4) ((Mod.refl [] w4).drew) ?_
    refine pH 0 rfl (fun w h => by obtain ⟨C0, C1⟩ := HF.out _ (H4.out.then h); go_simp; try with_reducible rfl) ?_
    refine pX 1 fun hT K HK => ?_
    go_simp
    refine (rnew_any _).mono ?_; rintro e x7 ⟨rfl, m7⟩
    refine HK.out _ _ _ (hT.then m7) ?_
    clear HK K hT m7
    refine pX 2 fun hT K HK => ?_
    go_simp
    refine (hsm _ ((HM.out.then H4.out).then hT)).mono ?_; rintro e x8 ⟨rfl, m8⟩
    refine HK.out _ _ _ (hT.then m8) ?_
    clear HK K hT m8 x7
    refine pP 3 ?_; refine pP 4 ?_
    refine pE fun hT => ?_
    cases S
    all_goals
      go_wp2_with fail
      go_ret
      exact hend hT (by simp at hS; simp [limitI, changeB, hS])
  · have hcl : rl ≤ lo ∨ lo < rl := by omega
    rcases hcl with hc | hc
    · have hd : decide (rl ≤ lo) = true := decide_eq_true hc
      go_wp2_with (first
        | (go_at_call 57; refine hfi4.mono ?_; rintro e w5 ⟨hf, hx⟩; rw [hx]; clear hx; obtain ⟨i, rfl, -, -⟩ := find_has hf; clear hf)
        | fail)
      go_ret
      exact hend (Mod.refl _ _) (by simp [limitI, changeB, show ¬ lo < rl by omega])
    · have hd : decide (rl ≤ lo) = false := decide_eq_false (by omega)
      go_wp2_with (first
        | (go_at_call 57; refine hfi4.mono ?_; rintro e w5 ⟨hf, hx⟩; rw [hx]; clear hx; obtain ⟨i, rfl, -, -⟩ := find_has hf; clear hf)
        | fail)
      go_ret
      exact hend (Mod.refl _ _) (by simp [limitI, changeB, hc])
  · by_cases h6 : lv.length = 6
    · have hd : ((lv.length : Int) == 6) = true := by simp; omega
      go_wp2_with fail
      go_ret
      exact hend (Mod.refl _ _) (by simp [limitI, h6])
    · have hd : ((lv.length : Int) == 6) = false := by simp; omega
      go_upto_region 16 with (first
        | (go_at_call 57; refine hfi4.mono ?_; rintro e w5 ⟨hf, hx⟩; rw [hx]; clear hx; obtain ⟨i, rfl, -, -⟩ := find_has hf; clear hf)
        | fail)
      obtain ⟨S, hS⟩ : ∃ S, hasG (lv.map Prod.fst) gi = S := ⟨_, rfl⟩
      refine pB 999 (Mod [] w4) ((Mod.refl [] w4).drew) ?_
      refine pP 0 ?_
      refine pH 1 rfl (fun w h => by obtain ⟨C0, C1⟩ := HF.out _ (H4.out.then h); go_simp; try with_reducible rfl) ?_
      refine pP 2 ?_; refine pP 3 ?_
      refine pH 4 rfl (fun w h => by obtain ⟨C0, C1⟩ := HF.out _ (H4.out.then h); go_simp; try with_reducible rfl) ?_
      refine pX 5 fun hT K HK => ?_
      go_simp
      refine (hfi _ ((HM.out.then H4.out).then hT) gi).mono ?_; rintro e x7 ⟨hf, hx⟩
      rw [hx]
      obtain ⟨i2, rfl, hi2, -⟩ := find_has hf
      rw [hS] at hi2
      refine HK.out _ _ _ hT ?_
      clear HK K hT hf hx x7
      cases S with
      | true =>
        refine pP 6 ?_; refine pP 7 ?_; refine pN 8 ?_; refine pN 9 ?_; refine pN 10 ?_; refine pN 11 ?_; refine pN 12 ?_; refine pN 13 ?_; refine pN 14 ?_; refine pP 15 ?_; refine pP 16 ?_
        refine pE fun hT => ?_
        go_wp2_with fail
        go_ret
        exact hend hT (by simp [limitI, changeB, h6, hS])
      | false =>
        refine pP 6 ?_; refine pP 7 ?_; refine pP 8 ?_; refine pP 9 ?_
        refine pH 10 rfl (fun w h => by obtain ⟨C0, C1⟩ := HF.out _ (H4.out.then h); go_simp; try with_reducible rfl) ?_
        refine pP 12 ?_
        refine pH 13 rfl (fun w h => by obtain ⟨C0, C1⟩ := HF.out _ (H4.out.then h); go_simp; try with_reducible rfl) ?_
        refine pX 11 fun hT K HK => ?_
        go_simp
        refine (hla _ ((HM.out.then H4.out).then hT)).mono ?_; rintro e x7 ⟨rfl, hx⟩
        rw [hx]
        refine HK.out _ _ _ hT ?_
        clear HK K hT hx x7
        by_cases hn : nx ≤ LA
        · have hd2 : decide (nx ≤ LA) = true := decide_eq_true hn
          refine pP 14 ?_; refine pP 15 ?_; refine pP 16 ?_
          refine pE fun hT => ?_
          go_wp2_with fail
          go_ret
          exact hend hT (by simp [limitI, changeB, h6, hS, hLA, show ¬ LA < nx by omega])
        · have hd2 : decide (nx ≤ LA) = false := decide_eq_false hn
          refine pP 14 ?_; refine pP 15 ?_; refine pP 16 ?_
          refine pE fun hT => ?_
          go_wp2_with fail
          go_ret
          exact hend hT (by simp [limitI, changeB, h6, hS, hLA, show LA < nx by omega])
  · by_cases hn : 1099511627776 < nx
    · have hd0 : decide (1099511627776 < nx) = true := decide_eq_true hn
      go_wp2_with fail
      go_ret
      exact hend (Mod.refl _ _) (by simp [limitI, hn])
    · have hd0 : decide (1099511627776 < nx) = false := decide_eq_false hn
      by_cases h6 : lv.length = 6
      · have hd : ((lv.length : Int) == 6) = true := by simp; omega
        go_wp2_with fail
        go_ret
        exact hend (Mod.refl _ _) (by
          have e : limitI ⟨nx, bo, lo, lv.map Prod.fst⟩ 4 = 51 := by unfold limitI; rw [if_neg (by simp only; omega), if_pos (by simp [h6])]
          rw [e]; rfl)
      · have hd : ((lv.length : Int) == 6) = false := by simp; omega
        by_cases hg : gi = nx
        · have hd1 : (gi == nx) = true := by simpa using hg
          go_wp2_with (first
            | (go_at_call 57; refine hfi4.mono ?_; rintro e w5 ⟨hf, hx⟩; rw [hx]; clear hx; obtain ⟨i, rfl, -, -⟩ := find_has hf; clear hf)
            | fail)
          go_ret
          exact hend (Mod.refl _ _) (by simp [limitI, changeB, h6, hn, hg])
        · have hd1 : (gi == nx) = false := by simpa using hg
          go_wp2_with (first
            | (go_at_call 57; refine hfi4.mono ?_; rintro e w5 ⟨hf, hx⟩; rw [hx]; clear hx; obtain ⟨i, rfl, -, -⟩ := find_has hf; clear hf)
            | fail)
          go_ret
          exact hend (Mod.refl _ _) (by simp [limitI, changeB, h6, hn, hg])
  · by_cases hn : 1099511627776 < nx
    · have hd0 : decide (1099511627776 < nx) = true := decide_eq_true hn
      go_wp2_with fail
      go_ret
      exact hend (Mod.refl _ _) (by simp [limitI, hn])
    · have hd0 : decide (1099511627776 < nx) = false := decide_eq_false hn
      cases T with
      | false =>
        go_upto_region 20 with (first
          | (go_at_call 57; refine hfi4.mono ?_; rintro e w5 ⟨hf, hx⟩; rw [hx]; clear hx; obtain ⟨i, rfl, hi, -⟩ := find_has hf; rw [hT] at hi; clear hf)
          | fail)
        refine pB 999 (Mod [] w4) ((Mod.refl [] w4).drew) ?_
        refine pP 0 ?_; refine pP 1 ?_; refine pP 2 ?_; refine pN 3 ?_; refine pN 4 ?_; refine pN 5 ?_; refine pN 6 ?_; refine pN 7 ?_; refine pN 8 ?_; refine pP 9 ?_; refine pP 10 ?_
        refine pE fun hT => ?_
        go_wp2_with fail
        go_ret
        exact hend hT (by simp [limitI, changeB, hn, ‹hasG _ _ = false›])
      | true =>
        go_upto_region 20 with (first
          | (go_at_call 57; refine hfi4.mono ?_; rintro e w5 ⟨hf, hx⟩; rw [hx]; clear hx; obtain ⟨i, rfl, hi, -⟩ := find_has hf; rw [hT] at hi; clear hf)
          | fail)
        refine pB 999 (Mod [] w4) ((Mod.refl [] w4).drew) ?_
        refine pP 0 ?_; refine pP 1 ?_; refine pP 2 ?_; refine pP 3 ?_
        refine pH 4 rfl (fun w h => by obtain ⟨C0, C1⟩ := HF.out _ (H4.out.then h); go_simp; try with_reducible rfl) ?_
        refine pP 6 ?_
        refine pH 7 rfl (fun w h => by obtain ⟨C0, C1⟩ := HF.out _ (H4.out.then h); go_simp; try with_reducible rfl) ?_
        refine pX 5 fun hT K HK => ?_
        go_simp
        refine (hlb _ ((HM.out.then H4.out).then hT)).mono ?_; rintro e x7 ⟨rfl, hx⟩
        rw [hx]
        refine HK.out _ _ _ hT ?_
        clear HK K hT hx x7
        by_cases hl : LB = nx
        · have hd1 : (LB == nx) = true := by simpa using hl
          refine pP 8 ?_; refine pP 9 ?_; refine pP 10 ?_
          refine pE fun hT => ?_
          go_wp2_with fail
          go_ret
          exact hend hT (by simp [limitI, changeB, hn, ‹hasG _ _ = true›, hLB, hl])
        · have hd1 : (LB == nx) = false := by simpa using hl
          refine pP 8 ?_; refine pP 9 ?_; refine pP 10 ?_
          refine pE fun hT => ?_
          go_wp2_with fail
          go_ret
          exact hend hT (by simp [limitI, changeB, hn, ‹hasG _ _ = true›, hLB, hl])
  · cases T
    all_goals
      go_wp2_with (first
        | (go_at_call 57; refine hfi4.mono ?_; rintro e w5 ⟨hf, hx⟩; rw [hx]; clear hx; obtain ⟨i, rfl, hi, -⟩ := find_has hf; rw [hT] at hi; clear hf)
        | fail)
      go_ret
      exact hend (Mod.refl _ _) (by simp [limitI, changeB, hT])
  · by_cases hb : bo = 1099511627776
    · have hd1 : (bo == 1099511627776) = true := by simpa using hb
      go_wp2_with fail
      go_ret
      exact hend (Mod.refl _ _) (by simp [limitI, hb])
    · have hd1 : (bo == 1099511627776) = false := by simpa using hb
      go_wp2_with (first
        | (go_at_call 57; refine hfi4.mono ?_; rintro e w5 ⟨hf, hx⟩; rw [hx]; clear hx; obtain ⟨i, rfl, -, -⟩ := find_has hf; clear hf)
        | fail)
      go_ret
      exact hend (Mod.refl _ _) (by simp [limitI, changeB, hb])
end Go.Proofs.YtpphoeimakjjdaaGreatDoor
