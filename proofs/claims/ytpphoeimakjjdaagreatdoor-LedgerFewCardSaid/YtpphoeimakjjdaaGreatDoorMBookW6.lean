/-
  WALKS: layer 11: may it be a record?
-/
import Derived.Test.YtpphoeimakjjdaaGreatDoorMBookW5
import Derived.Test.YtpphoeimakjjdaaGreatDoorMBookD
namespace Go.Proofs.YtpphoeimakjjdaaGreatDoor
open Go.RowKit

/-- a record as a value: twelve cells, the grant's six among them -/
def cellsR (r : Rcd) (sv tv : Value) : List Value := [.int .i64 r.kind, .int .i64 r.grant.id, .int .i64 r.grant.holder, .string r.grant.path, .int .i64 r.grant.mode, sv, .int .i64 r.grant.term, .int .i64 r.id, tv, .int .i64 r.next, .int .i64 r.boots, .int .i64 r.longest]
def aggR (r : Rcd) (sv tv : Value) : Value := .agg (cellsR r sv tv).toArray
theorem rdN_nil (w : World) : RdN w (.slice none 0 0) [] := ⟨Nat.zero_le _, .inl ⟨none, 0, rfl, rfl⟩⟩
theorem bare_dec (nx bo lo : Int) : decide (nx = 0 ∧ bo = 0 ∧ lo = 0) = ((nx == 0) && ((bo == 0) && (lo == 0))) := by
  rw [Bool.eq_iff_iff]; simp
theorem noId_dec (id : Int) (s : List Int) : decide (id = 0 ∧ s = []) = ((id == 0) && decide (s.length = 0)) := by
  rw [Bool.eq_iff_iff]; simp
set_option maxHeartbeats 4000000 in
set_option maxRecDepth 100000 in
theorem mayRec_any {w : World} {r : Rcd} {sv tv : Value} (hg : RdN w sv r.grant.stamp) (hs : RdN w tv r.stamp) (hp : r.grant.path.size ≤ 9223372036854775807) :
    Calls Tryz.prog 80 #[aggR r sv tv] w fun e w' => e = .returned (.bool (mayB r)) ∧ Mod [] w w' := by
  obtain ⟨kd, ⟨gi, gh, gp, gm, gs, gt⟩, ri, rs, nx, bo, lo⟩ := r
  simp only at hg hs hp
  unfold aggR cellsR
  simp only
  obtain ⟨q2, c2, rfl⟩ := hs.len
  obtain ⟨q1, c1, rfl⟩ := hg.len
  -- what the callees answer
  have k1 := fun {W : World} (g : Gr w W) => sameGrant_any (x := ⟨gi, gh, gp, gm, gs, gt⟩) (y := Grt.zero) (hg.gr g) (rdN_nil W)
  have k2 := fun {W : World} (m : Mod [] w W) => mayGrant_any (g := ⟨gi, gh, gp, gm, gs, gt⟩) (hg.mod m (by simp)) hp
  have k3 := fun {W : World} (m : Mod [] w W) => newest_any (hg.mod m (by simp))
  have k4 := fun {W : World} (m : Mod [] w W) => stamped_any (hs.mod m (by simp))
  have k5 := fun (W : World) => counter_any ri W
  have k6 := fun (W : World) => heads_any nx bo W
  have k7 : ∀ W : World, Calls Tryz.prog 115 #[.int .i64 lo] W fun e w' => e = .returned (.bool (decide (legalT lo))) ∧ w' = W := fun W => legal_any lo W
  have hm63 : rs.length ≤ 9223372036854775807 := hs.1
  obtain ⟨R, hR⟩ : ∃ R, mayB ⟨kd, ⟨gi, gh, gp, gm, gs, gt⟩, ri, rs, nx, bo, lo⟩ = R := ⟨_, rfl⟩
  rw [hR]
  have r1 := may1 (r := ⟨kd, ⟨gi, gh, gp, gm, gs, gt⟩, ri, rs, nx, bo, lo⟩)
  have r2 := may2 (r := ⟨kd, ⟨gi, gh, gp, gm, gs, gt⟩, ri, rs, nx, bo, lo⟩)
  have r3 := may3 (r := ⟨kd, ⟨gi, gh, gp, gm, gs, gt⟩, ri, rs, nx, bo, lo⟩)
  have r4 := may4 (r := ⟨kd, ⟨gi, gh, gp, gm, gs, gt⟩, ri, rs, nx, bo, lo⟩)
  have r5 := may5 (r := ⟨kd, ⟨gi, gh, gp, gm, gs, gt⟩, ri, rs, nx, bo, lo⟩)
  have r6 := may6 (r := ⟨kd, ⟨gi, gh, gp, gm, gs, gt⟩, ri, rs, nx, bo, lo⟩)
  have r7 := may7 (r := ⟨kd, ⟨gi, gh, gp, gm, gs, gt⟩, ri, rs, nx, bo, lo⟩)
  have r8 : (kd < 1 ∨ 7 < kd) → R = false := fun h => by
    cases hb : R with
    | false => rfl
    | true =>
      rw [hb] at hR
      have := may_kind hR
      simp only at this
      omega
  have e6 : decide (rs = []) = decide (rs.length = 0) := by rw [Bool.eq_iff_iff]; simp
  simp only [hR, bareB, noGrant, noId, e6] at r1 r2 r3 r4 r5 r6 r7
  generalize grantB ⟨gi, gh, gp, gm, gs, gt⟩ = GB at k2 r3 r4
  generalize decide ((⟨gi, gh, gp, gm, gs, gt⟩ : Grt) = Grt.zero) = NG at k1 r1 r2 r5 r6 r7
  generalize lastI gs = LG at k3 r4
  generalize stmB rs = SB at k4 r5
  generalize decide (countOk ri) = CI at k5 r5 r6
  generalize headsB nx bo = HB at k6 r1
  generalize decide (legalT lo) = LT at k7 r2
  obtain ⟨BR, hBR⟩ : ∃ BR, decide (nx = 0 ∧ bo = 0 ∧ lo = 0) = BR := ⟨_, rfl⟩
  obtain ⟨NI, hNI⟩ : ∃ NI, decide (ri = 0 ∧ rs = []) = NI := ⟨_, rfl⟩
  rw [hBR] at r3 r4 r5 r6 r7
  rw [hNI] at r1 r2 r3 r4 r7
  rw [bare_dec] at hBR
  rw [noId_dec] at hNI
  generalize rs.length = n at hm63 hNI k4 r6
  have HR := hide (And.intro r1 (And.intro r2 (And.intro r3 (And.intro r4 (And.intro r5 (And.intro r6 (And.intro r7 r8)))))))
  have HBR := hide hBR
  have HNI := hide hNI
  clear r1 r2 r3 r4 r5 r6 r7 r8 hBR hNI hR e6 hg hs hp
  obtain ⟨W0, hW0⟩ : ∃ W0, W0 = w.alloc (.cells #[.int .i64 kd, .int .i64 gi, .int .i64 gh, .string gp, .int .i64 gm, .slice q1 gs.length c1, .int .i64 gt, .int .i64 ri, .slice q2 n c2, .int .i64 nx, .int .i64 bo, .int .i64 lo] 42 (0, 0)) := ⟨_, rfl⟩
  have hb0 : W0.heap[w.heap.size]? = some (.cells #[.int .i64 kd, .int .i64 gi, .int .i64 gh, .string gp, .int .i64 gm, .slice q1 gs.length c1, .int .i64 gt, .int .i64 ri, .slice q2 n c2, .int .i64 nx, .int .i64 bo, .int .i64 lo] 42 (0, 0)) := by rw [hW0]; exact heap_alloc_new w _
  have hgr : Gr w W0 := by rw [hW0]; exact (Gr.refl w).alloc _
  have k1 := k1 hgr
  unfold aggG cellsG Grt.zero at k1
  simp only at k1
  have HW := hide (And.intro hb0 hgr)
  have g1 : W0.cell? ⟨w.heap.size, 1, none⟩ = some (.int .i64 gi) := blk_cell hb0 1
  have g2 : W0.cell? ⟨w.heap.size, 2, none⟩ = some (.int .i64 gh) := blk_cell hb0 2
  have g3 : W0.cell? ⟨w.heap.size, 3, none⟩ = some (.string gp) := blk_cell hb0 3
  have g4 : W0.cell? ⟨w.heap.size, 4, none⟩ = some (.int .i64 gm) := blk_cell hb0 4
  have g5 : W0.cell? ⟨w.heap.size, 5, none⟩ = some (.slice q1 gs.length c1) := blk_cell hb0 5
  have g6 : W0.cell? ⟨w.heap.size, 6, none⟩ = some (.int .i64 gt) := blk_cell hb0 6
  have a1 : W0.cell? ⟨w.heap.size, 9, none⟩ = some (.int .i64 nx) := blk_cell hb0 9
  have a2 : W0.cell? ⟨w.heap.size, 10, none⟩ = some (.int .i64 bo) := blk_cell hb0 10
  have a3 : W0.cell? ⟨w.heap.size, 11, none⟩ = some (.int .i64 lo) := blk_cell hb0 11
  clear hb0 hgr
  go_enter Tryz.func80, Tryz.ntmps80
  go_upto_region 1 with fail
  rw [← hW0]
  clear hW0
  go_cut [3] (fun s3 wx => s3 = .bool BR ∧ wx = W0)
  case first =>
    clear k1 k2 k3 k4 k5 k6 k7 g1 g2 g3 g4 g5 g6 HNI HR HW
    have hx := HBR.out
    clear HBR
    cases h1 : (nx == 0) <;> cases h2 : (bo == 0) <;> cases h3 : (lo == 0) <;> rw [h1, h2, h3] at hx <;> have HX := hide hx <;> clear hx
    all_goals
      go_wp2_with fail
      go_meet
      case rel => exact ⟨by rw [← HX.out]; rfl, rfl⟩
  case rest =>
  obtain ⟨rfl, rfl⟩ := hcut
  go_upto_region 3 with (go_at_call 118; refine k1.mono ?_; rintro e w1 ⟨rfl, hm1⟩
                         have hb1 := hm1.at_ HW.out.1 (by simp)
                         have a4 : w1.cell? ⟨w.heap.size, 7, none⟩ = some (.int .i64 ri) := blk_cell hb1 7
                         have a5 : w1.cell? ⟨w.heap.size, 8, none⟩ = some (.slice q2 n c2) := blk_cell hb1 8
                         have HW1 := hide (And.intro hb1 ((HW.out.2.mod []).then hm1))
                         clear hb1 hm1 a1 a2 a3 g1 g2 g3 g4 g5 g6)
  go_cut [5] (fun s5 wx => s5 = .bool NI ∧ wx = w1)
  case first =>
    clear k1 k2 k3 k4 k5 k6 k7 HR HW HW1
    have hx := HNI.out
    have hdn : decide (n = 0) = ((n : Int) == 0) := by rw [Bool.eq_iff_iff]; simp
    rw [hdn] at hx
    clear HNI hdn
    cases h1 : (ri == 0) <;> cases h2 : ((n : Int) == 0) <;> rw [h1, h2] at hx <;> have HX := hide hx <;> clear hx
    all_goals
      go_wp2_with fail
      go_meet
      case rel => exact ⟨by rw [← HX.out]; rfl, rfl⟩
  case rest =>
  obtain ⟨rfl, rfl⟩ := hcut
  obtain ⟨X, rfl⟩ : ∃ X : World, X = wc := ⟨_, rfl⟩
  have hb := HW1.out.1
  have b0 : X.cell? ⟨w.heap.size, 0, none⟩ = some (.int .i64 kd) := blk_cell hb 0
  have b1 : X.cell? ⟨w.heap.size, 1, none⟩ = some (.int .i64 gi) := blk_cell hb 1
  have b2 : X.cell? ⟨w.heap.size, 2, none⟩ = some (.int .i64 gh) := blk_cell hb 2
  have b3 : X.cell? ⟨w.heap.size, 3, none⟩ = some (.string gp) := blk_cell hb 3
  have b4 : X.cell? ⟨w.heap.size, 4, none⟩ = some (.int .i64 gm) := blk_cell hb 4
  have b5 : X.cell? ⟨w.heap.size, 5, none⟩ = some (.slice q1 gs.length c1) := blk_cell hb 5
  have b6 : X.cell? ⟨w.heap.size, 6, none⟩ = some (.int .i64 gt) := blk_cell hb 6
  have b7 : X.cell? ⟨w.heap.size, 7, none⟩ = some (.int .i64 ri) := blk_cell hb 7
  have b8 : X.cell? ⟨w.heap.size, 8, none⟩ = some (.slice q2 n c2) := blk_cell hb 8
  have b9 : X.cell? ⟨w.heap.size, 9, none⟩ = some (.int .i64 nx) := blk_cell hb 9
  have b10 : X.cell? ⟨w.heap.size, 10, none⟩ = some (.int .i64 bo) := blk_cell hb 10
  have b11 : X.cell? ⟨w.heap.size, 11, none⟩ = some (.int .i64 lo) := blk_cell hb 11
  clear hb k1 HBR HNI HW
  unfold aggG cellsG at k2
  simp only at k2
  have hkd : kd = 1 ∨ kd = 2 ∨ kd = 4 ∨ kd = 3 ∨ kd = 5 ∨ kd = 6 ∨ kd = 7 ∨ (kd < 1 ∨ 7 < kd) := by omega
  rcases hkd with rfl | rfl | rfl | rfl | rfl | rfl | rfl | hkd
  · have hr := HR.out.1 rfl
    clear HR k2 k3 k4 k5 k7
    have hd : decide (lo = 0) = (lo == 0) := by rw [Bool.eq_iff_iff]; simp
    rw [hd] at hr
    clear hd
    cases HB <;> cases h1 : (lo == 0) <;> cases NG <;> rw [h1] at hr <;> have HX := hide hr <;> clear hr
    all_goals
      go_wp2_with (first | (go_at_call 114; refine (k6 _).mono ?_; rintro e w2 ⟨rfl, rfl⟩) | fail)
      go_ret
      exact ⟨by rw [HX.out]; rfl, HW1.out.2⟩
  · have hr := HR.out.2.1 rfl
    clear HR k2 k3 k4 k5 k6
    have hd : decide (nx = 0 ∧ bo = 0) = ((nx == 0) && (bo == 0)) := by rw [Bool.eq_iff_iff]; simp
    rw [hd] at hr
    clear hd
    cases LT <;> cases h1 : (nx == 0) <;> cases h2 : (bo == 0) <;> cases NG <;> rw [h1, h2] at hr <;> have HX := hide hr <;> clear hr
    all_goals
      go_wp2_with (first | (go_at_call 115; refine (k7 _).mono ?_; rintro e w2 ⟨rfl, rfl⟩) | fail)
      go_ret
      exact ⟨by rw [HX.out]; rfl, HW1.out.2⟩
  · have hr := HR.out.2.2.2.1 rfl
    clear HR k4 k5 k6 k7
    by_cases hL : LG = gi
    · have hb : (LG != gi) = false := by simpa using hL
      rw [decide_eq_true hL] at hr
      have HX := hide hr
      clear hr hL
      go_wp2_with fail
      go_quiet ((first | (go_at_call 117; exact Calls.quiet_of_same (k3 HW1.out.2)) | (go_at_call 117; exact Calls.quiet_of_same (k3 (HW1.out.2.drewN _)))))
      go_wp2_with (first | (go_at_call 116; refine (k2 (HW1.out.2.drewN _)).mono ?_; rintro e w2 ⟨rfl, hm2⟩) | (go_at_call 116; refine (k2 HW1.out.2.drew).mono ?_; rintro e w2 ⟨rfl, hm2⟩) | fail)
      all_goals
        go_ret
        exact ⟨by rw [HX.out]; simp [*], (HW1.out.2.drewN _).then hm2⟩
    · have hb : (LG != gi) = true := by rw [bne_iff_ne]; exact hL
      rw [decide_eq_false hL] at hr
      have HX := hide hr
      clear hr hL k2
      go_wp2_with fail
      go_quiet ((first | (go_at_call 117; exact Calls.quiet_of_same (k3 HW1.out.2)) | (go_at_call 117; exact Calls.quiet_of_same (k3 (HW1.out.2.drewN _)))))
      go_wp2_with fail
      go_ret
      exact ⟨by rw [HX.out]; rfl, HW1.out.2.drewN _⟩
  · have hr := HR.out.2.2.1 rfl
    clear HR k3 k4 k5 k6 k7
    have HX := hide hr
    clear hr
    go_wp2_with (first | (go_at_call 116; refine (k2 HW1.out.2).mono ?_; rintro e w2 ⟨rfl, hm2⟩) | fail)
    all_goals
      go_ret
      exact ⟨by rw [HX.out]; simp [*], HW1.out.2.then hm2⟩
  · have hr := HR.out.2.2.2.2.1 rfl
    clear HR k2 k3 k6 k7
    cases CI <;> cases SB <;> cases BR <;> have HX := hide hr <;> clear hr
    all_goals
      go_wp2_with (first | (go_at_call 119; refine (k5 _).mono ?_; rintro e w2 ⟨rfl, rfl⟩) | (go_at_call 120; refine (k4 HW1.out.2).mono ?_; rintro e w2 ⟨rfl, rfl⟩) | fail)
      go_ret
      exact ⟨by rw [HX.out]; rfl, HW1.out.2⟩
  · have hr := HR.out.2.2.2.2.2.1 rfl
    clear HR k2 k3 k4 k6 k7
    have hd : decide (n = 0) = ((n : Int) == 0) := by rw [Bool.eq_iff_iff]; simp
    rw [hd] at hr
    clear hd
    cases CI <;> cases h1 : ((n : Int) == 0) <;> cases BR <;> rw [h1] at hr <;> have HX := hide hr <;> clear hr
    all_goals
      go_wp2_with (first | (go_at_call 119; refine (k5 _).mono ?_; rintro e w2 ⟨rfl, rfl⟩) | fail)
      go_ret
      exact ⟨by rw [HX.out]; rfl, HW1.out.2⟩
  · have hr := HR.out.2.2.2.2.2.2.1 rfl
    clear HR k2 k3 k4 k5 k6 k7
    cases BR <;> cases NG <;> have HX := hide hr <;> clear hr
    all_goals
      go_wp2_with fail
      go_ret
      exact ⟨by rw [HX.out]; rfl, HW1.out.2⟩
  · have hr := HR.out.2.2.2.2.2.2.2 hkd
    have n1 : (kd == 1) = false := by simp; omega
    have n2 : (kd == 2) = false := by simp; omega
    have n3 : (kd == 3) = false := by simp; omega
    have n4 : (kd == 4) = false := by simp; omega
    have n5 : (kd == 5) = false := by simp; omega
    have n6 : (kd == 6) = false := by simp; omega
    have n7 : (kd == 7) = false := by simp; omega
    have HX := hide hr
    clear hr HR hkd k2 k3 k4 k5 k6 k7
    go_wp2_with fail
    go_ret
    exact ⟨by rw [HX.out]; rfl, HW1.out.2⟩
end Go.Proofs.YtpphoeimakjjdaaGreatDoor
