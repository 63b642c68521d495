/-
  WALKS: the document's layer 17: Add. (The great seat alone.)
-/
import Derived.Test.YtifllaeldcimgaaGreatRefHold6
import Derived.Deep.DeepCutAuto
namespace Go.Proofs.YtifllaeldcimgaaGreat
open Go.RowKit

set_option maxHeartbeats 4000000 in
set_option maxRecDepth 100000 in
theorem radd_any {w : World} {v : Value} {fl : List Nat} {l : List Lease} (h : Dc w v fl l) (hs : SrtL l) (hsm : l.length ≤ 8) {rho : Int} (hr : 0 ≤ rho ∧ rho ≤ 999) (f i m t s e : Int) (p : ByteArray) (a : List Int) (r : Bool) (q : Option Addr) (c : Nat) (now sent : Int) (hp : p.size ≤ 9223372036854775806)
    (hv : RdN w (.slice q a.length c) a) :
    Calls Tryz.prog 22 #[.agg #[.int .i64 rho, v], .int .i64 now, .int .i64 sent, .agg #[.int .i64 f, .int .i64 i, .string p, .int .i64 m, .slice q a.length c, .int .i64 t, .int .i64 s, .int .i64 e, .bool r]] w
      fun en w' => DocTo w fl rho (addS rho l now sent ⟨f, i, p, m, a, t, s, e, r⟩).1 (.int .i64 (addS rho l now sent ⟨f, i, p, m, a, t, s, e, r⟩).2) en w' := by
  obtain ⟨pl, cl, rfl⟩ := h.rd.len
  have g1 := (((Gr.refl w).alloc (objD rho (.slice pl l.length cl))).alloc (objL f i p m (.slice q a.length c) t s e r)).alloc (objD 0 (.slice none 0 0))
  have e1 : (w.alloc (objD rho (.slice pl l.length cl))).heap.size = w.heap.size + 1 := by simp
  have e2 : ((w.alloc (objD rho (.slice pl l.length cl))).alloc (objL f i p m (.slice q a.length c) t s e r)).heap.size = w.heap.size + 1 + 1 := by simp
  have bD := blk_alloc (blk_alloc (heap_alloc_new w (objD rho (.slice pl l.length cl))) (objL f i p m (.slice q a.length c) t s e r)) (objD 0 (.slice none 0 0))
  have bL := blk_alloc (heap_alloc_new (w.alloc (objD rho (.slice pl l.length cl))) (objL f i p m (.slice q a.length c) t s e r)) (objD 0 (.slice none 0 0))
  have bZ := heap_alloc_new ((w.alloc (objD rho (.slice pl l.length cl))).alloc (objL f i p m (.slice q a.length c) t s e r)) (objD 0 (.slice none 0 0))
  rw [e1] at bL
  rw [e2] at bZ
  have hD1 := h.same (g1.mod [])
  have hv1 := hv.gr g1
  have HB := hide (And.intro h (And.intro (g1.mod []) (And.intro bD (And.intro bL bZ))))
  clear g1 h hv bD bL bZ e1 e2
  obtain ⟨⟨L', cd'⟩, hsp0⟩ : ∃ sp, addS rho l now sent ⟨f, i, p, m, a, t, s, e, r⟩ = sp := ⟨_, rfl⟩
  rw [hsp0]
  simp only
  have HSP := hide hsp0
  clear hsp0
  go_enter Tryz.func22, Tryz.ntmps22
  go_wp2_with fail
  refine (rfault_any hD1 (by omega) hr f i m t s e p a r q c now sent hp hv1).mono ?_
  rintro en w2 ⟨rfl, hm2⟩
  obtain ⟨h, hm1, bD1, bL1, bZ1⟩ := HB.out
  have bD := hm2.at_ bD1 (by simp)
  have bL := hm2.at_ bL1 (by simp)
  have bZ := hm2.at_ bZ1 (by simp)
  have hm := hm1.then hm2
  have h2 := h.same hm
  have hv2 := hv1.mod hm2 (by simp)
  clear HB hm1 bD1 bL1 bZ1 hD1 hv1 hm2
  obtain ⟨z, hz⟩ : ∃ z, faultS rho l now sent ⟨f, i, p, m, a, t, s, e, r⟩ = z := ⟨_, rfl⟩
  rw [hz]
  have CD := blk_cell bD
  have CL := blk_cell bL
  have CZ := blk_cell bZ
  have FZ := blk_free bZ
  have hw2 := lt_of_block bZ
  by_cases hz0 : z = 0
  · subst hz0
    obtain ⟨hk, hlen, hto, hmo, _, _⟩ := fault_zero (x := ⟨f, i, p, m, a, t, s, e, r⟩) hr hz
    have hsp : addS rho l now sent ⟨f, i, p, m, a, t, s, e, r⟩ = (putL (keptL rho sent ⟨f, i, p, m, a, t, s, e, r⟩) (sweepL now l), 0) := by
      unfold addS; rw [if_pos hz]
    obtain ⟨rfl, rfl⟩ := Prod.mk.inj (HSP.out.symm.trans hsp)
    have hal := okL_stamp hk
    replace hal : a.length ≤ 4 := hal
    replace hto : termOk t rho := hto
    have HX := hide (And.intro h (And.intro hm (And.intro bD (And.intro bL (And.intro bZ hv2)))))
    clear hz hk hlen HSP hsp h hm bD bL bZ hv2
    go_wp2_with fail
    refine (rsweep_any h2 (by omega) rho now).mono ?_
    rintro en w3 ⟨v3, rfl, hd3⟩
    obtain ⟨p3, c3, rfl⟩ := hd3.shape
    obtain ⟨h, hm, bD, bL, bZ, hv2⟩ := HX.out
    obtain ⟨f3, hD3, hf3, hm3⟩ := hd3
    have gS := (Gr.refl w3).alloc (objD rho (.slice p3 (sweepL now l).length c3))
    have bD3 := blk_alloc (hm3.at_ bD (by simp)) (objD rho (.slice p3 (sweepL now l).length c3))
    have bL3 := blk_alloc (hm3.at_ bL (by simp)) (objD rho (.slice p3 (sweepL now l).length c3))
    have bZ3 := blk_alloc (hm3.at_ bZ (by simp)) (objD rho (.slice p3 (sweepL now l).length c3))
    have bS3 := heap_alloc_new w3 (objD rho (.slice p3 (sweepL now l).length c3))
    have hm4 := (hm.then hm3).gr gS
    have hD4 := hD3.same (gS.mod [])
    have hv4 := (hv2.mod hm3 (by simp)).gr gS
    have HX2 := hide (And.intro h (And.intro hm4 (And.intro hD4 (And.intro hf3 (And.intro bZ3 (And.intro bS3 (And.intro bL3 hv4)))))))
    have CD4 := blk_cell bD3
    have CL4 := blk_cell bL3
    clear HX h hm bD bL bZ hv2 hD3 hf3 hm3 gS bD3 bL3 bZ3 bS3 hm4 hD4 hv4 h2 CD CL CZ FZ
    go_wp2_with fail
    refine (rshrink_ok hto _).mono ?_
    rintro en w5 ⟨rfl, rfl⟩
    have hsb := shrinkI_bound hto
    obtain ⟨n, hn⟩ : ∃ n, shrinkI t rho = n := ⟨_, rfl⟩
    rw [hn] at hsb ⊢
    have HNN := hide hn
    have hmo2 := hmo
    unfold momOk at hmo2
    have e4 : IntKind.i64.wrap (sent + n) = sent + n := IntWalk.i64_in _ (by omega)
    clear hn hto
    generalize w3.alloc (objD rho (.slice p3 (sweepL now l).length c3)) = W5 at CD4 CL4 HX2 ⊢
    have k0 : W5.cell? ⟨w.heap.size + 1, 0, none⟩ = some (.int .i64 f) := CL4 0
    have k1 : W5.cell? ⟨w.heap.size + 1, 1, none⟩ = some (.int .i64 i) := CL4 1
    have k2 : W5.cell? ⟨w.heap.size + 1, 2, none⟩ = some (.string p) := CL4 2
    have k3 : W5.cell? ⟨w.heap.size + 1, 3, none⟩ = some (.int .i64 m) := CL4 3
    have k4 : W5.cell? ⟨w.heap.size + 1, 4, none⟩ = some (.slice q a.length c) := CL4 4
    have k5 : W5.cell? ⟨w.heap.size + 1, 5, none⟩ = some (.int .i64 t) := CL4 5
    have hal2 : a.length ≤ 1000000 := by omega
    clear CD4 CL4
    have KA : ∀ (S : List Nat) w', (w.heap.size + 1) ∉ S → Mod S W5 w' → w'.cell? ⟨w.heap.size + 1, 0, none⟩ = some (.int .i64 f) ∧ w'.cell? ⟨w.heap.size + 1, 1, none⟩ = some (.int .i64 i) ∧ w'.cell? ⟨w.heap.size + 1, 2, none⟩ = some (.string p) ∧ w'.cell? ⟨w.heap.size + 1, 3, none⟩ = some (.int .i64 m) ∧ w'.cell? ⟨w.heap.size + 1, 4, none⟩ = some (.slice q a.length c) ∧ w'.cell? ⟨w.heap.size + 1, 5, none⟩ = some (.int .i64 t) :=
      fun S w' hS hx => ⟨hx.kept k0 hS, hx.kept k1 hS, hx.kept k2 hS, hx.kept k3 hS, hx.kept k4 hS, hx.kept k5 hS⟩
    have KA' := hide KA
    have hl5 : w.heap.size + 1 < W5.heap.size := World.block_lt_of_cell? W5 _ k0
    clear KA
    go_upto_region 6 with fail
    go_cut [15] (fun s15 wx => ∃ (bx : Nat) (p6 : Option Addr) (c6 : Nat), Mod [] W5 wx ∧ W5.heap.size ≤ bx ∧ RowI wx (.slice p6 a.length c6) a ∧ (∀ k, k ∈ ob (.slice p6 a.length c6) → W5.heap.size ≤ k ∧ k < wx.heap.size) ∧ s15 = .pointer (some ⟨bx, 0, none⟩) ∧ wx.heap[bx]? = some (objL f i p m (.slice p6 a.length c6) t sent (sent + n) false))
    case first =>
      go_region_held3 (fun w' => w'.cell? ⟨w.heap.size + 1, 0, none⟩ = some (.int .i64 f) ∧ w'.cell? ⟨w.heap.size + 1, 1, none⟩ = some (.int .i64 i) ∧ w'.cell? ⟨w.heap.size + 1, 2, none⟩ = some (.string p) ∧ w'.cell? ⟨w.heap.size + 1, 3, none⟩ = some (.int .i64 m) ∧ w'.cell? ⟨w.heap.size + 1, 4, none⟩ = some (.slice q a.length c) ∧ w'.cell? ⟨w.heap.size + 1, 5, none⟩ = some (.int .i64 t))
        (first | go_keep | fail)
        (first
          | (go_at_call 57; refine (rcopy_any (w := W5.drew) (HX2.out.2.2.2.2.2.2.2.gr (Gr.refl W5).drew) hal2).mono ?_; rintro e w6 ⟨v6, rfl, ho6, hm6⟩; obtain ⟨p6, c6, rfl⟩ := row_shape ho6; have hm6' : Mod [] W5 w6 := (Mod.then (Gr.mod (Gr.drew (Gr.refl W5)) []) hm6); obtain ⟨j0, j1, j2, j3, j4, j5⟩ := KA'.out [] w6 (by simp) hm6'; have n0 : w6.heap.size ≠ w.heap.size + 1 := (by have := hm6'.size; omega); have n1 : w.heap.size + 1 ≠ w6.heap.size := (by omega))
          | (go_at_call 57; refine (rcopy_any (w := (W5.alloc objZ).drew) (HX2.out.2.2.2.2.2.2.2.gr ((Gr.refl W5).alloc objZ).drew) hal2).mono ?_; rintro e w6 ⟨v6, rfl, ho6, hm6⟩; obtain ⟨p6, c6, rfl⟩ := row_shape ho6; have hm6' : Mod [] W5 w6 := (Mod.then (Gr.mod (Gr.drew (Gr.alloc (Gr.refl W5) objZ)) []) hm6); obtain ⟨j0, j1, j2, j3, j4, j5⟩ := KA'.out [] w6 (by simp) hm6'; have hz6 : w6.heap[W5.heap.size]? = some objZ := hm6.at_ (show (World.drew _).heap[_]? = _ from heap_alloc_new W5 objZ) (by simp); have CZ6 := blk_cell hz6; have FZ6 := blk_free hz6; have n0 : W5.heap.size ≠ w.heap.size + 1 := (by omega); have n1 : w.heap.size + 1 ≠ W5.heap.size := (by omega))
          | fail)
      · have hob : ∀ k, k ∈ ob (.slice p6 a.length c6) → W5.heap.size ≤ k ∧ k < w6.heap.size := ob_row ho6
        have g7 := (Gr.refl w6).alloc (objL f i p m (.slice p6 a.length c6) t sent (sent + n) false)
        have hbx := heap_alloc_new w6 (objL f i p m (.slice p6 a.length c6) t sent (sent + n) false)
        have hr7 := (RowI.of ho6).gr g7
        have hsz := hm6'.size
        have hg7 := g7.size
        have HF := hide (And.intro (hm6'.gr g7) (And.intro hsz (And.intro hr7 (And.intro (fun k (hk : k ∈ ob (.slice p6 a.length c6)) => And.intro (hob k hk).1 (Nat.lt_of_lt_of_le (hob k hk).2 hg7)) hbx))))
        clear hob g7 hbx hr7 hsz hg7 hm6 hm6' ho6
        go_wp2_with fail
        go_meet
        case rel => exact ⟨w6.heap.size, p6, c6, HF.out.1, HF.out.2.1, HF.out.2.2.1, HF.out.2.2.2.1, rfl, HF.out.2.2.2.2⟩
      · have hob : ∀ k, k ∈ ob (.slice p6 a.length c6) → W5.heap.size + 1 ≤ k ∧ k < w6.heap.size := fun k hk => by
          have := ob_row ho6 k hk
          have e : (W5.alloc objZ).drew.heap.size = W5.heap.size + 1 := by show (W5.alloc objZ).heap.size = _; simp
          omega
        have q7 := st9_heap hz6 rfl (.int .i64 f) (.int .i64 i) (.string p) (.int .i64 m) (.slice p6 a.length c6) (.int .i64 t) (.int .i64 sent) (.int .i64 (sent + n)) (.bool false)
        have m7 := st9_mod w6 w6 (Mod.refl [W5.heap.size] w6) W5.heap.size (fun _ => by simp) (.int .i64 f) (.int .i64 i) (.string p) (.int .i64 m) (.slice p6 a.length c6) (.int .i64 t) (.int .i64 sent) (.int .i64 (sent + n)) (.bool false)
        have hr7 := (RowI.of ho6).mod m7 (fun x hx e => by have := hob x hx; simp at e; omega)
        have hmm : Mod [] W5 _ := hm6'.trans m7 (U := []) (by simp) (fun x hx hlt => by simp at hx; omega)
        have hg7 := m7.size
        have HF := hide (And.intro hmm (And.intro hr7 (And.intro (fun k (hk : k ∈ ob (.slice p6 a.length c6)) => And.intro (Nat.le_of_succ_le (hob k hk).1) (Nat.lt_of_lt_of_le (hob k hk).2 hg7)) q7)))
        clear hob q7 m7 hr7 hmm hg7 hm6 hm6' ho6 hz6
        go_wp2_with fail
        go_meet
        case rel => exact ⟨W5.heap.size, p6, c6, HF.out.1, Nat.le_refl _, HF.out.2.1, HF.out.2.2.1, rfl, HF.out.2.2.2⟩
    case rest =>
      obtain ⟨bx, p6, c6, hm6, hbx, hr6, ho6, rfl, bX6⟩ := hcut
      obtain ⟨h, hm4, hD4, hf4, bZ3, bS3, bL3, hv4⟩ := HX2.out
      have CX6 := blk_cell bX6
      have CS6 := blk_cell (hm6.at_ bS3 (by simp))
      have hsw : (sweepL now l).length ≤ 8 := by have := List.length_filter_le (fun x : Lease => decide (now < x.expiry)) l; unfold sweepL; omega
      have hs4 := hm4.size
      have hl52 := lt_of_block bZ3
      have HY := hide (And.intro h (And.intro (hm4.then hm6) (And.intro (hD4.same hm6) (And.intro hf4 (And.intro (hm6.at_ bZ3 (by simp)) (And.intro hr6 ho6))))))
      clear h hm4 hD4 hf4 bZ3 bS3 bL3 hv4 HX2 hm6 hr6 ho6 bX6 KA' k0 k1 k2 k3 k4 k5
      go_wp2_with fail
      obtain ⟨h, hm6, hD6, hf4, bZ6, hr6, ho6⟩ := HY.out
      have hss := sweepL_srt hs now
      have hX : LsV wc (ob (.slice p6 a.length c6) ++ f3) (⟨f, i, p, m, a, t, sent, sent + n, false⟩, .slice p6 a.length c6) := ⟨hr6, fun k hk => List.mem_append_left _ hk⟩
      have hD9 : Dc wc (.slice p3 (sweepL now l).length c3) (ob (.slice p6 a.length c6) ++ f3) (sweepL now l) := hD6.mono (fun k hk => List.mem_append_right _ hk) (fun k hk => by
        rcases List.mem_append.1 hk with e | e
        · exact (ho6 k e).2
        · exact hD6.lt k e)
      refine (rput_any hD9 (by omega) rho f i m t sent (sent + n) p a false p6 c6 hX (putGo_small hss hsw _)).mono ?_
      rintro en w10 ⟨v', rfl, hd⟩
      rw [putGo_eq hss] at hd
      have CZ4 := blk_cell (hd.md.at_ bZ6 (by simp))
      have FZ4 := blk_free (hd.md.at_ bZ6 (by simp))
      obtain ⟨hb, hd2⟩ := hd.box2 (f := fl) rho hm6 (by omega : w.heap.size ≤ w.heap.size + 1 + 1) (fun k hk => by
        rcases List.mem_append.1 hk with e | e
        · have := ho6 k e; exact ⟨by omega, .inr (by omega)⟩
        · rcases hf4 k e with g | g
          · have := h.lt k g; exact ⟨by omega, .inl g⟩
          · exact ⟨by omega, .inr (by omega)⟩) bZ6
      obtain ⟨p4, c4', rfl⟩ := hd.shape
      have hrn : keptL rho sent ⟨f, i, p, m, a, t, s, e, r⟩ = ⟨f, i, p, m, a, t, sent, sent + n, false⟩ := by
        unfold keptL
        simp only
        rw [HNN.out]
      clear hX hd hD9 h hm6 hD6 hf4 bZ6 hr6 ho6 HY CX6 CS6
      go_wp2_with fail
      exact bodyPost_ret (res_cell2 Tryz.results22 _ _ rfl hb Tryz.isAgg30 Tryz.sizeOf30 rfl) rfl ⟨_, rfl, by rw [hrn]; exact hd2⟩
  · have hsp : addS rho l now sent ⟨f, i, p, m, a, t, s, e, r⟩ = (l, z) := by
      unfold addS; rw [hz, if_neg hz0]
    obtain ⟨rfl, rfl⟩ := Prod.mk.inj (HSP.out.symm.trans hsp)
    have hz1 : (cd' != 0) = true := by simpa using hz0
    have HX := hide (And.intro h (And.intro hm bZ))
    clear hz hz0 HSP hsp h hm bD bL bZ hv2 h2
    go_wp2_with fail
    obtain ⟨h, hm, bZ⟩ := HX.out
    obtain ⟨hb, hd⟩ := h.box rho hm (by omega : w.heap.size ≤ w.heap.size + 1 + 1) bZ
    exact bodyPost_ret (res_cell2 Tryz.results22 _ _ rfl hb Tryz.isAgg30 Tryz.sizeOf30 rfl) rfl ⟨_, rfl, hd⟩
end Go.Proofs.YtifllaeldcimgaaGreat
