/-
  WALKS: layer 10: Look.
-/
import Derived.Test.YtkfhapidoolfdaaGreatDoorBytes2
import Derived.Test.YtkfhapidoolfdaaGreatDoorOctS
import Derived.Test.YtkfhapidoolfdaaGreatDoorSec
import Derived.Test.YtkfhapidoolfdaaGreatDoorResC
import Derived.Test.YtkfhapidoolfdaaGreatDoorTrim
import Derived.Shelf.Abstract
import Derived.BigQuiet
import Derived.Deep.RegionHeld3
import Derived.Deep.DeepCutAuto
import Derived.Deep.DrawnRows
import Derived.StillTailTactics
namespace Go.Proofs.YtkfhapidoolfdaaGreatDoor
open Go.RowKit Go.Shelf

/-- what Look answers -/
def LookTo (w : World) (o : Option Prt) (e : Ending) (w' : World) : Prop :=
  match o with
  | none => e = .returned (.tuple #[.agg #[.int .i64 0, .int .i64 0, .int .i64 0, .int .i64 0, .slice none 0 0], .int .i64 43]) ∧ Mod [] w w'
  | some p => ∃ q c, e = .returned (.tuple #[.agg #[.int .i64 (p.gen : Int), .int .i64 (p.seq : Int), .int .i64 (p.index : Int), .int .i64 (p.parts : Int), .slice q p.data.length c], .int .i64 0]) ∧ RowY w' w.heap.size (.slice q p.data.length c) p.data ∧ Mod [] w w'
def prtCells (p : Prt) (v : Value) : Array Value := #[.int .i64 (p.gen : Int), .int .i64 (p.seq : Int), .int .i64 (p.index : Int), .int .i64 (p.parts : Int), v]
def zeroP : List Value := [.int .i64 0, .int .i64 0, .int .i64 0, .int .i64 0, .slice none 0 0]
def objP0 : Obj := .cells #[.int .i64 0, .int .i64 0, .int .i64 0, .int .i64 0, .slice none 0 0] 272 (0, 0)
/-- Look answers that it is none -/
theorem look_none {w W : World} {b : B8} (hn : lookS b = none) {tmps : Array Value} (h2 : tmps.getD 2 undef = .pointer (some ⟨w.heap.size, 0, none⟩)) (h3 : tmps.getD 3 undef = .int .i64 43) (hb : ∃ cs T, cs.size = 5 ∧ W.heap[w.heap.size]? = some (.cells cs T (0, 0))) (hm : Mod [w.heap.size] w W) :
    bodyPost Tryz.prog Tryz.f189 (fun e w' => LookTo w (lookS b) e w') Exit.ret { tmps := tmps, defers := [] } (stL W w.heap.size 0 zeroP) := by
  obtain ⟨cs, T, hs, hb⟩ := hb
  have q := stL_all hb zeroP hs
  refine bodyPost_ret (v := .tuple #[.agg zeroP.toArray, .int .i64 43]) (res_cell2 Tryz.results189 _ _ h2 q Tryz.isAgg272 Tryz.sizeOf272 (by rw [h3])) rfl ?_
  rw [hn]
  exact ⟨rfl, (stL_mod (by simp) _ _ _ hm).mono (fun x hx hlt => by simp at hx; omega)⟩
/-- Look answers what the sector has -/
theorem look_some {w X : World} {b : B8} {p : Prt} {q : Option Addr} {c : Nat} (hs : lookS b = some p) {tmps : Array Value} (h2 : tmps.getD 2 undef = .pointer (some ⟨w.heap.size, 0, none⟩)) (h3 : tmps.getD 3 undef = .int .i64 0) (hb : ∃ cs T, cs.size = 5 ∧ X.heap[w.heap.size]? = some (.cells cs T (0, 0)))
    (hr : RowY X (w.heap.size + 1) (.slice q p.data.length c) p.data) (hm : Mod [w.heap.size] w X) :
    bodyPost Tryz.prog Tryz.f189 (fun e w' => LookTo w (lookS b) e w') Exit.ret { tmps := tmps, defers := [] } (stL X w.heap.size 0 [.int .i64 (p.gen : Int), .int .i64 (p.seq : Int), .int .i64 (p.index : Int), .int .i64 (p.parts : Int), .slice q p.data.length c]) := by
  obtain ⟨cs, T, hs5, hb⟩ := hb
  have r := stL_all hb [.int .i64 (p.gen : Int), .int .i64 (p.seq : Int), .int .i64 (p.index : Int), .int .i64 (p.parts : Int), .slice q p.data.length c] hs5
  refine bodyPost_ret (v := .tuple #[.agg #[.int .i64 (p.gen : Int), .int .i64 (p.seq : Int), .int .i64 (p.index : Int), .int .i64 (p.parts : Int), .slice q p.data.length c], .int .i64 0]) (res_cell2 Tryz.results189 _ _ h2 r Tryz.isAgg272 Tryz.sizeOf272 (by rw [h3])) rfl ?_
  rw [hs]
  refine ⟨q, c, rfl, ?_, (stL_mod (by simp) _ _ _ hm).mono (fun x hx hlt => by simp at hx; omega)⟩
  refine (hr.mod (S := [w.heap.size]) (stL_mod (by simp) _ _ _ (Mod.refl _ _)) (fun k hk e => ?_)).base (Nat.le_succ _)
  have := (hr.blk k hk).1
  simp at e
  omega
theorem meets (W1 X : World) (hX : X.heap[W1.heap.size]? = some (.cells zeroP.toArray 272 (0, 0))) (hm : Mod [W1.heap.size] W1 X) (a b c d : Int) :
    (((((X.setCell ⟨W1.heap.size, 0, none⟩ (.int .i64 a)).setCell ⟨W1.heap.size, 1, none⟩ (.int .i64 b)).setCell ⟨W1.heap.size, 2, none⟩ (.int .i64 c)).setCell ⟨W1.heap.size, 3, none⟩ (.int .i64 d)).setCell ⟨W1.heap.size, 4, none⟩ (.slice none 0 0)).heap[W1.heap.size]? = some (.cells #[.int .i64 a, .int .i64 b, .int .i64 c, .int .i64 d, .slice none 0 0] 272 (0, 0)) ∧ W1.heap.size ≤ W1.heap.size ∧
      Mod [] W1 (((((X.setCell ⟨W1.heap.size, 0, none⟩ (.int .i64 a)).setCell ⟨W1.heap.size, 1, none⟩ (.int .i64 b)).setCell ⟨W1.heap.size, 2, none⟩ (.int .i64 c)).setCell ⟨W1.heap.size, 3, none⟩ (.int .i64 d)).setCell ⟨W1.heap.size, 4, none⟩ (.slice none 0 0)) :=
  ⟨stL_all hX [.int .i64 a, .int .i64 b, .int .i64 c, .int .i64 d, .slice none 0 0] rfl, Nat.le_refl _, (stL_mod (S := [W1.heap.size]) (by simp) [.int .i64 a, .int .i64 b, .int .i64 c, .int .i64 d, .slice none 0 0] 0 X hm).mono (fun x hx hlt => by simp at hx; omega)⟩
set_option maxHeartbeats 4000000 in
set_option maxRecDepth 100000 in
theorem look_any {w : World} {u : Value} {b : B8} (hu : RdY w u b) :
    Calls Tryz.prog 189 #[u] w fun e w' => LookTo w (lookS b) e w' := by
  have h1 : b.length ≤ 9223372036854775807 := hu.1
  obtain ⟨q, c, rfl⟩ := hu.len
  have hcap := hu.cap
  by_cases hl : b.length = 64
  · rw [hl] at hu hcap ⊢
    obtain ⟨bb, off, rfl, hbb, -⟩ := hu.at_ 0 (by omega)
    have r60 : RdY w (.slice (some ⟨bb, off + 60, none⟩) 4 (c - 60)) (b.drop 60) := hu.cutA hl 60 (by decide)
    have r4 : RdY w (.slice (some ⟨bb, off + 4, none⟩) 60 (c - 4)) (b.drop 4) := hu.cutA hl 4 (by decide)
    have rs : RdY w (.slice (some ⟨bb, off, none⟩) 60 c) (b.take 60) := hu.takeA hl 60 (by decide)
    obtain ⟨W, hW⟩ : ∃ W, w.alloc objP0 = W := ⟨_, rfl⟩
    have g0 : Gr w W := by rw [← hW]; exact (Gr.refl w).alloc _
    have hW0 : W.heap[w.heap.size]? = some (.cells zeroP.toArray 272 (0, 0)) := by rw [← hW]; exact heap_alloc_new w _
    have z0 : W.cell? ⟨w.heap.size, 0, none⟩ = some (.int .i64 0) := blk_cell hW0 0
    have z1 : W.cell? ⟨w.heap.size, 1, none⟩ = some (.int .i64 0) := blk_cell hW0 1
    have z2 : W.cell? ⟨w.heap.size, 2, none⟩ = some (.int .i64 0) := blk_cell hW0 2
    have z3 : W.cell? ⟨w.heap.size, 3, none⟩ = some (.int .i64 0) := blk_cell hW0 3
    have z4 : W.cell? ⟨w.heap.size, 4, none⟩ = some (.slice none 0 0) := blk_cell hW0 4
    have y0 := blk_free hW0 0
    have y1 := blk_free hW0 1
    have y2 := blk_free hW0 2
    have y3 := blk_free hW0 3
    have y4 := blk_free hW0 4
    have hn60 : ¬ c = 60 := by omega
    have hn4 : ¬ c = 4 := by omega
    have hl60 : 4 ≤ (b.drop 60).length := by simp; omega
    have hl4 : 4 ≤ (b.drop 4).length := by simp; omega
    by_cases hc : ofFour (b.drop 60) = sumB (b.take 60)
    · have bc : ((ofFour (b.drop 60) : Int) != (sumB (b.take 60) : Int)) = false := by simp; omega
      have hcn := fun (n : Nat) => number_any ((r60.gr g0).gr ((Gr.refl _).drewN n)) hl60
      have hsm := fun (n : Nat) => (sum_any ((rs.gr g0).gr ((Gr.refl _).drewN n))).mono (R' := fun e w' => e = .returned (.int .u32 (sumB (b.take 60) : Int)) ∧ w' = W.drewN n) (fun _ _ ⟨p, q⟩ => ⟨p, q.symm⟩)
      have hslt := sumB_lt (b.take 60)
      obtain ⟨b8, o8, hq8, -, c8⟩ := hu.at_ 8 (by omega)
      simp only [Option.some.injEq, Addr.mk.injEq, and_true] at hq8
      obtain ⟨rfl, rfl⟩ := hq8
      obtain ⟨b8, o8, hq8, -, c9⟩ := hu.at_ 9 (by omega)
      simp only [Option.some.injEq, Addr.mk.injEq, and_true] at hq8
      obtain ⟨rfl, rfl⟩ := hq8
      obtain ⟨b8, o8, hq8, -, c10⟩ := hu.at_ 10 (by omega)
      simp only [Option.some.injEq, Addr.mk.injEq, and_true] at hq8
      obtain ⟨rfl, rfl⟩ := hq8
      unfold y8 at c8 c9 c10
      have hg := number_any (hu.gr (g0.drewN 0)) (by omega)
      have hs := number_any (r4.gr (g0.drewN 0)) hl4
      have HC := hide (show decide (ofFour (b.drop 60) = sumB (b.take 60)) = true from by rw [hc]; simp)
      have HL := hide (And.intro hl (And.intro hc hW0))
      have HR := hide (And.intro hu (And.intro r4 (And.intro hl4 hl60)))
      have lt8 := byte_lt (b.getD 8 0)
      have lt9 := byte_lt (b.getD 9 0)
      have lt10 := byte_lt (b.getD 10 0)
      clear hg hs hl hc hW0
      generalize hx60 : ofFour (b.drop 60) = x60 at hcn bc HL
      generalize hxs : sumB (b.take 60) = xs at hsm bc HL hslt
      clear hx60 hxs
      go_enter Tryz.func189, Tryz.ntmps189
      go_wp2_with fail
      change Code.wp _ _ _ _ (w.alloc objP0)
      rw [hW]
      go_quiet ((first | (go_at_call 277; exact Calls.quiet_of (hcn _)) | (go_at_call 278; exact Calls.quiet_of_same (hsm _))))
      clear hcn hsm
      have gW1 : Gr w (W.drewN nq) := g0.drewN nq
      have c8' := gW1.kept c8
      have c9' := gW1.kept c9
      have c10' := gW1.kept c10
      have HZ := hide (And.intro z0 (And.intro z1 (And.intro z2 (And.intro z3 z4))))
      have HF := hide (And.intro y0 (And.intro y1 (And.intro y2 (And.intro y3 y4))))
      clear z0 z1 z2 z3 z4 y0 y1 y2 y3 y4 c8 c9 c10
      go_upto_region 3 with fail
      obtain ⟨W1, hW1⟩ : ∃ W1, W.drewN nq = W1 := ⟨_, rfl⟩
      rw [hW1] at gW1 c8' c9' c10' ⊢
      generalize hy8 : b.getD 8 0 = v8 at c8' lt8
      generalize hy9 : b.getD 9 0 = v9 at c9' lt9
      go_cut [4] (fun s4 wx => ∃ bx, s4 = .pointer (some ⟨bx, 0, none⟩) ∧ wx.heap[bx]? = some (.cells (prtCells ⟨ofFour b, ofFour (b.drop 4), v8.toNat, v9.toNat, []⟩ (.slice none 0 0)) 272 (0, 0)) ∧ W1.heap.size ≤ bx ∧ Mod [] W1 wx)
      case first =>
        have t1 : Hid True := hide trivial
        have t2 : Hid True := hide trivial
        obtain ⟨hdc, hdf⟩ := drewN_new W1
        have hw8 : IntKind.i64.wrap (v8.toNat : Int) = (v8.toNat : Int) := IntWalk.i64_in _ (by omega)
        have hw9 : IntKind.i64.wrap (v9.toNat : Int) = (v9.toNat : Int) := IntWalk.i64_in _ (by omega)
        have hbW : bb < W1.heap.size := Nat.lt_of_lt_of_le hbb gW1.size
        have hne1 : ¬ bb = W1.heap.size := by omega
        have hne2 : ¬ W1.heap.size = bb := by omega
        have ha8 : ∀ (o : Obj), (W1.alloc o).cell? ⟨bb, off + 8, none⟩ = some (.int .u8 (v8.toNat : Int)) := fun o => ((Gr.refl W1).alloc o).kept c8'
        have ha9 : ∀ (o : Obj), (W1.alloc o).cell? ⟨bb, off + 9, none⟩ = some (.int .u8 (v9.toNat : Int)) := fun o => ((Gr.refl W1).alloc o).kept c9'
        have hb8 : ∀ (n : Nat) (o : Obj), ((W1.drewN n).alloc o).cell? ⟨bb, off + 8, none⟩ = some (.int .u8 (v8.toNat : Int)) := fun n o => (((Gr.refl W1).drewN n).alloc o).kept c8'
        have hb9 : ∀ (n : Nat) (o : Obj), ((W1.drewN n).alloc o).cell? ⟨bb, off + 9, none⟩ = some (.int .u8 (v9.toNat : Int)) := fun n o => (((Gr.refl W1).drewN n).alloc o).kept c9'
        go_region_held3 (fun w' => w'.cell? ⟨bb, off + 8, none⟩ = some (.int .u8 (v8.toNat : Int)) ∧ w'.cell? ⟨bb, off + 9, none⟩ = some (.int .u8 (v9.toNat : Int)))
          (first | go_keep | fail)
          (first
            | (go_at_call 277; have tk := t1; refine (number_any (HR.out.1.gr (gW1.trans (by repeat (first | exact Gr.refl _ | apply Gr.drew | apply Gr.drewN | apply Gr.alloc)))) (by rw [HL.out.1]; decide)).mono ?_; rintro e w' ⟨rfl, n, rfl⟩; clear t1 tk)
            | (go_at_call 277; have tk := t2; refine (number_any (HR.out.2.1.gr (gW1.trans (by repeat (first | exact Gr.refl _ | apply Gr.drew | apply Gr.drewN | apply Gr.alloc)))) HR.out.2.2.1).mono ?_; rintro e w' ⟨rfl, n, rfl⟩; clear t2 tk)
            | fail)
        all_goals
          go_wp2_with fail
          go_meet
          case rel =>
          first
            | exact ⟨W1.heap.size, rfl, meets W1 ((W1.drewN _).alloc _) (heap_alloc_new _ _) (((Mod.refl [W1.heap.size] W1).drewN _).alloc _) _ _ _ _⟩
            | exact ⟨W1.heap.size, rfl, meets W1 (((W1.drewN _).alloc _).drewN _) (heap_alloc_new _ _) ((((Mod.refl [W1.heap.size] W1).drewN _).alloc _).drewN _) _ _ _ _⟩
            | fail
      case rest =>
      obtain ⟨bx, rfl, hbx, hbx2, hmx⟩ := hcut
      obtain ⟨W2, rfl⟩ : ∃ W2 : World, W2 = wc := ⟨_, rfl⟩
      have k0 : W2.cell? ⟨bx, 0, none⟩ = some (.int .i64 (ofFour b : Int)) := blk_cell hbx 0
      have k1 : W2.cell? ⟨bx, 1, none⟩ = some (.int .i64 (ofFour (b.drop 4) : Int)) := blk_cell hbx 1
      have k2 : W2.cell? ⟨bx, 2, none⟩ = some (.int .i64 (v8.toNat : Int)) := blk_cell hbx 2
      have k3 : W2.cell? ⟨bx, 3, none⟩ = some (.int .i64 (v9.toNat : Int)) := blk_cell hbx 3
      have e10 := hmx.kept c10' (by simp)
      generalize hy10 : b.getD 10 0 = v10 at e10 lt10
      have HB := hide (And.intro hbx (And.intro hbx2 hmx))
      clear hbx hbx2 hmx c8' c9' c10'
      generalize hxa : ofFour b = ga at *
      generalize hxb : ofFour (b.drop 4) = gb at *
      generalize hna : v8.toNat = na at *
      generalize hnb : v9.toNat = nb at *
      generalize hnc : v10.toNat = nc at *
      obtain ⟨ci, hci⟩ : ∃ ci : Int, (nc : Int) = ci := ⟨_, rfl⟩
      rw [hci] at e10
      have hci0 : 0 ≤ ci := by omega
      have hci1 : ci < 256 := by omega
      have HE := hide (And.intro hxa (And.intro hxb (And.intro hna (And.intro hnb (And.intro hnc (And.intro hy8 (And.intro hy9 (And.intro hy10 hci))))))))
      clear hxa hxb hna hnb hnc hy8 hy9 hy10 hci
      go_upto_if 47 with fail
      go_cut [6] (fun s6 wx => s6 = .bool (fullB nc na nb) ∧ wx = W2)
      case first =>
        by_cases hlast : na + 1 = nb
        · have b1 : ((na : Int) == (nb : Int) - 1) = true := by simp; omega
          have HH := hide hlast
          clear hlast
          go_wp2_with fail
          all_goals
            go_meet
            case rel =>
              have hci := HE.out.2.2.2.2.2.2.2.2
              refine ⟨congrArg Value.bool ?_, rfl⟩
              rw [Bool.eq_iff_iff, full_iff, if_pos HH.out]
              simp
              omega
        · have b1 : ((na : Int) == (nb : Int) - 1) = false := by simp; omega
          have HH := hide hlast
          clear hlast
          go_wp2_with fail
          all_goals
            go_meet
            case rel =>
              have hci := HE.out.2.2.2.2.2.2.2.2
              refine ⟨congrArg Value.bool ?_, rfl⟩
              rw [Bool.eq_iff_iff, full_iff, if_neg HH.out]
              simp
              omega
      case rest =>
      obtain ⟨rfl, rfl⟩ := hcut
      go_upto_region 8 with fail
      go_cut [7] (fun s7 wx => s7 = .bool (fitsB ga gb na nb) ∧ wx = wc)
      case first =>
        go_wp2_with fail
        all_goals
          go_meet
          case rel =>
            refine ⟨congrArg Value.bool ?_, rfl⟩
            rw [Bool.eq_iff_iff, fits_iff]
            simp
            omega
      case rest =>
      obtain ⟨rfl, rfl⟩ := hcut
      obtain ⟨W2, rfl⟩ : ∃ W2 : World, W2 = wc := ⟨_, rfl⟩
      obtain ⟨hxa, hxb, hna, hnb, hnc, hy8, hy9, hy10, hci⟩ := HE.out
      have hlS : lenS b = nc := by unfold lenS; rw [hy10, hnc]
      have hW1z : W1.heap[w.heap.size]? = some (.cells zeroP.toArray 272 (0, 0)) := by rw [← hW1]; exact (((Gr.refl W).drewN nq).heap (lt_of_block HL.out.2.2)).trans HL.out.2.2
      have hbz : W2.heap[w.heap.size]? = some (.cells zeroP.toArray 272 (0, 0)) := HB.out.2.2.at_ hW1z (by simp)
      have mz : Mod [] w W2 := (gW1.mod []).then HB.out.2.2
      have z0 : W2.cell? ⟨w.heap.size, 0, none⟩ = some (.int .i64 0) := blk_cell hbz 0
      have z1 : W2.cell? ⟨w.heap.size, 1, none⟩ = some (.int .i64 0) := blk_cell hbz 1
      have z2 : W2.cell? ⟨w.heap.size, 2, none⟩ = some (.int .i64 0) := blk_cell hbz 2
      have z3 : W2.cell? ⟨w.heap.size, 3, none⟩ = some (.int .i64 0) := blk_cell hbz 3
      have z4 : W2.cell? ⟨w.heap.size, 4, none⟩ = some (.slice none 0 0) := blk_cell hbz 4
      have y0 := blk_free hbz 0
      have y1 := blk_free hbz 1
      have y2 := blk_free hbz 2
      have y3 := blk_free hbz 3
      have y4 := blk_free hbz 4
      have hbxw : w.heap.size < bx := by have := lt_of_block hW1z; have := HB.out.2.1; omega
      have HM := hide (And.intro hbz (And.intro mz hlS))
      clear hxa hxb hna hnb hnc hy8 hy9 hy10 hci hlS hW1z hbz mz
      have hdead : ∀ (P : Prop), (okLook b = true → P) → ¬ P → lookS b = none := fun P h1 h2 => by
        unfold lookS
        rw [if_neg (fun h => h2 (h1 h))]
      have hlk : okLook b = true → fitsB ga gb na nb = true ∧ fullB nc na nb = true ∧ zeroB ((b.drop (11 + nc)).take (49 - nc)) = true := fun h => by
        obtain ⟨hxa, hxb, hna, hnb, hnc, hy8, hy9, hy10, hci⟩ := HE.out
        obtain ⟨_, _, h3, h4, h5⟩ := okLook_iff.1 h
        rw [HM.out.2.2] at h4 h5
        rw [hy8, hy9, hna, hnb] at h4
        rw [hy8, hy9, hna, hnb, hxa, hxb] at h3
        exact ⟨h3, h4, h5⟩
      have HD := hide (And.intro hdead hlk)
      clear hdead hlk
      cases hft : fitsB ga gb na nb with
      | false =>
        have hn : lookS b = none := HD.out.1 _ (fun h => (HD.out.2 h).1) (by rw [hft]; decide)
        have HN := hide hn
        clear hn
        go_wp2_with fail
        exact look_none HN.out rfl rfl ⟨_, _, rfl, HM.out.1⟩ (HM.out.2.1.mono (by simp))
      | true =>
        cases hfu : fullB nc na nb with
        | false =>
          have hn : lookS b = none := HD.out.1 _ (fun h => (HD.out.2 h).2.1) (by rw [hfu]; decide)
          have HN := hide hn
          clear hn
          go_wp2_with fail
          exact look_none HN.out rfl rfl ⟨_, _, rfl, HM.out.1⟩ (HM.out.2.1.mono (by simp))
        | true =>
          have hn47 := (full_iff.1 hfu).1
          obtain rfl : ci = (nc : Int) := HE.out.2.2.2.2.2.2.2.2.symm
          have hcc1 : ¬ c = 11 + nc := by omega
          have hi1 : (0 : Int) ≤ 11 + (nc : Int) := by omega
          have hi2 : (11 : Int) + (nc : Int) ≤ 60 := by omega
          have hi3 : (11 : Int) + (nc : Int) ≤ (c : Int) := by omega
          have hl : b.length = 64 := HL.out.1
          have hu2 := hu.mod HM.out.2.1 (by simp)
          have rt0 := (hu2.cutA hl (11 + nc) (by omega)).takeA (by rw [List.length_drop, hl]) (60 - (11 + nc)) (by omega)
          have rt : RdY W2 (.slice (some ⟨bb, off + (11 + nc), none⟩) (60 - (11 + nc)) (c - (11 + nc))) ((b.drop (11 + nc)).take (49 - nc)) := by
            rw [show 49 - nc = 60 - (11 + nc) by omega]; exact rt0
          have rtl : ((b.drop (11 + nc)).take (49 - nc)).length = 60 - (11 + nc) := by simp [hl]; omega
          have ra : RdY W2 (.slice (some ⟨bb, off + 11, none⟩) nc (c - 11)) ((b.drop 11).take nc) := (hu2.cutA hl 11 (by decide)).takeA (by rw [List.length_drop, hl]) nc (by omega)
          have ral : ((b.drop 11).take nc).length = nc := by simp [hl]; omega
          have hcB : c ≤ 9223372036854775807 := hu2.capM (by omega)
          have htr := trim_any rt rtl (by omega) (by omega)
          clear hu2 rt0 rt rtl hl
          cases hzr : zeroB ((b.drop (11 + nc)).take (49 - nc)) with
          | false =>
            have hn : lookS b = none := HD.out.1 _ (fun h => (HD.out.2 h).2.2) (by rw [hzr]; decide)
            have HN := hide hn
            rw [hzr] at htr
            clear hn
            go_wp2_with (go_at_call 279; refine htr.mono ?_; rintro e w' ⟨⟨p', k, c', rfl, hk⟩, n, rfl⟩; have hk0 : 0 < k := (by refine Nat.pos_of_ne_zero fun e => ?_; have := hk.1 e; cases this); clear hk)
            exact look_none HN.out rfl rfl ⟨_, _, rfl, (((Gr.refl W2).drewN _).heap (lt_of_block HM.out.1)).trans HM.out.1⟩ ((HM.out.2.1.mono (by simp)).drewN _)
          | true =>
            rw [hzr] at htr
            have hls : lookS b = some ⟨ga, gb, na, nb, (b.drop 11).take nc⟩ := by
              have h3 : okLook b = true := by
                obtain ⟨hxa, hxb, hna, hnb, hnc, hy8, hy9, hy10, -⟩ := HE.out
                rw [okLook_iff]
                refine ⟨HL.out.1, ?_, ?_, ?_, ?_⟩
                · have := HL.out.2.1
                  unfold crcOk
                  exact HC.out
                · rw [hxa, hxb, hy8, hy9, hna, hnb]; exact hft
                · rw [HM.out.2.2, hy8, hy9, hna, hnb]; exact hfu
                · rw [HM.out.2.2]; exact hzr
              obtain ⟨hxa, hxb, hna, hnb, hnc, hy8, hy9, hy10, -⟩ := HE.out
              unfold lookS
              rw [if_pos h3]
              unfold prtOf
              rw [HM.out.2.2, hxa, hxb, hy8, hy9, hna, hnb]
            generalize (b.drop 11).take nc = D at ra ral hls
            have HLS := hide hls
            have ra' : RdY W2 (.slice (some ⟨bb, off + 11, none⟩) (11 + nc - 11) (c - 11)) D := by rw [Nat.add_sub_cancel_left]; exact ra
            clear hls ra
            have ral' := hide ral
            have hDl : D.length ≤ 47 := by omega
            clear ral hzr
            go_wp2_with (first
              | (go_at_call 279; refine htr.mono ?_; rintro e w' ⟨⟨p', k, c', rfl, hk⟩, n, rfl⟩; obtain rfl : k = 0 := hk.2 rfl; clear hk)
              | (at_builtin; refine wpList_copy_y (m := D) _ rfl _ _ rfl rfl rfl (ra'.gr ((Gr.refl W2).drewN _)) (Nat.le_trans hDl (by decide)) ?_; intro p5 c5 w5 hr5 hm5; have hbx5 := hm5.at_ ((((Gr.refl W2).drewN n).heap (lt_of_block HB.out.1)).trans HB.out.1) (by simp); have hbz5 := hm5.at_ ((((Gr.refl W2).drewN n).heap (lt_of_block HM.out.1)).trans HM.out.1) (by simp); have q0 : w5.cell? ⟨bx, 0, none⟩ = some (.int .i64 (ga : Int)) := blk_cell hbx5 0; have q1 : w5.cell? ⟨bx, 1, none⟩ = some (.int .i64 (gb : Int)) := blk_cell hbx5 1; have q2 : w5.cell? ⟨bx, 2, none⟩ = some (.int .i64 (na : Int)) := blk_cell hbx5 2; have q3 : w5.cell? ⟨bx, 3, none⟩ = some (.int .i64 (nb : Int)) := blk_cell hbx5 3; have q4 : w5.cell? ⟨bx, 4, none⟩ = some (.slice none 0 0) := blk_cell hbx5 4; have q5 := blk_free hbx5 4; have z0' : w5.cell? ⟨w.heap.size, 0, none⟩ = some (.int .i64 0) := blk_cell hbz5 0; have z1' : w5.cell? ⟨w.heap.size, 1, none⟩ = some (.int .i64 0) := blk_cell hbz5 1; have z2' : w5.cell? ⟨w.heap.size, 2, none⟩ = some (.int .i64 0) := blk_cell hbz5 2; have z3' : w5.cell? ⟨w.heap.size, 3, none⟩ = some (.int .i64 0) := blk_cell hbz5 3; have z4' : w5.cell? ⟨w.heap.size, 4, none⟩ = some (.slice none 0 0) := blk_cell hbz5 4; have f0' := blk_free hbz5 0; have f1' := blk_free hbz5 1; have f2' := blk_free hbz5 2; have f3' := blk_free hbz5 3; have f4' := blk_free hbz5 4; have H5 := hide (And.intro hbx5 hbz5); clear hbx5 hbz5))
            have hsz5 : (W2.drewN n).heap.size ≤ w5.heap.size := hm5.size
            have hsw : w.heap.size < W2.heap.size := lt_of_block HM.out.1
            have hm6 : Mod [w.heap.size] w w5 := ((HM.out.2.1.drewN n).then hm5).mono (by simp)
            exact look_some (p := ⟨ga, gb, na, nb, D⟩) HLS.out rfl rfl ⟨_, _, rfl, (blk_other H5.out.2 (a := ⟨bx, 4, none⟩) (by show bx ≠ _; omega) _)⟩ (RowY.mod (S := [bx]) (hr5.base (b' := w.heap.size + 1) hsw) ((Mod.refl [bx] w5).setCell (by simp) _) (fun x hx e => by
              have h1 := (hr5.blk x hx).1
              have h2 := lt_of_block HB.out.1
              simp at e
              have h3 : (W2.drewN n).heap.size = W2.heap.size := rfl
              omega)) (hm6.trans (U := [w.heap.size]) ((Mod.refl [bx] w5).setCell (by simp) _) (fun _ x _ => x) (fun x hx hlt => by
              have h1 := HB.out.2.1
              have h2 := (gW1.mod []).size
              simp at hx
              omega))
    · have hn : lookS b = none := by
        unfold lookS
        rw [if_neg (fun h => hc (by simpa [crcOk] using (okLook_iff.1 h).2.1))]
      have bc : ((ofFour (b.drop 60) : Int) != (sumB (b.take 60) : Int)) = true := by simp; omega
      have HL := hide (And.intro hl (And.intro hc (And.intro hn hW0)))
      have hcn := fun (n : Nat) => number_any ((r60.gr g0).gr ((Gr.refl _).drewN n)) hl60
      have hsm := fun (n : Nat) => (sum_any ((rs.gr g0).gr ((Gr.refl _).drewN n))).mono (R' := fun e w' => e = .returned (.int .u32 (sumB (b.take 60) : Int)) ∧ w' = W.drewN n) (fun _ _ ⟨p, q⟩ => ⟨p, q.symm⟩)
      have hslt := sumB_lt (b.take 60)
      generalize ofFour (b.drop 60) = x60 at *
      generalize sumB (b.take 60) = xs at *
      clear hl hc hn hW0
      go_enter Tryz.func189, Tryz.ntmps189
      go_wp2_with fail
      change Code.wp _ _ _ _ (w.alloc objP0)
      rw [hW]
      go_quiet ((first | (go_at_call 277; exact Calls.quiet_of (hcn _)) | (go_at_call 278; exact Calls.quiet_of_same (hsm _))))
      go_wp2_with fail
      exact look_none HL.out.2.2.1 rfl rfl ⟨_, _, rfl, (((Gr.refl W).drewN nq).heap (lt_of_block HL.out.2.2.2)).trans HL.out.2.2.2⟩ ((g0.mod [w.heap.size]).drewN _)
  · have hn : lookS b = none := by
      unfold lookS
      rw [if_neg (fun h => hl (okLook_iff.1 h).1)]
    have b0 : ((b.length : Int) != 64) = true := by simp; omega
    have HL := hide (And.intro hl hn)
    clear hl hn hu
    go_enter Tryz.func189, Tryz.ntmps189
    go_wp2_with fail
    go_quiet (fail)
    go_wp2_with fail
    exact look_none HL.out.2 rfl rfl ⟨_, _, rfl, (((Gr.refl _).drewN _).heap (by simp)).trans (heap_alloc_new w objP0)⟩ ((((Mod.refl [w.heap.size] w).alloc _)).drewN _)
end Go.Proofs.YtkfhapidoolfdaaGreatDoor
