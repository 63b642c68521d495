/-
  WALKS: layer 10: a scan's part and record.
-/
import Derived.Test.YtkfhapidoolfdaaGreatDoorLook
import Derived.Test.YtkfhapidoolfdaaGreatDoorRds
namespace Go.Proofs.YtkfhapidoolfdaaGreatDoor
open Go.RowKit Go.Shelf

/-- the scanner's block -/
def ScM (w : World) (ps : Nat) (v : Value) (gen used : Nat) : Prop := w.heap[ps]? = some (.cells #[v, .int .i64 (gen : Int), .int .i64 (used : Int)] 370 (0, 0))
def brokenV : Value := .iface 372 (.agg #[])
/-- a part is handed back, or the scan gives up -/
def PartTo (w : World) (o : Option Prt) (e : Ending) (w' : World) : Prop :=
  match o with
  | none => e = .panicked [{ v := brokenV, recovered := false }] ∧ Mod [] w w'
  | some p => ∃ q c, e = .returned (.agg #[.int .i64 (p.gen : Int), .int .i64 (p.seq : Int), .int .i64 (p.index : Int), .int .i64 (p.parts : Int), .slice q p.data.length c]) ∧ RowY w' w.heap.size (.slice q p.data.length c) p.data ∧ Mod [] w w'
theorem part_done {w X : World} {O : Option Prt} {p : Prt} {q : Option Addr} {c : Nat} (hs : O = some p) {tmps : Array Value} (h2 : tmps.getD 10 undef = .pointer (some ⟨w.heap.size, 0, none⟩)) (hb : ∃ cs T, cs.size = 5 ∧ X.heap[w.heap.size]? = some (.cells cs T (0, 0)))
    (hr : RowY X (w.heap.size + 1) (.slice q p.data.length c) p.data) (hm : Mod [w.heap.size] w X) :
    bodyPost Tryz.prog Tryz.f360 (fun e w' => PartTo w O e w') Exit.ret { tmps := tmps, defers := [] } (stL X w.heap.size 0 [.int .i64 (p.gen : Int), .int .i64 (p.seq : Int), .int .i64 (p.index : Int), .int .i64 (p.parts : Int), .slice q p.data.length c]) := by
  obtain ⟨cs, T, hs5, hb⟩ := hb
  have r := stL_all hb [.int .i64 (p.gen : Int), .int .i64 (p.seq : Int), .int .i64 (p.index : Int), .int .i64 (p.parts : Int), .slice q p.data.length c] hs5
  refine bodyPost_ret (v := .agg #[.int .i64 (p.gen : Int), .int .i64 (p.seq : Int), .int .i64 (p.index : Int), .int .i64 (p.parts : Int), .slice q p.data.length c]) (res_cell1 Tryz.results360 _ _ h2 r Tryz.isAgg272 Tryz.sizeOf272) rfl ?_
  rw [hs]
  refine ⟨q, c, rfl, ?_, (stL_mod (by simp) _ _ _ hm).mono (fun x hx hlt => by simp at hx; omega)⟩
  refine (hr.mod (S := [w.heap.size]) (stL_mod (by simp) _ _ _ (Mod.refl _ _)) (fun k hk e => ?_)).base (Nat.le_succ _)
  have := (hr.blk k hk).1
  simp at e
  omega
set_option maxHeartbeats 4000000 in
set_option maxRecDepth 100000 in
theorem part_any {w : World} {ps base : Nat} {v : Value} {vs : List Value} {ls : List B8} {gen used : Nat} (h : ScM w ps v gen used) (hl : RdsY w base v vs ls) (at_ seq index parts : Nat) :
    Calls Tryz.prog 360 #[.pointer (some ⟨ps, 0, none⟩), .int .i64 (at_ : Int), .int .i64 (seq : Int), .int .i64 (index : Int), .int .i64 (parts : Int)] w fun e w' => PartTo w (partS ls gen at_ seq index parts) e w' := by
  obtain ⟨q, c, rfl, hmx⟩ := hl.shape
  have hmx' : ls.length ≤ 9223372036854775807 := hmx
  have s0 : w.cell? ⟨ps, 0, none⟩ = some (.slice q ls.length c) := blk_cell h 0
  have s1 : w.cell? ⟨ps, 1, none⟩ = some (.int .i64 (gen : Int)) := blk_cell h 1
  have hps : ps < w.heap.size := lt_of_block h
  have HX := hide h
  clear h
  by_cases hat : at_ < ls.length
  · obtain ⟨bb, rfl, hbb, c1, r1⟩ := hl.at_ at_ hat
    have hr := r1.1
    have hat' : ls[at_]? = some (ls.getD at_ []) := by simp [hat]
    generalize vs.getD at_ nilS = sv at c1 hr
    generalize ls.getD at_ [] = b at hr hat'
    clear r1
    cases hL : lookS b with
    | none =>
      have hp : partS ls gen at_ seq index parts = none := by unfold partS; rw [hat']; simp [hL]
      rw [hp]
      have HP := hide (And.intro hp hat')
      clear hp hat' hl
      go_enter Tryz.func360, Tryz.ntmps360
      go_wp2_with (go_at_call 189; refine (look_any (hr.gr ((Gr.refl w).alloc objP0))).mono ?_; rw [hL]; rintro e w1 ⟨rfl, hm1⟩)
      go_quiet (fail)
      go_wp2_with fail
      exact ⟨rfl, rfl, ((((Mod.refl [] w).alloc _).then hm1).alloc _).drewN _⟩
    | some p =>
      have hf := look_fits hL
      have hPs : partS ls gen at_ seq index parts = if p.gen = gen ∧ p.seq = seq ∧ p.index = index ∧ (parts = 0 ∨ p.parts = parts) then some p else none := by unfold partS; rw [hat']; simp [hL]
      obtain ⟨O, hO⟩ : ∃ O, partS ls gen at_ seq index parts = O := ⟨_, rfl⟩
      rw [hO]
      rw [hO] at hPs
      obtain ⟨⟨hf1, hf2, hf3, hf4, hf5⟩, hf6, -⟩ := hf.2
      clear hat' hl hf hO
      obtain ⟨pg, pq, pi, pn, pd⟩ := p
      simp only at hf1 hf2 hf3 hf4 hf5 hf6 hPs
      have HP := hide hPs
      clear hPs
      go_enter Tryz.func360, Tryz.ntmps360
      go_upto_region 4 with (go_at_call 189; refine (look_any (hr.gr ((Gr.refl w).alloc objP0))).mono ?_; rw [hL]; rintro e w1 ⟨q1, c1', rfl, hr1, hm1⟩)
      have hmw : Mod [] w w1 := ((Mod.refl [] w).alloc objP0).then hm1
      have hwz : (w.alloc objP0).heap[w.heap.size]? = some (.cells zeroP.toArray 272 (0, 0)) := heap_alloc_new w _
      have hwz1 := hm1.at_ hwz (by simp)
      have HZ := hide hwz1
      have hszw : w.heap.size < w1.heap.size := lt_of_block hwz1
      have s1' : ∀ (o : Obj), (w1.alloc o).cell? ⟨ps, 1, none⟩ = some (.int .i64 (gen : Int)) := fun o => ((Gr.refl w1).alloc o).kept (hmw.kept s1 (by simp))
      clear hwz hwz1
      have z0 : ∀ (o : Obj), (w1.alloc o).cell? ⟨w.heap.size, 0, none⟩ = some (.int .i64 0) := fun o => blk_cell (blk_alloc HZ.out o) 0
      have z1 : ∀ (o : Obj), (w1.alloc o).cell? ⟨w.heap.size, 1, none⟩ = some (.int .i64 0) := fun o => blk_cell (blk_alloc HZ.out o) 1
      have z2 : ∀ (o : Obj), (w1.alloc o).cell? ⟨w.heap.size, 2, none⟩ = some (.int .i64 0) := fun o => blk_cell (blk_alloc HZ.out o) 2
      have z3 : ∀ (o : Obj), (w1.alloc o).cell? ⟨w.heap.size, 3, none⟩ = some (.int .i64 0) := fun o => blk_cell (blk_alloc HZ.out o) 3
      have z4 : ∀ (o : Obj), (w1.alloc o).cell? ⟨w.heap.size, 4, none⟩ = some (.slice none 0 0) := fun o => blk_cell (blk_alloc HZ.out o) 4
      have y0 : ∀ (o : Obj), (w1.alloc o).frozen? ⟨w.heap.size, 0, none⟩ = false := fun o => blk_free (blk_alloc HZ.out o) 0
      have y1 : ∀ (o : Obj), (w1.alloc o).frozen? ⟨w.heap.size, 1, none⟩ = false := fun o => blk_free (blk_alloc HZ.out o) 1
      have y2 : ∀ (o : Obj), (w1.alloc o).frozen? ⟨w.heap.size, 2, none⟩ = false := fun o => blk_free (blk_alloc HZ.out o) 2
      have y3 : ∀ (o : Obj), (w1.alloc o).frozen? ⟨w.heap.size, 3, none⟩ = false := fun o => blk_free (blk_alloc HZ.out o) 3
      have y4 : ∀ (o : Obj), (w1.alloc o).frozen? ⟨w.heap.size, 4, none⟩ = false := fun o => blk_free (blk_alloc HZ.out o) 4
      by_cases e1 : pg = gen
      · have b1 : ((pg : Int) != (gen : Int)) = false := by simp; omega
        by_cases e2 : pq = seq
        · have b2 : ((pq : Int) != (seq : Int)) = false := by simp; omega
          by_cases e3 : pi = index
          · have b3 : ((pi : Int) != (index : Int)) = false := by simp; omega
            by_cases e4 : parts = 0
            · have b4 : decide ((0 : Int) < (parts : Int)) = false := by simp; omega
              have b4' : decide (0 < parts) = false := by simp; omega
              have HE := hide (And.intro e1 (And.intro e2 (And.intro e3 e4)))
              clear e1 e2 e3 e4
              go_quiet (fail)
              go_wp2_with fail
              exact part_done (p := ⟨pg, pq, pi, pn, pd⟩) (by rw [HP.out, if_pos ⟨HE.out.1, HE.out.2.1, HE.out.2.2.1, .inl HE.out.2.2.2⟩]) rfl ⟨_, _, rfl, (((Gr.refl _).drewN _).heap (by simp; omega)).trans (blk_alloc HZ.out _)⟩ (((hr1.base (by simp)).gr ((Gr.refl w1).alloc _)).gr ((Gr.refl _).drewN _)) ((((hmw.mono (by simp)).alloc _).drewN _))
            · have b4 : decide ((0 : Int) < (parts : Int)) = true := by simp; omega
              have b4' : decide (0 < parts) = true := by simp; omega
              by_cases e5 : pn = parts
              · have b5 : ((pn : Int) != (parts : Int)) = false := by simp; omega
                have HE := hide (And.intro e1 (And.intro e2 (And.intro e3 e5)))
                clear e1 e2 e3 e4 e5
                go_quiet (fail)
                go_wp2_with fail
                exact part_done (p := ⟨pg, pq, pi, pn, pd⟩) (by rw [HP.out, if_pos ⟨HE.out.1, HE.out.2.1, HE.out.2.2.1, .inr HE.out.2.2.2⟩]) rfl ⟨_, _, rfl, (((Gr.refl _).drewN _).heap (by simp; omega)).trans (blk_alloc HZ.out _)⟩ (((hr1.base (by simp)).gr ((Gr.refl w1).alloc _)).gr ((Gr.refl _).drewN _)) ((((hmw.mono (by simp)).alloc _).drewN _))
              · have b5 : ((pn : Int) != (parts : Int)) = true := by simp; omega
                have HE := hide (And.intro e4 e5)
                clear e1 e2 e3 e4 e5
                go_quiet (fail)
                go_wp2_with fail
                obtain rfl : O = none := by rw [HP.out, if_neg (fun x => x.2.2.2.elim HE.out.1 HE.out.2)]
                refine ⟨rfl, ?_⟩
                exact ⟨rfl, ((((Mod.refl [] w).alloc _).then hm1).alloc _).drewN _⟩
          · have b3 : ((pi : Int) != (index : Int)) = true := by simp; omega
            have HE := hide e3
            clear e3
            go_quiet (fail)
            go_wp2_with fail
            obtain rfl : O = none := by rw [HP.out, if_neg (fun x => HE.out x.2.2.1)]
            refine ⟨rfl, ?_⟩
            exact ⟨rfl, ((((Mod.refl [] w).alloc _).then hm1).alloc _).drewN _⟩
        · have b2 : ((pq : Int) != (seq : Int)) = true := by simp; omega
          have HE := hide e2
          clear e2
          go_quiet (fail)
          go_wp2_with fail
          obtain rfl : O = none := by rw [HP.out, if_neg (fun x => HE.out x.2.1)]
          refine ⟨rfl, ?_⟩
          exact ⟨rfl, ((((Mod.refl [] w).alloc _).then hm1).alloc _).drewN _⟩
      · have b1 : ((pg : Int) != (gen : Int)) = true := by simp; omega
        have HE := hide e1
        clear e1
        go_quiet (fail)
        go_wp2_with fail
        obtain rfl : O = none := by rw [HP.out, if_neg (fun x => HE.out x.1)]
        refine ⟨rfl, ?_⟩
        exact ⟨rfl, ((((Mod.refl [] w).alloc _).then hm1).alloc _).drewN _⟩
  · have hp : partS ls gen at_ seq index parts = none := by unfold partS; rw [List.getElem?_eq_none (by omega)]; rfl
    rw [hp]
    have i1 : (ls.length : Int) ≤ (at_ : Int) := by omega
    have HP := hide hp
    clear hp hl
    go_enter Tryz.func360, Tryz.ntmps360
    go_wp2_with fail
    exact ⟨rfl, rfl, (Mod.refl [] w).alloc _⟩
end Go.Proofs.YtkfhapidoolfdaaGreatDoor
