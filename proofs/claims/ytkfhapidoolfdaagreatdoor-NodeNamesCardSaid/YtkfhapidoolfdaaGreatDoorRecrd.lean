/-
  WALKS: layer 10: a scan's record.
-/
import Derived.Test.YtkfhapidoolfdaaGreatDoorWc
import Derived.Test.YtkfhapidoolfdaaGreatDoorPart
import Derived.Test.YtkfhapidoolfdaaGreatDoorStepC
import Derived.Deep.RegionLaw
import Derived.OrdersHeld
namespace Go.Proofs.YtkfhapidoolfdaaGreatDoor
open Go.RowKit Go.Shelf

def RecTo (w : World) (ps : Nat) (v : Value) (gen used : Nat) (o : Option (B8 × Nat)) (e : Ending) (w' : World) : Prop :=
  match o with
  | none => e = .panicked [{ v := brokenV, recovered := false }] ∧ Mod [] w w'
  | some (d, n) => ∃ q c, e = .returned (.slice q d.length c) ∧ RowY w' w.heap.size (.slice q d.length c) d ∧ ScM w' ps v gen (used + n) ∧ Mod [ps] w w'
theorem rest_none {l : List B8} {gen at_ seq parts k i : Nat} (h : partS l gen (at_ + i) seq i parts = none) : restS l gen at_ seq parts (k + 1) i = none := by
  unfold restS; rw [h]; rfl
theorem rest_some {l : List B8} {gen at_ seq parts k i : Nat} {p : Prt} (h : partS l gen (at_ + i) seq i parts = some p) : restS l gen at_ seq parts (k + 1) i = (restS l gen at_ seq parts k (i + 1)).bind fun d => some (p.data ++ d) := by
  conv => lhs; unfold restS
  rw [h]; rfl
/-- what the loop of record holds: k parts are taken, their bytes d -/
def RecRel (w : World) (ps b1 : Nat) (o1 : Obj) (v : Value) (ls : List B8) (gen used seq parts : Nat) (O : Option (B8 × Nat)) (u i : Value) (wr : World) : Prop :=
  ∃ (k : Nat) (d : B8), i = .int .i64 (k : Int) ∧ 1 ≤ k ∧ k ≤ parts ∧ RowY wr w.heap.size u d ∧ b1 ∉ ob u ∧ d.length ≤ 47 * k ∧ ScM wr ps v gen used ∧ Mod [] w wr ∧ wr.heap[b1]? = some o1 ∧ Hid (O = (restS ls gen used seq parts (parts - k) k).bind fun r => some (d ++ r, parts))
set_option maxHeartbeats 4000000 in
set_option maxRecDepth 100000 in
theorem record_any {w : World} {ps base : Nat} {v : Value} {vs : List Value} {ls : List B8} {gen used : Nat} (h : ScM w ps v gen used) (hl : RdsY w base v vs ls) (seq : Nat) (hus : used ≤ 1000000) :
    Calls Tryz.prog 284 #[.pointer (some ⟨ps, 0, none⟩), .int .i64 (seq : Int)] w fun e w' => RecTo w ps v gen used (recS ls gen used seq) e w' := by
  have s2 : w.cell? ⟨ps, 2, none⟩ = some (.int .i64 (used : Int)) := blk_cell h 2
  have hps : ps < w.heap.size := lt_of_block h
  have hpt := part_any h hl used seq 0 0
  obtain ⟨O, hO⟩ : ∃ O, recS ls gen used seq = O := ⟨_, rfl⟩
  rw [hO]
  cases hp : partS ls gen used seq 0 0 with
  | none =>
    have hn : O = none := by rw [← hO]; unfold recS; rw [hp]; rfl
    rw [hp] at hpt
    have HN := hide hn
    clear hn hO hp
    go_enter Tryz.func284, Tryz.ntmps284
    go_wp2_with (go_at_call 360; refine hpt.mono ?_; rintro e w1 ⟨rfl, hm1⟩)
    obtain rfl := HN.out
    exact ⟨rfl, rfl, hm1⟩
  | some p =>
    have hn : O = (restS ls gen used seq p.parts (p.parts - 1) 1).bind fun d => some (p.data ++ d, p.parts) := by rw [← hO]; unfold recS; rw [hp]; rfl
    rw [hp] at hpt
    obtain ⟨b0, -, hL, -, -, -, -⟩ := part_some hp
    obtain ⟨-, ⟨hf1, hf2, hf3, hf4, hf5⟩, hf6, -⟩ := look_fits hL
    have HN := hide hn
    clear hn hO hp hL
    obtain ⟨pg, pq, pi, pn, pd⟩ := p
    simp only at hf1 hf2 hf3 hf4 hf5 hf6 HN hpt
    go_enter Tryz.func284, Tryz.ntmps284
    go_wp2_with (go_at_call 360; refine hpt.mono ?_; rintro e w1 ⟨q1, c1, rfl, hr1, hm1⟩)
    obtain ⟨o1, ho1⟩ : ∃ o, o = (Obj.cells #[Value.int .i64 (pg : Int), .int .i64 (pq : Int), .int .i64 (pi : Int), .int .i64 (pn : Int), .slice q1 pd.length c1] 272 (0, 0)) := ⟨_, rfl⟩
    have hb1 := heap_alloc_new w1 o1
    have hap1 : w1.heap.size ∉ ob (.slice q1 pd.length c1) := fun x => by have := (hr1.blk _ x).2; omega
    have hsz1 := hm1.size
    rw [← ho1]
    have HO := hide ho1
    have HH := hide (And.intro h hl)
    clear ho1 hpt s2 h hl
    go_loopw [6, 7] (fun u i wr => RecRel w ps w1.heap.size o1 v ls gen used seq pn O u i wr) (fun _ i _ => pn - (intOf i).toNat)
    case atStart =>
      exact ⟨1, pd, rfl, Nat.le_refl _, by omega, hr1.gr ((Gr.refl w1).alloc _), hap1, by omega, (hm1.alloc o1).at_ HH.out.1 (by simp), hm1.alloc _, hb1, HN⟩
    case round =>
      clear hr1 hap1 hb1 HN
      obtain ⟨k, d, rfl, hk1, hk2, hrow, hap, hdl, hsc, hm, hblk, hrest⟩ := hrel
      rw [HO.out] at hblk
      have a2 : wr.cell? ⟨ps, 2, none⟩ = some (.int .i64 (used : Int)) := blk_cell hsc 2
      have a3 : wr.cell? ⟨w1.heap.size, 3, none⟩ = some (.int .i64 (pn : Int)) := blk_cell hblk 3
      have hlr := HH.out.2.mod hm (by simp)
      obtain ⟨qu, cu, rfl⟩ := hrow.rd.len
      by_cases hlt : k < pn
      · have hpt := fun {W : World} (g : Gr wr W) => part_any (w := W) ((g.mod []).at_ hsc (by simp)) (hlr.mod (g.mod []) (by simp)) (used + k) seq k pn
        have hcnt : pn - k = (pn - (k + 1)) + 1 := by omega
        cases hpk : partS ls gen (used + k) seq k pn with
        | none =>
          have hO : O = none := by rw [hrest.out, hcnt, rest_none hpk]; rfl
          obtain rfl := hO
          rw [hpk] at hpt
          have HR := hide (And.intro hrow (And.intro hsc (And.intro hblk hpk)))
          have hw1 : IntKind.i64.wrap ((used : Int) + (k : Int)) = ((used + k : Nat) : Int) := by rw [IntWalk.i64_in _ (by omega)]; omega
          clear hrow hsc hblk hpk hrest hlr hcnt
          go_wp2_with fail
          have hcast : (used : Int) + (k : Int) = ((used + k : Nat) : Int) := by omega
          have hp2 := (hpt (Gr.refl wr).drew)
          rw [← hcast] at hp2
          clear hcast hpt
          refine pB 999 (fun w' => w'.cell? ⟨ps, 2, none⟩ = some (.int .i64 (used : Int)) ∧ w'.cell? ⟨w1.heap.size, 3, none⟩ = some (.int .i64 (pn : Int))) (by exact ⟨((Gr.refl wr).drew).kept a2, ((Gr.refl wr).drew).kept a3⟩) ?_
          refine pH 0 rfl (fun w hSw => by (try dsimp only at hSw); go_simp; try with_reducible rfl) ?_
          refine pH 1 rfl (fun w hSw => by (try dsimp only at hSw); go_simp; try with_reducible rfl) ?_
          refine pH 2 rfl (fun w hSw => by (try dsimp only at hSw); go_simp; try with_reducible rfl) ?_
          refine pH 3 rfl (fun w hSw => by (try dsimp only at hSw); go_simp; try with_reducible rfl) ?_
          refine pH 4 rfl (fun w hSw => by (try dsimp only at hSw); go_simp; try with_reducible rfl) ?_
          refine pH 5 rfl (fun w hSw => by (try dsimp only at hSw); go_simp; try with_reducible rfl) ?_
          refine pH 6 rfl (fun w hSw => by (try dsimp only at hSw); go_simp; try with_reducible rfl) ?_
          refine pH 7 rfl (fun w hSw => by (try dsimp only at hSw); go_simp; try with_reducible rfl) ?_
          refine pH 8 rfl (fun w hSw => by (try dsimp only at hSw); go_simp; try with_reducible rfl) ?_
          refine pH 9 rfl (fun w hSw => by (try dsimp only at hSw); go_simp; try with_reducible rfl) ?_
          refine pH 10 rfl (fun w hSw => by (try dsimp only at hSw); go_simp; try with_reducible rfl) ?_
          refine pH 11 rfl (fun w hSw => by (try dsimp only at hSw); go_simp; try with_reducible rfl) ?_
          refine pX 12 fun hHeld K hK => ?_
          go_simp
          refine hp2.mono ?_
          rintro e w2 ⟨rfl, hm2⟩
          exact ⟨rfl, rfl, (hm.then ((Mod.refl [] wr).drew)).then hm2⟩
        | some p2 =>
          obtain ⟨b2, -, hL2, -, -, hix, hpq⟩ := part_some hpk
          obtain ⟨-, -, hf6', hf7⟩ := look_fits hL2
          have hnn : O = (restS ls gen used seq pn (pn - (k + 1)) (k + 1)).bind fun r => some ((d ++ p2.data) ++ r, pn) := by
            rw [hrest.out, hcnt, rest_some hpk]
            cases restS ls gen used seq pn (pn - (k + 1)) (k + 1) with
            | none => rfl
            | some r => simp
          have hpn : p2.parts = pn := by
            rcases hpq with h | h
            · omega
            · exact h
          have hpos : 0 < p2.data.length := by
            by_cases hlast : p2.index + 1 = p2.parts
            · rw [if_pos hlast] at hf7
              omega
            · rw [if_neg hlast] at hf7
              omega
          rw [hpk] at hpt
          have hcast : (used : Int) + (k : Int) = ((used + k : Nat) : Int) := by omega
          have hp2 := (hpt (Gr.refl wr).drew)
          rw [← hcast] at hp2
          have HR := hide (And.intro hrow (And.intro hsc (And.intro hblk (And.intro hnn hap))))
          clear hcast hpt hrow hsc hblk hpk hrest hlr hcnt hL2 hix hpq hf7 hnn hpn hap
          obtain ⟨g2, q2, i2, n2, D⟩ := p2
          simp only at hf6' hpos HR hp2
          go_wp2_with fail
          have hw2 : IntKind.i64.wrap ((used : Int) + (k : Int)) = (used : Int) + (k : Int) := IntWalk.i64_in _ (by omega)
          have hfd : ∀ (a b c d : Value) (q : Option Addr) (n m : Nat) (w : World), (Instr.field 272 (.agg #[a, b, c, d, .slice q n m]) 4).run Tryz.prog w = .ok (.slice q n m) w := fun _ _ _ _ _ _ _ _ => by kernel_rfl
          have t1 : Hid True := hide trivial
          have t2 : Hid True := hide trivial
          go_region_law (first
            | (have tk := t1; refine step_call rfl 360 #[.tmp 24, .tmp 30, .tmp 31, .tmp 32, .tmp 34] #[368, 3, 3, 3, 3] rfl (enters_of Tryz.func360 (by kernel_rfl) rfl) #[.pointer (some ⟨ps, 0, none⟩), .int .i64 ((used : Int) + (k : Int)), .int .i64 (seq : Int), .int .i64 (k : Int), .int .i64 (pn : Int)] (by first | (simp [Act.eval]; done) | simp [Act.eval, Act.put]) ?_; refine hp2.mono ?_; rintro e w2 ⟨q3, c3, rfl, hr3, hm3⟩; refine ⟨_, rfl, ?_⟩; clear t1 tk)
            | (have tk := t2; refine step_app_y rfl (.tmp 23) (.tmp 36) rfl w.heap.size (.slice qu d.length cu) d (by first | (simp [Act.eval]; done) | simp [Act.eval, Act.put]) ((HR.out.1.mod ((Mod.refl [] wr).drew) (by simp)).mod hm3 (by simp)) (.slice q3 D.length c3) D (by first | (simp [Act.eval]; done) | simp [Act.eval, Act.put]) hr3.rd hpos (by omega) (by have h1 := hm3.size; have h2 := hm.size; exact Nat.le_trans h2 h1) ?_; intro g4 cap4 w4 hr4 hm4 hg4 hg4'; clear t2 tk)
            | fail)
          all_goals
            have hsz3 := hm3.size
            have hm24 : Mod (ob (.slice qu d.length cu)) wr w4 := (((Mod.refl (ob (.slice qu d.length cu)) wr).drew).then (hm3.mono (by simp))).then hm4
            have hro := HR.out.1
            have hob : ∀ x, x ∈ ob (.slice qu d.length cu) → w.heap.size ≤ x ∧ x < wr.heap.size := fun x hx => hro.blk x hx
            have hb1lt : w1.heap.size < wr.heap.size := lt_of_block HR.out.2.2.1
            go_wp2_with fail
            go_roundw
            case rel =>
              refine ⟨k + 1, d ++ D, by go_num, by omega, by omega, hr4, ?_, by rw [List.length_append]; omega, hm24.at_ HR.out.2.1 (fun x => by have := (hob _ x).1; omega), hm.trans hm24 (fun _ x _ => x) (fun x hx hlt2 => by have := (hob _ hx).1; omega), ?_, hide HR.out.2.2.2.1⟩
              · intro e
                have e2 : w1.heap.size = g4 := by simpa [ob, Value.ownBlock] using e
                rcases hg4 with h5 | h5
                · exact HR.out.2.2.2.2 (e2 ▸ h5)
                · have h6 : wr.drew.heap.size = wr.heap.size := rfl
                  omega
              · rw [HO.out]
                exact hm24.at_ HR.out.2.2.1 HR.out.2.2.2.2
            case measure => simp [intOf]; omega
      · obtain rfl : k = pn := by omega
        have hO : O = some (d, k) := by rw [hrest.out, Nat.sub_self]; simp [restS]
        obtain rfl := hO
        have f2 := blk_free hsc 2
        have hus2 : (used : Int) + (k : Int) ≤ 2000000 := by omega
        have hw1 : IntKind.i64.wrap ((used : Int) + (k : Int)) = ((used + k : Nat) : Int) := by rw [IntWalk.i64_in _ (by omega)]; omega
        have HR := hide (And.intro hrow hsc)
        clear hrow hsc hblk hrest hlr
        go_wp2_with fail
        go_region
        all_goals
          go_wp2_with fail
          go_ret
          have hm2 : Mod [ps] wr ((wr.setCell ⟨ps, 2, none⟩ (.int .i64 ((used : Int) + (k : Int)))).drew) := ((Mod.refl [ps] wr).setCell (by simp) _).drew
          refine ⟨_, _, rfl, (HR.out.1.mod hm2 (fun x hx e => ?_)), ?_, (hm.mono (by simp)).then hm2⟩
          · have := (HR.out.1.blk x hx).1
            simp at e
            omega
          · have := blk_set HR.out.2 2 (.int .i64 ((used : Int) + (k : Int)))
            unfold ScM
            rw [show ((used + k : Nat) : Int) = (used : Int) + (k : Int) by omega]
            exact this
end Go.Proofs.YtkfhapidoolfdaaGreatDoor
