/-
  WALKS: layer 10: Scan: records till one gives up; the panic is caught at the door.
-/
import Derived.Test.YtkfhapidoolfdaaGreatDoorRecrd
import Derived.Defers
import Derived.Recover
namespace Go.Proofs.YtkfhapidoolfdaaGreatDoor
open Go.RowKit Go.Shelf

theorem rest_fit {l : List B8} {gen at_ seq parts : Nat} : ∀ (k i : Nat) {d : B8}, restS l gen at_ seq parts k i = some d → 0 < k → at_ + i + k ≤ l.length
  | 0, _, _, _, h => absurd h (Nat.lt_irrefl 0)
  | k + 1, i, d, h, _ => by
    cases hp : partS l gen (at_ + i) seq i parts with
    | none => rw [rest_none hp] at h; cases h
    | some p =>
      have hlt := part_lt hp
      rw [rest_some hp] at h
      cases hr : restS l gen at_ seq parts k (i + 1) with
      | none => rw [hr] at h; cases h
      | some r =>
        rcases Nat.eq_zero_or_pos k with h0 | h0
        · omega
        · have := rest_fit k (i + 1) hr h0
          omega
theorem rec_fit {l : List B8} {gen at_ seq n : Nat} {d : B8} (h : recS l gen at_ seq = some (d, n)) : at_ + n ≤ l.length := by
  have h1 := rec_pos h
  obtain ⟨p, d', hp, hr, _, rfl⟩ := rec_some h
  rcases Nat.eq_zero_or_pos (p.parts - 1) with h0 | h0
  · omega
  · have := rest_fit _ _ hr h0
    omega
theorem scanF_none {l : List B8} {gen at_ seq : Nat} (h : recS l gen at_ seq = none) : ∀ f, scanF l gen f at_ seq = ([], at_)
  | 0 => rfl
  | f + 1 => by unfold scanF; rw [h]
theorem scanF_some {l : List B8} {gen at_ seq n : Nat} {d : B8} (h : recS l gen at_ seq = some (d, n)) (f : Nat) : scanF l gen (f + 1) at_ seq = (d :: (scanF l gen f (at_ + n) (seq + 1)).1, (scanF l gen f (at_ + n) (seq + 1)).2) := by
  conv => lhs; unfold scanF
  rw [h]
theorem brokenInfo (w : World) : (Instr.typeAssert brokenV 20 372 true).run Tryz.prog w = .ok (.tuple #[.agg #[], .bool true]) w := by kernel_rfl
/-- the deferred function, where the frame panics: the panic is marked, how far it got is laid down -/
theorem scan1_any {w : World} {bs bu ps used : Nat} {x : Value} (older : List PanicEntry) (h1 : w.cell? ⟨bs, 0, none⟩ = some (.pointer (some ⟨ps, 0, none⟩))) (h2 : w.cell? ⟨ps, 2, none⟩ = some (.int .i64 (used : Int))) (h3 : w.cell? ⟨bu, 0, none⟩ = some x) (h4 : w.frozen? ⟨bu, 0, none⟩ = false) :
    CallsD Tryz.prog 283 #[.pointer (some ⟨bs, 0, none⟩), .pointer (some ⟨bu, 0, none⟩)] (.panicking ({ v := brokenV, recovered := false } :: older)) w fun e u' w' =>
      e = .returned (.tuple #[]) ∧ u' = .panicking ({ v := brokenV, recovered := true } :: older) ∧ w' = (w.alloc (.cells #[] 372 (0, 0))).setCell ⟨bu, 0, none⟩ (.int .i64 (used : Int)) := by
  have l1 := ((Gr.refl w).alloc (.cells #[] 372 (0, 0))).kept h1
  have l2 := ((Gr.refl w).alloc (.cells #[] 372 (0, 0))).kept h2
  have l3 := ((Gr.refl w).alloc (.cells #[] 372 (0, 0))).kept h3
  have hlt : bu < w.heap.size := World.block_lt_of_cell? w ⟨bu, 0, none⟩ h3
  have l4 : (w.alloc (.cells #[] 372 (0, 0))).frozen? ⟨bu, 0, none⟩ = false := by
    rw [← h4]
    exact World.frozen?_of_block (((Gr.refl w).alloc _).heap hlt)
  have hbr := brokenInfo w
  generalize hB : brokenV = B at hbr ⊢
  refine callsD_of_wpS Tryz.func283 rfl fun c₀ cs hu => ?_
  apply wpS_seq
  apply wpS_region
  simp [wpOpsS, go_sem, recoverD, hu, Tryz.ntmps283, Exit.thenS, hbr]
  apply wpS_seq
  apply wpS_region
  simp [wpOpsS, go_sem, Exit.thenS]
  refine wpS_cond (t := true) (by simp [Act.eval, Array.replicate]) ?_
  simp only [if_true]
  apply wpS_region
  simp [wpOpsS, go_sem, l1, l2, l3, l4, bodyPostS, results, Tryz.results283, Array.replicate]
/-- a scan's answer -/
def ScanTo (w : World) (r : List B8 × Nat) (e : Ending) (w' : World) : Prop :=
  ∃ q c vs, e = .returned (.tuple #[.slice q r.1.length c, .int .i64 (r.2 : Int)]) ∧ RowsY w' w.heap.size (.slice q r.1.length c) vs r.1 ∧ r.1.length ≤ 1000000 ∧ r.2 ≤ 1000000 ∧ Mod [] w w'
def ScanRel (w : World) (ps bs : Nat) (v : Value) (ls : List B8) (gen : Nat) (u : Value) (wr : World) : Prop :=
  ∃ (vs : List Value) (recs : List B8) (at_ : Nat), RowsY wr (w.heap.size + 3) u vs recs ∧ ScM wr ps v gen at_ ∧ at_ ≤ ls.length ∧ recs.length ≤ at_ ∧ wr.heap[bs]? = some (.cells #[.pointer (some ⟨ps, 0, none⟩)] 368 (0, 0)) ∧
    wr.heap[w.heap.size]? = some (.cells #[.int .i64 0] 3 (0, 0)) ∧ Mod [] w wr ∧ w.heap.size + 3 ≤ wr.heap.size ∧
    Hid (∀ f, ls.length < f + at_ → (recs ++ (scanF ls gen f at_ recs.length).1, (scanF ls gen f at_ recs.length).2) = scanS ls gen)
set_option maxHeartbeats 4000000 in
set_option maxRecDepth 100000 in
theorem scan_any {w : World} {base : Nat} {v : Value} {vs : List Value} {ls : List B8} (hl : RdsY w base v vs ls) (hsz : ls.length ≤ 1000000) (gen : Nat) :
    Calls Tryz.prog 193 #[v, .int .i64 (gen : Int)] w fun e w' => ScanTo w (scanS ls gen) e w' := by
  obtain ⟨O, hO⟩ : ∃ O, scanS ls gen = O := ⟨_, rfl⟩
  rw [hO]
  have HO := hide hO
  clear hO
  obtain ⟨q, c, rfl, hmx⟩ := hl.shape
  have HL := hide (And.intro hl hsz)
  clear hl hsz
  have hmf : ∀ (fn : Fn) (first cap : Array Value) (w : World), (Instr.makeFunc fn first cap).run Tryz.prog w = .ok (.func fn first cap) w := fun _ _ _ _ => rfl
  go_enter_defers Tryz.func193, Tryz.ntmps193
  go_wp2_with fail
  obtain ⟨W, hW⟩ : ∃ W, W = ((w.alloc (.cells #[.int .i64 0] 3)).alloc (.cells #[.slice q ls.length c, .int .i64 (gen : Int), .int .i64 0] 370 (0, 0))).alloc (.cells #[.pointer (some ⟨w.heap.size + 1, 0, none⟩)] 368 (0, 0)) := ⟨_, rfl⟩
  have hz : W.heap.size = w.heap.size + 3 := by rw [hW]; simp
  have hb0 : W.heap[w.heap.size]? = some (.cells #[.int .i64 0] 3 (0, 0)) := by
    rw [hW]
    exact ((((Mod.refl [] _).alloc _).alloc _).at_ (heap_alloc_new w _) (by simp))
  have hb1 : ScM W (w.heap.size + 1) (.slice q ls.length c) gen 0 := by
    rw [hW]
    have := alloc_here (w := w.alloc (.cells #[.int .i64 0] 3)) (n := w.heap.size + 1) (o := .cells #[.slice q ls.length c, .int .i64 (gen : Int), .int .i64 0] 370 (0, 0)) (by simp)
    exact (((Mod.refl [] _).alloc _).at_ this (by simp))
  have hb2 : W.heap[w.heap.size + 2]? = some (.cells #[.pointer (some ⟨w.heap.size + 1, 0, none⟩)] 368 (0, 0)) := by
    rw [hW]
    exact alloc_here (by simp)
  have hmW : Mod [] w W := by
    rw [hW]
    exact (((Mod.refl [] w).alloc _).alloc _).alloc _
  rw [← hW]
  rw [show w.heap.size + 1 + 1 = w.heap.size + 2 from rfl]
  obtain ⟨hl, hsz⟩ := HL.out
  have hgW : w.heap.size ≤ W.heap.size := by omega
  clear hW
  go_loopw [4] (fun u wr => ScanRel w (w.heap.size + 1) (w.heap.size + 2) (.slice q ls.length c) ls gen u wr) (fun _ wr => ls.length - (match wr.cell? ⟨w.heap.size + 1, 2, none⟩ with | some (.int _ i) => i.toNat | _ => 0))
  case atStart =>
    refine ⟨[], [], 0, RowsY.nil _ _, hb1, Nat.zero_le _, Nat.le_refl _, hb2, hb0, hmW, by omega, hide (fun f hf => ?_)⟩
    rw [List.nil_append]
    exact scanF_fuel ls gen f (ls.length + 1) 0 0 (by omega) (by omega)
  case round =>
    clear hb0 hb1 hb2 hmW hgW hz
    obtain ⟨ws, recs, at_, hrow, hsc, hat, hra, hb2, hb0, hm, hsz', hS⟩ := hrel
    have c0 : wr.cell? ⟨w.heap.size + 2, 0, none⟩ = some (.pointer (some ⟨w.heap.size + 1, 0, none⟩)) := blk_cell hb2 0
    have hlr : RdsY wr base (.slice q ls.length c) vs ls := hl.mod hm (by simp)
    have hrc := record_any hsc hlr recs.length (by omega)
    have a2 : wr.cell? ⟨w.heap.size + 1, 2, none⟩ = some (.int .i64 (at_ : Int)) := blk_cell hsc 2
    have t1 : Hid True := trivial
    cases hr : recS ls gen at_ recs.length with
    | none =>
      have hO : O = (recs, at_) := by
        rw [← HO.out, ← hS.out (ls.length + 1) (by omega), scanF_none hr]
        simp
      rw [hr] at hrc
      obtain rfl := hO
      have HH := hide (And.intro hrow (And.intro hsc (And.intro hat hra)))
      clear hrow hsc hat hra hr hS HO hlr hl
      obtain ⟨q4, c4, rfl, hm4⟩ := HH.out.1.shape
      go_wp2_with (go_at_call 284; refine hrc.mono ?_; rintro e w2 ⟨rfl, hm2⟩)
      have k2 := hm2.at_ hb2 (by simp)
      have k0 := hm2.at_ hb0 (by simp)
      have k1 : w2.cell? ⟨w.heap.size + 1, 2, none⟩ = some (.int .i64 (at_ : Int)) := blk_cell (hm2.at_ HH.out.2.1 (by simp)) 2
      refine leaves_cons (f := 283) (args := #[.pointer (some ⟨w.heap.size + 2, 0, none⟩), .pointer (some ⟨w.heap.size, 0, none⟩)]) (by simp) (by simp [go_sem]) ?_
      refine (scan1_any [] (blk_cell k2 0) k1 (blk_cell k0 0) (blk_free k0 0)).mono ?_
      rintro e u' w3 ⟨rfl, rfl, rfl⟩
      have k3 : ((w2.alloc (.cells #[] 372 (0, 0))).setCell ⟨w.heap.size, 0, none⟩ (.int .i64 (at_ : Int))).cell? ⟨w.heap.size, 0, none⟩ = some (.int .i64 (at_ : Int)) := blk_cell (blk_set (blk_alloc k0 _) 0 _) 0
      simp [Leaves, settle, results, Tryz.results193, go_sem, k3]
      refine ⟨q4, c4, ws, rfl, ((HH.out.1.mod hm2 (by simp)).mod (S := [w.heap.size]) (((Mod.refl _ w2).alloc _).setCell (fun _ => by simp) _) (fun k hk => by simp at hk; omega)).base (by omega), by have := HH.out.2.2.1; have := HH.out.2.2.2; simp; omega, by have := HH.out.2.2.1; simp; omega, ?_⟩
      exact (((hm.then hm2).alloc _).setCell (fun h => absurd h (Nat.lt_irrefl _)) _)
    | some dn =>
      obtain ⟨d, n⟩ := dn
      rw [hr] at hrc
      have hn := rec_fit hr
      have hnp := (rec_pos hr).2.2
      have hrec1 := (rec_pos hr).1
      obtain ⟨q4, c4, rfl, hm4⟩ := hrow.shape
      have HH := hide (And.intro hrow (And.intro hsc (And.intro hat hra)))
      have hS2 : Hid (∀ f, ls.length < f + (at_ + n) → ((recs ++ [d]) ++ (scanF ls gen f (at_ + n) (recs.length + 1)).1, (scanF ls gen f (at_ + n) (recs.length + 1)).2) = scanS ls gen) := hide (fun f hf => by
        rw [← hS.out (ls.length + 1) (by omega), scanF_some hr ls.length, scanF_fuel ls gen ls.length f (at_ + n) _ (by omega) (by omega)]
        simp)
      clear hS
      have HR := hide hr
      have hm4' : recs.length ≤ 1000000 := by omega
      have hnat : at_ + n ≤ ls.length ∧ recs.length + 1 ≤ at_ + n := ⟨hn, by omega⟩
      clear hrow hsc hat hra hr hlr hl
      have t2 : Hid True := trivial
      go_wp2_with
        (first
          | (have tk := t1; go_at_call 284; refine hrc.mono ?_; rintro e w2 ⟨q2, c2, rfl, hr2, hsc2, hm2⟩; clear t1 tk)
          | (at_builtin; have tk := t2; refine wpList_app_ys _ rfl _ _ rfl (w.heap.size + 3) (.slice q4 recs.length c4) ws recs rfl ((HH.out.1.mod hm2 (by simp)).mod ((Mod.refl [] w2).alloc _) (by simp)) w2.heap.size (.slice q2 d.length c2) d rfl (heap_alloc_new w2 _) rfl ((hr2.base hsz').gr ((Gr.refl w2).alloc _)) (fun k hk e => by have h1 := hr2.blk k hk; have h2 := HH.out.1.blk k e; omega) hm4' (by have := hm2.size; simp; omega) ?_; rintro g cap w4 hrow4 hm4 hg hglt; clear t2 tk)
          | fail)
      have hnb : ∀ x, x < w.heap.size + 3 → x ∉ ob (.slice q4 recs.length c4) := fun x hx e => by have := (HH.out.1.blk x e).1; omega
      have hm24 : Mod [w.heap.size + 1] wr (w2.alloc (.cells #[.slice q2 d.length c2] 152 (0, 0))) := hm2.alloc _
      go_roundw
      case rel =>
        refine ⟨_, recs ++ [d], at_ + n, by simpa using hrow4, hm4.at_ (blk_alloc hsc2 _) (hnb _ (by omega)), hnat.1, by simp; exact hnat.2, hm4.at_ (hm24.at_ hb2 (by simp)) (hnb _ (by omega)), hm4.at_ (hm24.at_ hb0 (by simp)) (hnb _ (by omega)), ?_, ?_, by simpa using hS2⟩
        · exact (hm.trans (U := []) hm24 (fun _ x _ => x) (fun x hx hlt => by simp at hx; omega)).trans hm4 (fun _ x _ => x) (fun x hx hlt => by have := (HH.out.1.blk x hx).1; omega)
        · have := hm24.size
          have := hm4.size
          omega
      case measure =>
        have e1 : w4.cell? ⟨w.heap.size + 1, 2, none⟩ = some (.int .i64 ((at_ + n : Nat) : Int)) := blk_cell (hm4.at_ (blk_alloc hsc2 _) (hnb _ (by omega))) 2
        rw [e1, a2]
        simp
        omega
end Go.Proofs.YtkfhapidoolfdaaGreatDoor
