/-
  WALKS: slices.Collect(slices.Chunk(data, 47)): the pieces, one behind the other, each a part of data's own memory.
-/
import Derived.Test.YtkfhapidoolfdaaGreatDoorBytes
import Derived.RangeFuncWrites
import Derived.RangeFuncNested
import Derived.RangeFuncBound
import Derived.RangeFuncCalls
import Derived.RangeFuncLeaves
import Derived.RangeFuncBox
import Derived.RangeFuncFrom
import Derived.Shelf.Abstract
import Derived.Shelf.RegionOpen
import Derived.WalkKit
import Derived.OwnWalkIn
import Derived.TacticsInMore
import Derived.LoopNIn
import Derived.LoopIn
import Derived.Maps.AppendAt
import Derived.Deep.AppendLies
import Derived.Sort.QuietIn
namespace Go.Proofs.YtkfhapidoolfdaaGreatDoor
open Go.RowKit Go.Maps Go.Sort Go.Shelf
attribute [local go_sem] Oper.semAt_some

/-- piece i of a slice at q, n bytes long -/
def chV (q : Option Addr) (n i : Nat) : Value := .slice (q.map fun x => x.add (47 * i)) (min 47 (n - 47 * i)) (min 47 (n - 47 * i))
def chN (n : Nat) : Nat := (n + 46) / 47
set_option maxRecDepth 100000 in
set_option maxHeartbeats 1000000 in
theorem chunk1_in (F : Fence) (n : Nat) (hF : F.fn 359) (hro : F.round = none) (hn : 1 ≤ n) (l n₀ Bs Bn : Nat) (q : Option Addr) (m c : Nat) (hmc : m ≤ c) (hmx : m ≤ 1000000) (J Jx : List Nat → World → Prop)
    (hY : ∀ pre x W, J pre W → pre.length < chN m → YieldAt F (n - 1) Tryz.prog l #[chV q m x] W fun e W' =>
      (e = .returned (.bool true) ∧ J (pre ++ [x]) W' ∧ Below n₀ W W') ∨ (e = .returned (.bool false) ∧ Jx (pre ++ [x]) W'))
    (W : World) (hJ : AbidesFrom W.heap.size J) (hBs : Bs < n₀) (hBn : Bn < n₀) (hs : W.cell? ⟨Bs, 0, none⟩ = some (.slice q m c)) (hm : W.cell? ⟨Bn, 0, none⟩ = some (.int .i64 47)) (h0 : J [] W) :
    CallsIn F n Tryz.prog 359 #[.func (.yield l) #[] #[], .pointer (some ⟨Bs, 0, none⟩), .pointer (some ⟨Bn, 0, none⟩)] W fun e W' => (∃ v, e = .returned v) ∧
      ((∃ xs, xs = List.range (chN m) ∧ J xs W') ∨ (∃ pre, True ∧ Jx pre W')) := by
  refine callsIn_of_wp Tryz.func359 rfl hF ?_ hro
  simp only [Tryz.ntmps359, List.size_toArray, List.length_cons, List.length_nil, Nat.reduceAdd, Nat.reduceSub, Array.replicate_succ, Array.replicate_zero, List.push_toArray, List.append_toArray, List.nil_append, List.cons_append]
  gi_wp2
  gi_loopw [4] (fun i wr => ∃ k : Nat, i = .int .i64 ((47 * k : Nat) : Int) ∧ k ≤ chN m ∧ J (List.range k) wr ∧ Below n₀ W wr)
    (fun i _ => m + 47 - (intOf i).toNat)
  case atStart => exact ⟨0, rfl, Nat.zero_le _, h0, Below.refl _ _⟩
  case round =>
    obtain ⟨k, rfl, hk, hJk, hB⟩ := hrel
    have c1 : wr.cell? ⟨Bs, 0, none⟩ = some (.slice q m c) := (hB.cell (p := ⟨Bs, 0, none⟩) hBs).trans hs
    have c2 : wr.cell? ⟨Bn, 0, none⟩ = some (.int .i64 47) := (hB.cell (p := ⟨Bn, 0, none⟩) hBn).trans hm
    by_cases hlt : 47 * k < m
    · have hlen : (List.range k).length < chN m := by rw [List.length_range]; unfold chN; omega
      have i1 : ((47 * k : Nat) : Int) < (m : Int) := by omega
      have i2 : (0 : Int) ≤ ((47 * k : Nat) : Int) := by omega
      have i3 : ((47 * k : Nat) : Int) ≤ (c : Int) := by omega
      have i4 : 47 * k ≤ m := by omega
      have i5 : 47 * k ≤ c := by omega
      have hch : chV q m k = .slice (q.map fun x => x.add (47 * k)) (min 47 (m - 47 * k)) (min 47 (m - 47 * k)) := rfl
      have hkN : k + 1 ≤ chN m := by unfold chN; omega
      have hnext : ((47 * k : Nat) : Int) + 47 = ((47 * (k + 1) : Nat) : Int) := by omega
      generalize hj : 47 * k = j at *
      obtain ⟨d, hd⟩ : ∃ d, min 47 (m - j) = d := ⟨_, rfl⟩
      rw [hd] at hch
      have hd1 : 1 ≤ d := by omega
      have hd2 : d ≤ 47 := by omega
      have hd3 : j + d ≤ m := by omega
      have hif : (if ((m - j : Nat) : Int) < 47 then ((m - j : Nat) : Int) else 47) = (d : Int) := by split <;> omega
      have HJ := hide (And.intro hj (And.intro hd (And.intro hif hnext)))
      clear hj hd hif hnext
      have hcj : ¬ c = j := by omega
      gi_wp2
      refine wpIn_region_quiet_lit hro (by kernel_rfl) (by kernel_rfl) ?_
      repeat (gi_big_quiet_step (fail))
      refine wpQuietIn_nil ?_
      intro a' hw'
      obtain ⟨nq, rfl⟩ := hw'
      simp only [HJ.out.2.2.1]
      have hJd : J (List.range k) (wr.drewN nq) := hJ _ _ _ none hJk ⟨rfl, rfl, rfl, Nat.le_refl _, fun _ _ _ => rfl⟩ (fun r e => by cases e)
      obtain ⟨fn, tmps, assign, body, hy, hR⟩ := hY (List.range k) k (wr.drewN nq) hJd hlen
      rw [hch] at hy
      have hj1 : (j : Int) + (d : Int) ≤ (c : Int) := by omega
      have hjd : j + d - j = d := by omega
      gi_wp2
      refine hR.mono ?_
      rintro e1 W3 (⟨rfl, hJ3, hk3⟩ | ⟨rfl, hJx3⟩)
      · have hB3 : Below n₀ W W3 := (hB.trans (⟨rfl, rfl, rfl, Nat.le_refl _, fun _ _ => rfl⟩ : RowKit.Below n₀ wr (wr.drewN nq))).trans hk3
        have c1' : W3.cell? ⟨Bs, 0, none⟩ = some (.slice q m c) := (hB3.cell (p := ⟨Bs, 0, none⟩) hBs).trans hs
        have c2' : W3.cell? ⟨Bn, 0, none⟩ = some (.int .i64 47) := (hB3.cell (p := ⟨Bn, 0, none⟩) hBn).trans hm
        gi_wp2
        go_roundw
        case rel =>
          refine ⟨k + 1, ?_, hkN, by rw [List.range_succ]; exact hJ3, hB3⟩
          rw [← HJ.out.2.2.2]
        case measure => simp [intOf]; omega
      · gi_wp2
        refine bodyPost_ret (results_none rfl _ _ _) rfl ?_
        exact ⟨⟨_, rfl⟩, .inr ⟨_, trivial, hJx3⟩⟩
    · have hkk : k = chN m := by unfold chN at hk ⊢; omega
      subst hkk
      have i1 : ¬ ((47 * chN m : Nat) : Int) < (m : Int) := by omega
      gi_wp2
      go_end0
      exact ⟨⟨_, rfl⟩, .inl hJk⟩
theorem chunk_stops (F : Fence) (n : Nat) (hF : F.fn 359) (hro : F.round = none) (hn : 1 ≤ n) (n₀ Bs Bn : Nat) (q : Option Addr) (m c : Nat) (hmc : m ≤ c) (hmx : m ≤ 1000000) (w : World) (hw : n₀ ≤ w.heap.size) (hBs : Bs < n₀) (hBn : Bn < n₀)
    (hs : w.cell? ⟨Bs, 0, none⟩ = some (.slice q m c)) (hm : w.cell? ⟨Bn, 0, none⟩ = some (.int .i64 47)) :
    SeqStopsK F n Tryz.prog 359 #[.pointer (some ⟨Bs, 0, none⟩), .pointer (some ⟨Bn, 0, none⟩)] (fun x : Nat => #[chV q m x]) (Below n₀) (fun xs => xs = List.range (chN m)) (fun _ => True) (chN m) w := fun l J Jx W hW hJ _ hY h0 => by
  have hz := hW.size
  exact chunk1_in F n hF hro hn l n₀ Bs Bn q m c hmc hmx J Jx hY W hJ hBs hBn ((hW.cell (p := ⟨Bs, 0, none⟩) (by show Bs < _; omega)).trans hs) ((hW.cell (p := ⟨Bn, 0, none⟩) (by show Bn < _; omega)).trans hm) h0
def CollC (w : World) (q : Option Addr) (m : Nat) (pre : List Nat) (W : World) : Prop := (∃ v, Boxed W w.heap.size 275 v ∧ W.ownsRow w.heap.size 152 1 v pre.length (pre.map (chV q m)) ∧ True) ∧ Below w.heap.size w W
theorem info_ys : (Tryz.prog.info? 152).map (fun i => (i.zero, i.size, i.bytes)) = some (some (.slice none 0 0), 1, 24) := by kernel_rfl
set_option maxRecDepth 100000 in
set_option maxHeartbeats 2000000 in
theorem apchunk_in (F : Fence) (n : Nat) (hf : F.fn 358) (h5 : F.fn 359) (hro : F.round = none) (hn : 3 ≤ n) (Bs Bn : Nat) (q : Option Addr) (m c : Nat) (hmc : m ≤ c) (hmx : m ≤ 1000000) (w : World) (hBs : Bs < w.heap.size) (hBn : Bn < w.heap.size)
    (hs : w.cell? ⟨Bs, 0, none⟩ = some (.slice q m c)) (hm : w.cell? ⟨Bn, 0, none⟩ = some (.int .i64 47)) :
    CallsIn F n Tryz.prog 358 #[.slice none 0 0, .func (.func 359) #[] #[.pointer (some ⟨Bs, 0, none⟩), .pointer (some ⟨Bn, 0, none⟩)]] w fun e w' =>
      ∃ (v : Value), e = .returned v ∧ w'.ownsRow w.heap.size 152 1 v (chN m) ((List.range (chN m)).map (chV q m)) ∧ Below w.heap.size w w' := by
  have h1 : 1 ≤ n := by omega
  have hN : chN m ≤ 100000 := by unfold chN; omega
  obtain ⟨i0, hi, hz0, hz1, hz2⟩ := info_parts info_ys
  refine callsIn_of_wp_marks Tryz.func358 rfl hf ?_ hro
  simp only [Tryz.ntmps358, List.size_toArray, List.length_cons, List.length_nil, Nat.reduceAdd, Nat.reduceSub, Array.replicate_succ, Array.replicate_zero, List.push_toArray, List.append_toArray, List.nil_append, List.cons_append]
  gi_wp2
  have bO := Boxed.new w 275 (.slice none 0 0)
  have hB0 : Below w.heap.size w (w.alloc (.cells #[.slice none 0 0] 275)) := (Below.refl _ w).alloc (Nat.le_refl _) _
  have hs0 := ((Gr.refl w).alloc (.cells #[.slice none 0 0] 275)).kept hs
  have hm0 := ((Gr.refl w).alloc (.cells #[.slice none 0 0] 275)).kept hm
  refine wpIn_rangeFunc_ownG hro h1 (gf := 359) (lb := #[.pointer (some ⟨Bs, 0, none⟩), .pointer (some ⟨Bn, 0, none⟩)]) rfl h5 (enters_of Tryz.func359 (by kernel_rfl) rfl)
    (chunk_stops F (n - 1) h5 hro (by omega) w.heap.size Bs Bn q m c hmc hmx _ (by simp) hBs hBn hs0 hm0) belowK_t (belowK_b (by simp)) (Below.refl _ _) (fun _ => rfl)
    (CollC w q m) (fun _ _ _ => False)
    (OwnFrom.and (Own.from (holdsRow_own w.heap.size w.heap.size 275 152 1 (fun pre : List Nat => pre.length) (fun pre => pre.map (chV q m)) (fun _ _ => True)) _) (ownFrom_below (Nat.le_refl _) (by simp)))
    (fun _ _ _ _ _ hs _ _ => hs)
    ⟨⟨_, bO, World.ownsRow_nil _ _ _ _, trivial⟩, hB0⟩
    (fun x => { tmps := #[.slice none 0 0, .func (.func 359) #[] #[.pointer (some ⟨Bs, 0, none⟩), .pointer (some ⟨Bn, 0, none⟩)], .pointer (some ⟨w.heap.size, 0, none⟩), undef, .slice none 0 0, chV q m x, .func (.func 359) #[] #[.pointer (some ⟨Bs, 0, none⟩), .pointer (some ⟨Bn, 0, none⟩)], chV q m x, undef, undef, undef, undef, undef], defers := [] }) ?assign ?body ?done ?stop
  case assign =>
    intro l x W K hK
    gi_wp2
    exact hK
  case body =>
    rintro l pre x W ⟨⟨v, hv, hrow, -⟩, hB⟩ hlt
    have hc := hv.cell
    obtain ⟨aa, nn, hch⟩ : ∃ aa nn, chV q m x = .slice aa nn nn := ⟨_, _, rfl⟩
    rw [hch]
    have HL := hide hch
    clear hch
    gi_wp2_with (gi_at_builtin; refine wpListIn_append_own _ rfl _ _ 275 rfl w.heap.size 152 i0 _ 1 24 Tryz.underlying275 hi hz0 hz1 hz2 rfl (by decide) _ _ _ rfl (hrow.alloc _) ⟨W.heap.size, 0, none⟩ 1 1 [.slice aa nn nn] rfl rfl (World.news_of_block (heap_alloc_new W (.cells #[.slice aa nn nn] 152))) (by simp [Value.oneCell']) (by unfold maxLen; omega) (by omega) (by have := hB.size; simp; omega) ?_; intro v' w1 hown' hgrow _; obtain ⟨g', cap', rfl⟩ := ownsRow_succ hown'; obtain ⟨hv1, hv2, hr2, hk2, hb2⟩ := hv.appended (by decide) hrow hB.size (Nat.le_refl _) hown' hgrow; have hc1 := hv1.cell; have hf1 := hv1.frozen)
    refine ⟨hk2.from _, hb2, ⟨_, hv2, ?_, trivial⟩, hB.trans hb2⟩
    rw [List.length_append, List.map_append, List.map_cons, HL.out]
    exact hr2
  case done =>
    rintro D ys W hD hp ⟨⟨v, hv, hrow, -⟩, hB⟩ hK
    subst hp
    have hc := hv.cell
    gi_wp2
    refine ⟨by simp, .inl ⟨_, _, rfl, run_takeDeferred hK, ?_⟩⟩
    rw [List.length_range] at hrow
    exact ⟨_, results_tmp rfl _ _ _, v, rfl, ownsRow_putObj hrow _ hK rfl, hB.trans (belowK_b (w := w) (Nat.le_refl _) W D _ _ (by simp at hD; omega) hK rfl rfl)⟩
  case stop =>
    rintro D c pre W _ _ h _
    exact h.elim
set_option maxHeartbeats 1000000 in
theorem collChunk_in (F : Fence) (n : Nat) (h8 : F.fn 280) (hf : F.fn 358) (h5 : F.fn 359) (hro : F.round = none) (hn : 4 ≤ n) (Bs Bn : Nat) (q : Option Addr) (m c : Nat) (hmc : m ≤ c) (hmx : m ≤ 1000000) (w : World) (hBs : Bs < w.heap.size) (hBn : Bn < w.heap.size)
    (hs : w.cell? ⟨Bs, 0, none⟩ = some (.slice q m c)) (hm : w.cell? ⟨Bn, 0, none⟩ = some (.int .i64 47)) :
    CallsIn F n Tryz.prog 280 #[.func (.func 359) #[] #[.pointer (some ⟨Bs, 0, none⟩), .pointer (some ⟨Bn, 0, none⟩)]] w fun e w' =>
      ∃ (v : Value), e = .returned v ∧ w'.ownsRow w.heap.size 152 1 v (chN m) ((List.range (chN m)).map (chV q m)) ∧ Below w.heap.size w w' := by
  have h1 : 1 ≤ n := by omega
  refine callsIn_of_wp Tryz.func280 rfl h8 ?_ hro
  simp only [Tryz.ntmps280, List.size_toArray, List.length_cons, List.length_nil, Nat.reduceAdd, Nat.reduceSub, Array.replicate_succ, Array.replicate_zero, List.push_toArray, List.append_toArray, List.nil_append, List.cons_append]
  gi_wp2_with (gi_at_call 358; refine (apchunk_in F (n - 1) hf h5 hro (by omega) Bs Bn q m c hmc hmx _ hBs hBn hs hm).mono ?_; rintro e w' ⟨v, rfl, hr, hb⟩)
  go_ret
  exact ⟨v, rfl, hr, hb⟩
theorem collChunk_any {w : World} {Bs Bn : Nat} {q : Option Addr} {m c : Nat} (hmc : m ≤ c) (hmx : m ≤ 1000000) (hs : w.cell? ⟨Bs, 0, none⟩ = some (.slice q m c)) (hm : w.cell? ⟨Bn, 0, none⟩ = some (.int .i64 47)) :
    Calls Tryz.prog 280 #[.func (.func 359) #[] #[.pointer (some ⟨Bs, 0, none⟩), .pointer (some ⟨Bn, 0, none⟩)]] w fun e w' =>
      ∃ (v : Value), e = .returned v ∧ w'.ownsRow w.heap.size 152 1 v (chN m) ((List.range (chN m)).map (chV q m)) ∧ Mod [] w w' :=
  (callsIn_wide (n := 9).1 (collChunk_in Fence.wide 9 trivial trivial trivial rfl (by decide) Bs Bn q m c hmc hmx w (World.block_lt_of_cell? w ⟨Bs, 0, none⟩ hs) (World.block_lt_of_cell? w ⟨Bn, 0, none⟩ hm) hs hm)).mono fun e w' ⟨v, h1, h3, h4⟩ => ⟨v, h1, h3, ⟨h4.os, h4.tape, h4.output, h4.size, fun k hk _ => h4.block k hk⟩⟩
set_option maxRecDepth 100000 in
theorem chunk_any (w : World) (q : Option Addr) (m c : Nat) : Calls Tryz.prog 281 #[.slice q m c, .int .i64 47] w fun e w' => e = .returned (.func (.func 359) #[] #[.pointer (some ⟨w.heap.size, 0, none⟩), .pointer (some ⟨w.heap.size + 1, 0, none⟩)]) ∧ w' = (w.alloc (.cells #[.slice q m c] 152)).alloc (.cells #[.int .i64 47] 3) := by
  go_enter Tryz.func281, Tryz.ntmps281
  go_wp2
  go_ret
  exact ⟨rfl, rfl⟩
end Go.Proofs.YtkfhapidoolfdaaGreatDoor
