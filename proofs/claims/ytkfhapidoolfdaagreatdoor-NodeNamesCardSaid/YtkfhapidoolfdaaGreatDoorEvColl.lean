/-
  WALKS: layer 5: slices.Collect(maps.Values(m)) at entries: each entry once, in some order.
-/
import Derived.Test.YtkfhapidoolfdaaGreatDoorEvEnt
import Derived.RangeFuncWrites
import Derived.RangeFuncNested
import Derived.RangeFuncBound
import Derived.RangeFuncCalls
import Derived.RangeFuncLeaves
import Derived.RangeFuncBox
import Derived.RangeFuncFrom
import Derived.Sort.MapsRangeIn
import Derived.Shelf.Abstract
import Derived.Shelf.RegionOpen
import Derived.WalkKit
import Derived.OwnWalkIn
import Derived.TacticsInMore
import Derived.LoopNIn
import Derived.LoopIn
import Derived.Maps.AppendAt
import Derived.Deep.AppendLies
namespace Go.Proofs.YtkfhapidoolfdaaGreatDoor
open Go.RowKit Go.Maps Go.Sort Go.Shelf
attribute [local go_sem] Oper.semAt_some

section
variable {P : Program} {k : TypeId} {κ : Type} {T : KeyT P k κ} {w w' : World} {b r cnt : Nat} {L lf : List (κ × Value)}
/-- a range over the map b under way, cnt pairs still to come -/
structure RangeC (T : KeyT P k κ) (w : World) (b r : Nat) (L lf : List (κ × Value)) (cnt : Nat) : Prop where
  map : MapL T w b L
  rep : ∃ n left, w.ranges P k Raw b r n (mapD T L) left cnt ∧ lf = L.filter fun p => left (T.kl p.1)
theorem RangeC.of_walks (h : RangeC T w b r L lf cnt) (hk : KeepsWalks w w') : RangeC T w' b r L lf cnt := by
  obtain ⟨n, left, h1, h2⟩ := h.rep
  exact ⟨⟨h.map.ok, h.map.one, n, (h1.of_walks hk).owns⟩, n, left, h1.of_walks hk, h2⟩
theorem RangeC.left_eq (h : RangeC T w b r L lf cnt) : w.rangeLeft b r = cnt := by
  obtain ⟨n, left, h1, h2⟩ := h.rep
  exact h1.left_eq
theorem RangeC.iter_walk (h : RangeC T w b r L lf cnt) : ∃ o : Obj, w.heap[r]? = some o ∧ o.isWalk = true := by
  obtain ⟨n, left, h1, h2⟩ := h.rep
  exact h1.iter_walk
end
section
variable {P : Program} {k : TypeId} {κ : Type} {T : KeyT P k κ} {F : Fence} {n : Nat} (w : World) {b : Nat} {L : List (κ × Value)} {ops : Array Oper} {rest : List Oper} {o : Oper} {a : Act} {Q : Exit → Act → World → Prop} {t e : TypeId}
theorem wpListIn_range_C (hg : o.guard = none) (m : Operand) (hop : o.op = Op.range t m) (ht : P.underlying t = some (.map k e)) (hm : a.eval m = .map (some b)) (h : MapL T w b L)
    (hK : ∀ w', RangeC T w' b w.heap.size L L L.length → w.grownBy w' none → w'.heap.size = w.heap.size + 1 → wpListIn F n P ops Q rest (a.put o.dst (.pointer (some ⟨w.heap.size, 0, none⟩))) w') :
    wpListIn F n P ops Q (o :: rest) a w := by
  refine wpListIn_range_own w hg m t hop k e T.K ht Raw b L.length _ hm h.tight fun w' h1 h2 h3 => hK w' ⟨h.mod ((Mod.refl [] w).grown h2 (by simp)) (by simp), L.length, Maps.has (mapD T L), ?_, ?_⟩ h2 h3
  · rw [h.size] at h1
    exact h1
  · symm
    refine List.filter_eq_self.2 fun p hp => (has_mapD h (h.ok p hp)).2 ⟨p.2, hp⟩
theorem wpListIn_next_C [DecidableEq κ] {r cnt : Nat} {lf : List (κ × Value)} (hg : o.guard = none) (it : Operand) (hop : o.op = Op.next it false) (hit : a.eval it = .pointer (some ⟨r, 0, none⟩)) (h : RangeC T w b r L lf cnt)
    (hDone : lf = [] → wpListIn F n P ops Q rest (a.put o.dst (.tuple #[.bool false])) w)
    (hMore : ∀ (x : κ) (v : Value) (w' : World) (cnt' : Nat), (x, v) ∈ lf → RangeC T w' b r L (delM lf x) cnt' → cnt' < cnt → w.grownBy w' (some r) → (Instr.entry (.pointer (some ⟨r, 0, none⟩))).run P w' = .ok (.tuple #[T.kv x, v]) w' → wpListIn F n P ops Q rest (a.put o.dst (.tuple #[.bool true, T.kv x, v])) w') :
    wpListIn F n P ops Q (o :: rest) a w := by
  obtain ⟨nn, left, h1, h2⟩ := h.rep
  refine wpListIn_next_ranges (α := { x : κ // T.ok x }) (β := Value) w hg it hop k T.K Raw (fun x => T.kv x.1) id (fun key kl hk => ?_) (fun v y _ => ⟨v, rfl⟩) b r nn _ left cnt hit h1 (fun _ hl => hDone ?_) (fun x c kl y w' cnt' hk hl hR hat hr' hlt hgr _ hen => ?_)
  · obtain ⟨x, h1, h2, _⟩ := T.inv key kl hk
    exact ⟨⟨x, h1⟩, h2⟩
  · rw [h2]
    exact List.filter_eq_nil_iff.2 fun p _ => by rw [hl]; decide
  · have hkl : kl = T.kl x.1 := by
      have := T.of x.1 x.2
      rw [this] at hk
      exact (Option.some.inj hk).symm
    subst hkl
    have hy : y = (.held c, []) := by simpa [Raw] using hR.symm
    subst hy
    have hh : Maps.has (mapD T L) (T.kl x.1) = true := Maps.has_true_of_atKey hat
    obtain ⟨v, hv⟩ := (has_mapD h.map x.2).1 hh
    have h3 := atKey_mapD h.map hv .nil
    rw [hat .nil] at h3
    have h4 : c = v := by simpa using h3
    subst h4
    have hne := h1.ne
    have md : Mod [r] w w' := (Mod.refl [r] w).grown hgr (fun k e _ => by cases e; simp)
    refine hMore x.1 c w' cnt' (by rw [h2]; exact List.mem_filter.2 ⟨hv, hl⟩) ⟨h.map.mod md (by simp; exact fun e => hne e.symm), nn, _, hr', ?_⟩ hlt hgr hen
    rw [h2]
    unfold delM
    rw [List.filter_filter]
    refine List.filter_congr fun p hp => ?_
    have hp' := h.map.ok p hp
    by_cases q : p.1 = x.1
    · rw [q, WideAt.sameKey_self (T.K.key (T.of x.1 x.2))]
      simp
    · have : (T.kl p.1).sameKey (T.kl x.1) = false := Maps.sameKey_ne (fun e => q (T.inj _ _ e hp' x.2))
      simp [q, this]
end
theorem pickE {lr : List Ent} (h : lr.Pairwise fun a b => a.id ≠ b.id) {e : Ent} (he : e ∈ lr) : lr.Perm (e :: lr.filter fun y => decide (y.id ≠ e.id)) := by
  induction lr with
  | nil => cases he
  | cons z r ih =>
    have h' := List.pairwise_cons.1 h
    rw [List.filter_cons]
    rcases List.mem_cons.1 he with x | x
    · subst x
      rw [if_neg (by simp)]
      rw [List.filter_eq_self.2 (fun q hq => decide_eq_true (h'.1 q hq).symm)]
    · rw [if_pos (decide_eq_true (h'.1 e x))]
      exact (List.Perm.cons z (ih h'.2 x)).trans (List.Perm.swap e z _)
theorem del_entV (lr : List Ent) (i : Int) : delM (lr.map entV) i = (lr.filter fun y => decide (y.id ≠ i)).map entV := by
  unfold delM
  rw [List.filter_map]
  rfl
set_option maxRecDepth 100000 in
set_option maxHeartbeats 1000000 in
/-- maps.Values' iterator, for every loop body -/
theorem vals1_in (F : Fence) (n : Nat) (hF : F.fn 400) (hro : F.round = none) (hn : 1 ≤ n) (l Bm b : Nat) (L : List Ent) (hL : L.Pairwise fun a b => a.id ≠ b.id) (J Jx : List Ent → World → Prop)
    (hY : ∀ pre x W, J pre W → pre.length < L.length → YieldAt F (n - 1) Tryz.prog l #[aggE x] W fun e W' =>
      (e = .returned (.bool true) ∧ J (pre ++ [x]) W' ∧ KeepsWalks W W') ∨ (e = .returned (.bool false) ∧ Jx (pre ++ [x]) W'))
    (W : World) (hJ : AbidesFrom W.heap.size J) (hm : W.cell? ⟨Bm, 0, none⟩ = some (.map (some b))) (hown : MapL iK W b (L.map entV)) (h0 : J [] W) :
    CallsIn F n Tryz.prog 400 #[.func (.yield l) #[] #[], .pointer (some ⟨Bm, 0, none⟩)] W fun e W' => (∃ v, e = .returned v) ∧
      ((∃ xs, xs.Perm L ∧ J xs W') ∨ (∃ pre, True ∧ Jx pre W')) := by
  refine callsIn_of_wp Tryz.func400 rfl hF ?_ hro
  simp only [Tryz.ntmps400, List.size_toArray, List.length_cons, List.length_nil, Nat.reduceAdd, Nat.reduceSub, Array.replicate_succ, Array.replicate_zero, List.push_toArray, List.append_toArray, List.nil_append, List.cons_append]
  gi_wp2_with (first
    | (gi_at_range; refine wpListIn_range_C (T := iK) _ rfl _ rfl Tryz.underlying388 rfl hown ?_; intro w0 hrg0 hg0 hs0)
    | gi_in)
  go_frame
  gi_loopw [4] (fun _ wr => ∃ (lr ps : List Ent) (cnt : Nat), RangeC iK wr b W.heap.size (L.map entV) (lr.map entV) cnt ∧ lr.Sublist L ∧ (ps ++ lr).Perm L ∧ J ps wr)
    (fun _ wr => wr.rangeLeft b W.heap.size)
  case atStart =>
    exact ⟨L, [], _, hrg0, List.Sublist.refl _, .refl _, hJ [] W w0 none h0 hg0 (fun r e => by cases e)⟩
  case round =>
    obtain ⟨lr, ps, cnt, hrg, hsub, hpm, hJs⟩ := hrel
    obtain ⟨lf, hlf⟩ : ∃ lf, lr.map entV = lf := ⟨_, rfl⟩
    rw [hlf] at hrg
    have HS := hide (And.intro hsub (And.intro hpm hlf))
    have HJ := hide hJs
    clear hsub hpm hJs hlf
    gi_wp2_with (first
      | (gi_at_next; refine wpListIn_next_C (T := iK) _ rfl _ rfl rfl hrg ?_ ?_)
      | gi_in)
    · intro hl0
      gi_wp2
      go_end0
      obtain ⟨hsub, hpm, hlf⟩ := HS.out
      have e0 : lr = [] := List.map_eq_nil_iff.1 (hlf.trans hl0)
      rw [e0, List.append_nil] at hpm
      exact ⟨⟨_, rfl⟩, .inl ⟨ps, hpm, HJ.out⟩⟩
    · intro x v w2 cnt2 hx hrg2 hlt hg2 hen
      obtain ⟨hsub, hpm, hlf⟩ := HS.out
      rw [← hlf] at hx hrg2
      obtain ⟨e, he, ee⟩ := List.mem_map.1 hx
      obtain ⟨rfl, rfl⟩ := Prod.mk.inj ee
      rw [del_entV] at hrg2
      have hpk := pickE (hL.sublist hsub) he
      have hJ2 : J ps w2 := hJ ps wr w2 (some W.heap.size) HJ.out hg2 (fun r e => by cases e; exact ⟨Nat.le_refl _, hrg.iter_walk⟩)
      have hJ3 : J ps (w2.alloc (objE e.id e.path e.mode e.who)) := hJ ps w2 _ none hJ2 (World.grownBy_alloc _ _ _) (fun r e => by cases e)
      have hlen : ps.length < L.length := by
        have h1 := hpm.length_eq
        have h2 := hpk.length_eq
        rw [List.length_append] at h1
        rw [List.length_cons] at h2
        omega
      obtain ⟨fn, tmps, assign, body, hy, hR⟩ := hY ps e _ hJ3 hlen
      have HN := hide (And.intro hpk (And.intro hrg (And.intro (hrg2.of_walks (KeepsWalks.alloc w2 (objE e.id e.path e.mode e.who))) hlt)))
      simp only [aggE] at hy
      simp only [iK, aggE] at hen
      simp only [aggE, iK]
      clear hpk hrg hrg2 hsub hpm hx he ee hlt hJ2 hJ3 HJ hlf
      gi_wp2
      refine hR.mono ?_
      rintro e1 W3 (⟨rfl, hJ3, hk3⟩ | ⟨rfl, hJx3⟩)
      · gi_wp2
        obtain ⟨hpk, hrg, hrg2, hlt⟩ := HN.out
        obtain ⟨hsub, hpm, -⟩ := HS.out
        have hrg3 := hrg2.of_walks hk3
        go_roundw
        case rel =>
          refine ⟨_, ps ++ [e], cnt2, hrg3, List.filter_sublist.trans hsub, ?_, hJ3⟩
          rw [List.append_assoc]
          exact (List.Perm.append_left ps hpk.symm).trans hpm
        case measure => rw [hrg3.left_eq, hrg.left_eq]; exact hlt
      · gi_wp2
        refine bodyPost_ret (results_none rfl _ _ _) rfl ?_
        exact ⟨⟨_, rfl⟩, .inr ⟨ps ++ [e], trivial, hJx3⟩⟩
theorem vals_stops (F : Fence) (n : Nat) (hF : F.fn 400) (hro : F.round = none) (hn : 1 ≤ n) (Bm b : Nat) (L : List Ent) (hL : L.Pairwise fun a b => a.id ≠ b.id) (w : World) (hBm : Bm < w.heap.size)
    (hm : w.cell? ⟨Bm, 0, none⟩ = some (.map (some b))) (hown : MapL iK w b (L.map entV)) :
    SeqStopsK F n Tryz.prog 400 #[.pointer (some ⟨Bm, 0, none⟩)] (fun x : Ent => #[aggE x]) KeepsWalks (fun xs => xs.Perm L) (fun _ => True) L.length w := fun l J Jx W hW hJ _ hY h0 => by
  refine (vals1_in F n hF hro hn l Bm b L hL J Jx hY W hJ ((hW.cell (p := ⟨Bm, 0, none⟩) hBm).trans hm) (hown.at_ (hW.block b hown.lt)) h0)
def encE (e : Ent) : List Value := [.int .i64 e.id, .string e.path, .int .i64 e.mode, .int .i64 e.who]
theorem info_ent : (Tryz.prog.info? 302).map (fun i => (i.zero, i.size, i.bytes)) = some (some (.agg #[.int .i64 0, .string ByteArray.empty, .int .i64 0, .int .i64 0]), 4, 40) := by kernel_rfl
def CollI (w : World) (pre : List Ent) (W : World) : Prop := (∃ v, Boxed W w.heap.size 331 v ∧ W.ownsRow w.heap.size 302 4 v pre.length (pre.flatMap encE) ∧ True) ∧ Below w.heap.size w W
def CollAx (w : World) (sv : Value) (x : Ent) (a' : Act) (W : World) : Prop := ∃ Bx, w.heap.size < Bx ∧ W.heap[Bx]? = some (objE x.id x.path x.mode x.who) ∧
  a' = { tmps := #[.slice none 0 0, sv, .pointer (some ⟨w.heap.size, 0, none⟩), undef, .slice none 0 0, .pointer (some ⟨Bx, 0, none⟩), sv, aggE x, undef, undef, undef, undef, undef], defers := [] }
set_option maxRecDepth 100000 in
set_option maxHeartbeats 2000000 in
theorem apseq_in (F : Fence) (n : Nat) (hf : F.fn 399) (h5 : F.fn 400) (hro : F.round = none) (hn : 3 ≤ n) (Bm b : Nat) (L : List Ent) (hL : L.Pairwise fun a b => a.id ≠ b.id) (hsm : L.length ≤ 64) (w : World) (hBm : Bm < w.heap.size)
    (hm : w.cell? ⟨Bm, 0, none⟩ = some (.map (some b))) (hown : MapL iK w b (L.map entV)) :
    CallsIn F n Tryz.prog 399 #[.slice none 0 0, .func (.func 400) #[] #[.pointer (some ⟨Bm, 0, none⟩)]] w fun e w' =>
      ∃ (v : Value) (xs : List Ent), e = .returned v ∧ xs.Perm L ∧ w'.ownsRow w.heap.size 302 4 v xs.length (xs.flatMap encE) ∧ Below w.heap.size w w' := by
  have h1 : 1 ≤ n := by omega
  obtain ⟨i0, hi, hz0, hz1, hz2⟩ := info_parts info_ent
  refine callsIn_of_wp_marks Tryz.func399 rfl hf ?_ hro
  simp only [Tryz.ntmps399, List.size_toArray, List.length_cons, List.length_nil, Nat.reduceAdd, Nat.reduceSub, Array.replicate_succ, Array.replicate_zero, List.push_toArray, List.append_toArray, List.nil_append, List.cons_append]
  gi_wp2
  have bO := Boxed.new w 331 (.slice none 0 0)
  have hB0 : Below w.heap.size w (w.alloc (.cells #[.slice none 0 0] 331)) := (Below.refl _ w).alloc (Nat.le_refl _) _
  have hm0 : (w.alloc (.cells #[.slice none 0 0] 331)).cell? ⟨Bm, 0, none⟩ = some (.map (some b)) := ((Gr.refl w).alloc _).kept hm
  have hown0 := hown.mod (((Gr.refl w).alloc (.cells #[.slice none 0 0] 331)).mod []) (by simp)
  refine wpIn_rangeFunc_ownH hro h1 (gf := 400) (lb := #[.pointer (some ⟨Bm, 0, none⟩)]) rfl h5 (enters_of Tryz.func400 (by kernel_rfl) rfl)
    (vals_stops F (n - 1) h5 hro (by omega) Bm b L hL _ (by simp; omega) hm0 hown0) walksK_t walksK_b (Below.refl _ _) (fun _ => rfl)
    (CollI w) (fun _ _ _ => False)
    (OwnFrom.and (Own.from (holdsRow_own w.heap.size w.heap.size 331 302 4 (fun pre : List Ent => pre.length) (fun pre => pre.flatMap encE) (fun _ _ => True)) _) (ownFrom_below (Nat.le_refl _) (by simp)))
    (fun _ _ _ _ _ hs _ _ => hs)
    ⟨⟨_, bO, World.ownsRow_nil _ _ _ _, trivial⟩, hB0⟩
    (CollAx w (.func (.func 400) #[] #[.pointer (some ⟨Bm, 0, none⟩)]))
    (fun x a' s A B row hs hg hr => by
      obtain ⟨Bx, q1, q2, q3⟩ := hs
      exact ⟨Bx, q1, (grownBy_keeps_cells hg (fun r e => (hr r e).2) q2 rfl).trans q2, q3⟩) ?assign ?body ?done ?stop
  case assign =>
    rintro l pre x W K ⟨⟨v, hv, hrow, -⟩, hB⟩ hK
    have hK' := hK { tmps := #[.slice none 0 0, .func (.func 400) #[] #[.pointer (some ⟨Bm, 0, none⟩)], .pointer (some ⟨w.heap.size, 0, none⟩), undef, .slice none 0 0, .pointer (some ⟨W.heap.size, 0, none⟩), .func (.func 400) #[] #[.pointer (some ⟨Bm, 0, none⟩)], aggE x, undef, undef, undef, undef, undef], defers := [] } (W.alloc (objE x.id x.path x.mode x.who)) ((KeepsOthers.alloc _ _).from _) (KeepsWalks.alloc _ _)
      ⟨⟨v, hv.alloc _, hrow.alloc _, trivial⟩, hB.alloc hB.size _⟩ ⟨W.heap.size, hv.lt, heap_alloc_new _ _, rfl⟩
    clear hK
    simp only [aggE] at hK' ⊢
    gi_wp2
    exact hK'
  case body =>
    rintro l pre x a' W hl hr ⟨⟨v, hv, hrow, -⟩, hB⟩ ⟨Bx, hBx, bX, rfl⟩ hlt
    have hc := hv.cell
    have CX := blk_cell bX
    simp only [aggE]
    gi_wp2_with (gi_at_builtin; refine wpListIn_append_own _ rfl _ _ 331 rfl w.heap.size 302 i0 _ 4 40 Tryz.underlying331 hi hz0 hz1 hz2 rfl (by decide) _ _ _ rfl (hrow.alloc _) ⟨W.heap.size, 0, none⟩ 1 1 (encE x) rfl rfl (World.news_of_block (heap_alloc_new W (objE x.id x.path x.mode x.who))) (by simp [encE, Value.oneCell']) (by unfold maxLen; omega) (by omega) (by have := hB.size; simp; omega) ?_; intro v' w1 hown' hgrow _; obtain ⟨g', cap', rfl⟩ := ownsRow_succ hown'; obtain ⟨hv1, hv2, hr2, hk2, hb2⟩ := hv.appended (by decide) hrow hB.size (Nat.le_refl _) hown' hgrow; have hc1 := hv1.cell; have hf1 := hv1.frozen)
    refine ⟨hk2.from _, hk2.walks, ⟨_, hv2, ?_, trivial⟩, hB.trans hb2⟩
    rw [List.length_append, List.flatMap_append]
    simpa using hr2
  case done =>
    rintro D ys W hD hp ⟨⟨v, hv, hrow, -⟩, hB⟩ hK
    have hc := hv.cell
    gi_wp2
    refine ⟨by simp, .inl ⟨_, _, rfl, run_takeDeferred hK, ?_⟩⟩
    exact ⟨_, results_tmp rfl _ _ _, v, ys, rfl, hp, ownsRow_putObj hrow _ hK rfl, hB.trans (belowK_b (w := w) (Nat.le_refl _) W D _ _ (by simp at hD; omega) hK rfl rfl)⟩
  case stop =>
    rintro D c pre W _ _ h _
    exact h.elim
set_option maxHeartbeats 1000000 in
theorem collect_in (F : Fence) (n : Nat) (h8 : F.fn 343) (hf : F.fn 399) (h5 : F.fn 400) (hro : F.round = none) (hn : 4 ≤ n) (Bm b : Nat) (L : List Ent) (hL : L.Pairwise fun a b => a.id ≠ b.id) (hsm : L.length ≤ 64) (w : World) (hBm : Bm < w.heap.size)
    (hm : w.cell? ⟨Bm, 0, none⟩ = some (.map (some b))) (hown : MapL iK w b (L.map entV)) :
    CallsIn F n Tryz.prog 343 #[.func (.func 400) #[] #[.pointer (some ⟨Bm, 0, none⟩)]] w fun e w' =>
      ∃ (v : Value) (xs : List Ent), e = .returned v ∧ xs.Perm L ∧ w'.ownsRow w.heap.size 302 4 v xs.length (xs.flatMap encE) ∧ Below w.heap.size w w' := by
  have h1 : 1 ≤ n := by omega
  refine callsIn_of_wp Tryz.func343 rfl h8 ?_ hro
  simp only [Tryz.ntmps343, List.size_toArray, List.length_cons, List.length_nil, Nat.reduceAdd, Nat.reduceSub, Array.replicate_succ, Array.replicate_zero, List.push_toArray, List.append_toArray, List.nil_append, List.cons_append]
  gi_wp2_with (gi_at_call 399; refine (apseq_in F (n - 1) hf h5 hro (by omega) Bm b L hL hsm _ hBm hm hown).mono ?_; rintro e w' ⟨v, xs, rfl, hp, hr, hb⟩)
  go_ret
  exact ⟨v, xs, rfl, hp, hr, hb⟩
theorem collect_any {w : World} {Bm b : Nat} {L : List Ent} (hL : L.Pairwise fun a b => a.id ≠ b.id) (hsm : L.length ≤ 64) (hm : w.cell? ⟨Bm, 0, none⟩ = some (.map (some b))) (hown : MapL iK w b (L.map entV)) :
    Calls Tryz.prog 343 #[.func (.func 400) #[] #[.pointer (some ⟨Bm, 0, none⟩)]] w fun e w' =>
      ∃ (v : Value) (xs : List Ent), e = .returned v ∧ xs.Perm L ∧ w'.ownsRow w.heap.size 302 4 v xs.length (xs.flatMap encE) ∧ Mod [] w w' :=
  (callsIn_wide (n := 9).1 (collect_in Fence.wide 9 trivial trivial trivial rfl (by decide) Bm b L hL hsm w (World.block_lt_of_cell? w ⟨Bm, 0, none⟩ hm) hm hown)).mono fun e w' ⟨v, xs, h1, h2, h3, h4⟩ => ⟨v, xs, h1, h2, h3, ⟨h4.os, h4.tape, h4.output, h4.size, fun k hk _ => h4.block k hk⟩⟩
set_option maxRecDepth 100000 in
theorem values_any (w : World) (b : Option Nat) : Calls Tryz.prog 344 #[.map b] w fun e w' => e = .returned (.func (.func 400) #[] #[.pointer (some ⟨w.heap.size, 0, none⟩)]) ∧ w' = w.alloc (.cells #[.map b] 388) := by
  go_enter Tryz.func344, Tryz.ntmps344
  go_wp2
  go_ret
  exact ⟨rfl, rfl⟩
end Go.Proofs.YtkfhapidoolfdaaGreatDoor
