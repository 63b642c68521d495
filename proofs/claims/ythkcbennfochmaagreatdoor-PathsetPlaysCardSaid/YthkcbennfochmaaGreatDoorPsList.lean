/-
  WALKS: layer 5: paths.Compare, slices.SortFunc at entries, List.
-/
import Derived.Test.YthkcbennfochmaaGreatDoorPsClash
import Derived.Test.YthkcbennfochmaaGreatDoorCmpI
import Derived.Test.YthkcbennfochmaaGreatDoorSortRow
import Derived.Test.YthkcbennfochmaaGreatDoorShelfPsF
import Derived.Deep.RegionHeld3
namespace Go.Proofs.YthkcbennfochmaaGreatDoor
open Go.RowKit Go.Maps Go.Sort Go.Shelf

theorem pcompare_any (p q : ByteArray) (w : World) : Calls Tryz.prog 28 #[.string p, .string q] w fun e w' => e = .returned (.int .i64 (cmpB p.data.toList q.data.toList)) ∧ w' = w := by
  have hc := fun W => Any.strings_Compare Tryz.lays106 p q W
  change ∀ W, Calls Tryz.prog 46 _ W _ at hc
  go_enter Tryz.func28, Tryz.ntmps28
  go_wp2_with (
    go_at_call 46
    refine (hc _).mono ?_
    rintro e w' ⟨rfl, rfl⟩)
  go_ret
  exact ⟨rfl, rfl⟩
/-! ### the order of List -/
def ordE (x y : Ent) : Int := orInt [cmpB x.bs y.bs, cmpInt x.id y.id]
theorem ltOE_iff (x y : Ent) : ltOf ordE x y = true ↔ ltE x y := by
  show decide (ordE x y < 0) = true ↔ _
  rw [decide_eq_true_eq]
  unfold ordE ltE
  rcases cmpB_cases x.bs y.bs with e1 | e1 | e1
  · simp [orInt, e1]
  · have h := cmpB_zero.1 e1
    have h0 : cmpB y.bs y.bs = 0 := cmpB_zero.2 rfl
    rcases cmpInt_cases x.id y.id with ⟨h2, e2⟩ | ⟨h2, e2⟩ | ⟨h2, e2⟩ <;> simp [orInt, e2, h, h0] <;> omega
  · have h : x.bs ≠ y.bs := fun e => by rw [cmpB_zero.2 e] at e1; cases e1
    simp [orInt, e1, h]
theorem ltOE_false (x y : Ent) : ltOf ordE x y = false ↔ ¬ ltE x y := by
  rw [← ltOE_iff]; cases ltOf ordE x y <;> simp
theorem ltE_ntr {a b c : Ent} (h : ¬ ltE a b) (k : ¬ ltE b c) : ¬ ltE a c := by
  intro x
  have h1 : ∀ {u v : Ent}, ¬ ltE u v → ltE v u ∨ (u.bs = v.bs ∧ u.id = v.id) := fun {u v} q => by
    by_cases e : u.id = v.id
    · unfold ltE at q ⊢
      rw [not_or] at q
      rcases cmpB_cases u.bs v.bs with e1 | e1 | e1
      · omega
      · exact .inr ⟨cmpB_zero.1 e1, e⟩
      · exact .inl (.inl (by rw [cmpB_neg, e1]; decide))
    · exact .inl (ltE_tot q e)
  have h2 : ∀ {u v z : Ent}, u.bs = v.bs → u.id = v.id → ltE u z → ltE v z := fun {u v z} p q r => by
    unfold ltE at r ⊢
    rw [← p, ← q]; exact r
  rcases h1 h with h | ⟨ha, hb⟩
  · exact k (ltE_tr h x)
  · exact k (h2 ha hb x)
theorem swoE : SWO (ltOf ordE) where
  irrefl x := by rw [ltOE_false]; exact ltE_irr _
  trans x y z h1 h2 := by rw [ltOE_iff] at *; exact ltE_tr h1 h2
  ntrans x y z h1 h2 := by rw [ltOE_false] at *; exact ltE_ntr h1 h2
theorem get2 {w : World} {b : Nat} {x y : Int} (h0 : w.cell? ⟨b, 0, none⟩ = some (.int .i64 x)) (h1 : w.cell? ⟨b, 1, none⟩ = some (.int .i64 y)) :
    ∀ k, k < [x, y].length → w.cell? ⟨b, k, none⟩ = some (.int .i64 ([x, y].getD k 0)) := by
  intro k hk
  match k, hk with
  | 0, _ => exact h0
  | 1, _ => exact h1
set_option maxHeartbeats 400000 in
set_option maxRecDepth 100000 in
theorem list1_raw (i m s i' m' s' : Int) (p p' : ByteArray) (w : World) :
    Calls Tryz.prog 26 #[.agg #[.int .i64 i, .string p, .int .i64 m, .int .i64 s], .agg #[.int .i64 i', .string p', .int .i64 m', .int .i64 s']] w
      fun en w' => en = .returned (.int .i64 (orInt [cmpB p.data.toList p'.data.toList, cmpInt i i'])) ∧ Gr w w' := by
  go_enter Tryz.func26, Tryz.ntmps26
  go_wp2_with fail
  go_region_held3 (fun w' => w'.cell? ⟨w.heap.size, 0, none⟩ = some (.int .i64 i) ∧ w'.cell? ⟨w.heap.size, 1, none⟩ = some (.string p) ∧ w'.cell? ⟨w.heap.size + 1, 0, none⟩ = some (.int .i64 i') ∧ w'.cell? ⟨w.heap.size + 1, 1, none⟩ = some (.string p'))
    (first | go_keep)
    (first | (go_at_call 29; refine (compare_int _ _ _).mono ?_; rintro e w' ⟨rfl, rfl⟩) | (go_at_call 28; refine (pcompare_any _ _ _).mono ?_; rintro e w' ⟨rfl, rfl⟩) | (go_at_call 27; refine (or_int _ 2 _ [cmpB p.data.toList p'.data.toList, cmpInt i i'] _ rfl (by simp) (get2 (by go_simp) (by go_simp))).mono ?_; rintro e w' ⟨rfl, rfl⟩))
  go_wp2
  go_ret
  exact ⟨rfl, by repeat (first | exact Gr.refl _ | apply Gr.drew | apply Gr.alloc)⟩
theorem cmpE_lays (blk off size : Nat) (w : World) : CmpLays Tryz.prog 26 #[] encE 4 ordE blk off size w := fun _ _ _ _ _ _ => list1_raw _ _ _ _ _ _ _ _ _
def WSrtE (sl : List Ent) : Prop := sl.Pairwise fun x y => ¬ ltE y x
theorem sortE_any {w : World} {base : Nat} {v : Value} {sl : List Ent} (h : RowE w base v sl) (hsm : sl.length ≤ 100000) :
    Calls Tryz.prog 25 #[v, .func (.func 26) #[] #[]] w fun e w' => e = .returned (.tuple #[]) ∧
      ∃ sl', sl'.Perm sl ∧ WSrtE sl' ∧ RowE w' base v sl' ∧ Mod (obl v) w w' := by
  rcases h.2 with ⟨rfl, hn⟩ | ⟨g, cap, cur, rfl, _, hg, hh1, hh2, _⟩
  · have hd : sl = [] := List.length_eq_zero_iff.1 hn
    subst hd
    have hcon := AnyF.slices_SortFunc_none Tryz.laysSortEntry none 0 (.func (.func 26) #[] #[]) w
    change Calls Tryz.prog 25 _ _ _ at hcon
    refine hcon.mono ?_
    rintro e w' ⟨rfl, rfl⟩
    exact ⟨rfl, [], .refl _, List.Pairwise.nil, h, Mod.refl _ _⟩
  · have hcon := AnyQ.slices_SortFunc Tryz.laysSortEntry 4 Tryz.isAgg29 Tryz.sizeOf29 encE encE_len encE_one ordE swoE 26 #[] g 0 cap sl.toArray w
      (enters_of Tryz.func26 (by kernel_rfl) rfl) (cmpE_lays _ _ _ _) (holdsK_of_row encE 4 encE_len (by omega) h rfl) (lt_of_block hg) (by simp; omega)
    change Calls Tryz.prog 25 _ _ _ at hcon
    refine hcon.mono ?_
    rintro e w' ⟨rfl, d', n, os, hP, hS, rfl⟩
    obtain ⟨hsz, _, hperm⟩ := hP
    have hl : d'.toList.length = sl.length := by simpa using hsz
    have e1 : d'.extract 0 sl.toArray.size = d' := by rw [← hsz]; exact Array.extract_size
    rw [e1, Array.extract_size] at hperm
    have e2 : d'.toList.toArray = d' := by simp
    obtain ⟨q1, q2⟩ := sorted_row encE 4 encE_len (by omega) (m := n) os h rfl (dk := d'.toList) hl
    rw [e2] at q1 q2
    refine ⟨rfl, d'.toList, hperm, ?_, by unfold RowE; rw [hl]; exact q1, q2⟩
    refine List.pairwise_iff_getElem.2 fun i j hi hj hij => ?_
    have hi' : i < d'.size := by simpa using hi
    have hj' : j < d'.size := by simpa using hj
    have := hS i j (Nat.zero_le _) hij (by rw [← hsz]; exact hj')
    rw [getElem!_pos d' i hi', getElem!_pos d' j hj'] at this
    simpa using (ltOE_false _ _).1 this
/-! ### List -/
/-- what List answers -/
def NewE (w : World) (l : List Ent) (e : Ending) (w' : World) : Prop := ∃ v, e = .returned v ∧ RowE w' w.heap.size v l ∧ Mod [] w w'
theorem wsrt_srt {l m : List Ent} (hw : WSrtE m) (hi : l.Pairwise fun a b => a.id ≠ b.id) (p : m.Perm l) : SrtE m := by
  have h2 : m.Pairwise fun a b => a.id ≠ b.id := (p.pairwise_iff (fun {_ _} q => Ne.symm q)).2 hi
  exact (List.Pairwise.and hw h2).imp fun {a b} q => Classical.byContradiction fun x => q.1 (ltE_tot x q.2)
set_option maxRecDepth 100000 in
theorem slist_nil (w : World) : Calls Tryz.prog 9 #[.pointer none] w fun e w' => e = .returned (.slice none 0 0) ∧ w' = w := by
  go_enter Tryz.func9, Tryz.ntmps9
  go_wp2_with fail
  go_ret
  exact ⟨rfl, rfl⟩
set_option maxHeartbeats 1000000 in
set_option maxRecDepth 100000 in
theorem slist_any {w : World} {sb wb : Nat} {N : List Nd} {l : List Ent} (h : SetM w sb wb N l) (hs : SrtE l) : Calls Tryz.prog 9 #[.pointer (some ⟨sb, 0, none⟩)] w fun e w' => NewE w l e w' := by
  obtain ⟨r, hr, hr0, hb⟩ := h.blk
  have C := blk_cell hb
  have hbel := h.below hr
  rw [hr0] at hbel
  unfold BelTo at hbel
  rw [belowL_nil] at hbel
  have HX := hide (And.intro h hs)
  clear h hs hb hr hr0
  go_enter Tryz.func9, Tryz.ntmps9
  go_wp2_with (first
    | (go_at_call 24
       refine hbel.mono ?_
       rintro e w1 ⟨v, xs, rfl, hp, hrow, hm⟩
       have hsm : xs.length ≤ 100000 := (by have h1 := HX.out.1.small; have h2 := hp.length_eq; omega)
       have HP := hide (And.intro hp hm)
       clear hp hm hbel C)
    | (go_at_call 25
       refine (sortE_any hrow hsm).mono ?_
       rintro e w2 ⟨rfl, ys, hp2, hs2, hrow2, hm2⟩
       have HQ := hide (And.intro hp2 (And.intro hs2 (And.intro hrow2 (And.intro hm2 hrow))))
       clear hp2 hs2 hrow2 hm2 hrow hsm)
    | fail)
  go_ret
  obtain ⟨h, hs⟩ := HX.out
  obtain ⟨hp, hm⟩ := HP.out
  obtain ⟨hp2, hs2, hrow2, hm2, hrow⟩ := HQ.out
  have hpl := hp2.trans hp
  have e : ys = l := srtE_unique (wsrt_srt hs2 h.ids hpl) hs hpl
  rw [e] at hrow2
  exact ⟨_, rfl, hrow2, hm.trans hm2 (by simp) (fun k hk hlt => by have := hrow.own (mem_obl.1 hk); omega)⟩
theorem list_q {w : World} {o : Option Addr} {N : List Nd} {l : List Ent} (h : SetQ w o N l) (hs : SrtE l) : Calls Tryz.prog 9 #[.pointer o] w fun e w' => NewE w l e w' := by
  rcases h with ⟨sb, wb, rfl, h⟩ | ⟨rfl, rfl, rfl⟩
  · exact slist_any h hs
  · refine (slist_nil w).mono ?_
    rintro e w' ⟨rfl, rfl⟩
    exact ⟨_, rfl, RowE.nil _ _, Mod.refl _ _⟩
end Go.Proofs.YthkcbennfochmaaGreatDoor
