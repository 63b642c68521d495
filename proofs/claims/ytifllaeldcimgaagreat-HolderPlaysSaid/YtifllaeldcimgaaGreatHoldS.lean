/-
  WALKS: layer 17: slices.SortFunc at leases, by (From, Id).
-/
import Derived.Test.YtifllaeldcimgaaGreatHoldW4
import Derived.Test.YtifllaeldcimgaaGreatSortRow
import Derived.Test.YtifllaeldcimgaaGreatShelfHold
import Derived.Deep.RegionHeld3
namespace Go.Proofs.YtifllaeldcimgaaGreat
open Go.RowKit Go.Sort Go.Shelf

/-- a lease, and where its stamp's slice lies -/
abbrev SL := Lease × Option Addr × Nat
def pr (s : SL) : Lease × Value := (s.1, .slice s.2.1 s.1.stamp.length s.2.2)
def encS (s : SL) : List Value := encL (pr s)
theorem encS_len (s : SL) : (encS s).length = 9 := rfl
theorem encS_one (s : SL) : ∀ v ∈ encS s, v.oneCell' = true := by
  intro v hv
  simp [encS, encL, cellsL, pr] at hv
  rcases hv with rfl | rfl | rfl | rfl | rfl | rfl | rfl | rfl | rfl <;> rfl
theorem flat_pr (sl : List SL) : (sl.map pr).flatMap encL = sl.flatMap encS := by rw [List.flatMap_map]; rfl
theorem sl_of {w : World} {f : List Nat} (lv : List (Lease × Value)) (h : ∀ p, p ∈ lv → LsV w f p) : ∃ sl : List SL, lv = sl.map pr := by
  induction lv with
  | nil => exact ⟨[], rfl⟩
  | cons p r ih =>
    obtain ⟨sl, e⟩ := ih (fun q hq => h q (List.mem_cons_of_mem _ hq))
    obtain ⟨q, c, hv⟩ := (h p List.mem_cons_self).rd.len
    refine ⟨(p.1, q, c) :: sl, ?_⟩
    rw [List.map_cons, ← e]
    congr 1
    exact Prod.ext rfl hv
instance : Inhabited SL := ⟨(Lease.zero, none, 0)⟩
def ordS (x y : SL) : Int := orInt [cmpInt x.1.frm y.1.frm, cmpInt x.1.id y.1.id]
theorem ltS_iff (x y : SL) : ltOf ordS x y = true ↔ ltK (keyL x.1) (keyL y.1) := by
  show decide (ordS x y < 0) = true ↔ _
  rw [decide_eq_true_eq]
  unfold ordS ltK keyL
  rcases cmpInt_cases x.1.frm y.1.frm with ⟨h1, e1⟩ | ⟨h1, e1⟩ | ⟨h1, e1⟩ <;> rcases cmpInt_cases x.1.id y.1.id with ⟨h2, e2⟩ | ⟨h2, e2⟩ | ⟨h2, e2⟩ <;> simp [orInt, e1, e2] <;> omega
theorem ltS_false (x y : SL) : ltOf ordS x y = false ↔ ¬ ltK (keyL x.1) (keyL y.1) := by
  rw [← ltS_iff]; cases ltOf ordS x y <;> simp
theorem swoS : SWO (ltOf ordS) where
  irrefl x := by rw [ltS_false]; exact ltK_irr _
  trans x y z h1 h2 := by rw [ltS_iff] at *; exact ltK_tr h1 h2
  ntrans x y z h1 h2 := by rw [ltS_false] at *; unfold ltK at *; omega
theorem get2 {w : World} {b : Nat} {x y : Int} (h0 : w.cell? ⟨b, 0, none⟩ = some (.int .i64 x)) (h1 : w.cell? ⟨b, 1, none⟩ = some (.int .i64 y)) :
    ∀ k, k < [x, y].length → w.cell? ⟨b, k, none⟩ = some (.int .i64 ([x, y].getD k 0)) := by
  intro k hk
  match k, hk with
  | 0, _ => exact h0
  | 1, _ => exact h1
set_option maxHeartbeats 400000 in
set_option maxRecDepth 100000 in
theorem list1_raw (f i m t s e f' i' m' t' s' e' : Int) (p p' : ByteArray) (v v' : Value) (r r' : Bool) (w : World) :
    Calls Tryz.prog 60 #[.agg #[.int .i64 f, .int .i64 i, .string p, .int .i64 m, v, .int .i64 t, .int .i64 s, .int .i64 e, .bool r], .agg #[.int .i64 f', .int .i64 i', .string p', .int .i64 m', v', .int .i64 t', .int .i64 s', .int .i64 e', .bool r']] w
      fun en w' => en = .returned (.int .i64 (orInt [cmpInt f f', cmpInt i i'])) ∧ Gr w w' := by
  go_enter Tryz.func60, Tryz.ntmps60
  go_wp2_with fail
  go_region_held3 (fun w' => w'.cell? ⟨w.heap.size, 0, none⟩ = some (.int .i64 f) ∧ w'.cell? ⟨w.heap.size, 1, none⟩ = some (.int .i64 i) ∧ w'.cell? ⟨w.heap.size + 1, 0, none⟩ = some (.int .i64 f') ∧ w'.cell? ⟨w.heap.size + 1, 1, none⟩ = some (.int .i64 i'))
    (first | go_keep)
    (first | (go_at_call 46; refine (compare_int _ _ _).mono ?_; rintro e w' ⟨rfl, rfl⟩) | (go_at_call 45; refine (or_int _ 2 _ [cmpInt f f', cmpInt i i'] _ rfl (by simp) (get2 (by go_simp) (by go_simp))).mono ?_; rintro e w' ⟨rfl, rfl⟩))
  go_wp2
  go_ret
  exact ⟨rfl, by repeat (first | exact Gr.refl _ | apply Gr.drew | apply Gr.alloc)⟩
theorem cmpS_lays (blk off size : Nat) (w : World) : CmpLays Tryz.prog 60 #[] encS 9 ordS blk off size w := fun _ _ _ _ _ _ => list1_raw _ _ _ _ _ _ _ _ _ _ _ _ _ _ _ _ _ _ _
def WSrt (sl : List SL) : Prop := sl.Pairwise fun x y => ¬ ltK (keyL y.1) (keyL x.1)
theorem sortS_any {w : World} {base : Nat} {v : Value} {sl : List SL} (h : w.ownsRow base 36 9 v sl.length (sl.flatMap encS)) (hsm : sl.length ≤ 100000) :
    Calls Tryz.prog 59 #[v, .func (.func 60) #[] #[]] w fun e w' => e = .returned (.tuple #[]) ∧
      ∃ sl', sl'.Perm sl ∧ WSrt sl' ∧ w'.ownsRow base 36 9 v sl'.length (sl'.flatMap encS) ∧ Mod (ob v) w w' := by
  rcases h.2 with ⟨rfl, hn⟩ | ⟨g, cap, cur, rfl, _, hg, hh1, hh2, _⟩
  · have hd : sl = [] := List.length_eq_zero_iff.1 hn
    subst hd
    have hcon := AnyF.slices_SortFunc_none Tryz.laysSortLease none 0 (.func (.func 60) #[] #[]) w
    change Calls Tryz.prog 59 _ _ _ at hcon
    refine hcon.mono ?_
    rintro e w' ⟨rfl, rfl⟩
    exact ⟨rfl, [], .refl _, List.Pairwise.nil, h, Mod.refl _ _⟩
  · have hcon := AnyQ.slices_SortFunc Tryz.laysSortLease 9 Tryz.isAgg36 Tryz.sizeOf36 encS encS_len encS_one ordS swoS 60 #[] g 0 cap sl.toArray w
      (enters_of Tryz.func60 (by kernel_rfl) rfl) (cmpS_lays _ _ _ _) (holdsK_of_row encS 9 encS_len (by omega) h rfl) (lt_of_block hg) (by simp; omega)
    change Calls Tryz.prog 59 _ _ _ at hcon
    refine hcon.mono ?_
    rintro e w' ⟨rfl, d', n, os, hP, hS, rfl⟩
    obtain ⟨hsz, _, hperm⟩ := hP
    have hl : d'.toList.length = sl.length := by simpa using hsz
    have e1 : d'.extract 0 sl.toArray.size = d' := by rw [← hsz]; exact Array.extract_size
    rw [e1, Array.extract_size] at hperm
    have e2 : d'.toList.toArray = d' := by simp
    obtain ⟨q1, q2⟩ := sorted_row encS 9 encS_len (by omega) (m := n) os h rfl (dk := d'.toList) hl
    rw [e2] at q1 q2
    refine ⟨rfl, d'.toList, hperm, ?_, by rw [hl]; exact q1, q2⟩
    refine List.pairwise_iff_getElem.2 fun i j hi hj hij => ?_
    have hi' : i < d'.size := by simpa using hi
    have hj' : j < d'.size := by simpa using hj
    have := hS i j (Nat.zero_le _) hij (by rw [← hsz]; exact hj')
    rw [getElem!_pos d' i hi', getElem!_pos d' j hj'] at this
    simpa using (ltS_false _ _).1 this
end Go.Proofs.YtifllaeldcimgaaGreat
