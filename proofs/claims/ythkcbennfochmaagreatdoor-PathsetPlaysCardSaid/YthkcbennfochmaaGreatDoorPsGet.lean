/-
  WALK: layer 5: Get.
-/
import Derived.Test.YthkcbennfochmaaGreatDoorPsSame
import Derived.Test.YthkcbennfochmaaGreatDoorPsList
namespace Go.Proofs.YthkcbennfochmaaGreatDoor
open Go.RowKit Go.Maps

/-! ### Get -/
def zeroE : Ent := ⟨0, ByteArray.empty, 0, 0⟩
def GetTo (w : World) (l : List Ent) (id : Int) (e : Ending) (w' : World) : Prop := e = .returned (.tuple #[aggE ((getS5 l id).getD zeroE), .bool (hasId l id)]) ∧ Mod [] w w'
def GetRel (w1 : World) (l : List Ent) (id : Int) (i : Value) (wr : World) : Prop := ∃ k : Nat, k ≤ l.length ∧ i = .int .i64 k ∧ (∀ j, j < k → (l.getD j default).id ≠ id) ∧ Gr w1 wr
theorem get_none_of {l : List Ent} {id : Int} (h : ∀ j, j < l.length → (l.getD j default).id ≠ id) : getS5 l id = none := by
  unfold getS5
  rw [List.find?_eq_none]
  intro x hx hd
  obtain ⟨j, hj, rfl⟩ := List.mem_iff_getElem.1 hx
  have := h j hj
  rw [List.getD_eq_getElem?_getD, List.getElem?_eq_getElem hj] at this
  exact this (of_decide_eq_true hd)
theorem get_some_of {l : List Ent} {id : Int} {k : Nat} (hk : k < l.length) (h : ∀ j, j < k → (l.getD j default).id ≠ id) (he : (l.getD k default).id = id) : getS5 l id = some (l.getD k default) := by
  unfold getS5
  induction l generalizing k with
  | nil => simp at hk
  | cons x r ih =>
    rw [List.find?_cons]
    cases k with
    | zero =>
      have e : x.id = id := he
      simp [e]
    | succ k =>
      have e : x.id ≠ id := h 0 (by omega)
      rw [decide_eq_false e]
      exact ih (k := k) (by simpa using hk) (fun j hj => h (j + 1) (by omega)) he
theorem hasId_of_get {l : List Ent} {id : Int} : hasId l id = (getS5 l id).isSome := (hasId_get l id).symm
set_option maxHeartbeats 1000000 in
set_option maxRecDepth 100000 in
theorem sget_any {w : World} {o : Option Addr} {N : List Nd} {l : List Ent} (h : SetQ w o N l) (hs : SrtE l) (id : Int) :
    Calls Tryz.prog 11 #[.pointer o, .int .i64 id] w fun en w' => GetTo w l id en w' := by
  have HX := hide (And.intro h hs)
  have hl64 := h.small
  clear h hs
  go_enter Tryz.func11, Tryz.ntmps11
  go_wp2_with fail
  have b1 := heap_alloc_new w (objE 0 ByteArray.empty 0 0)
  have gB := (Gr.refl w).alloc (objE 0 ByteArray.empty 0 0)
  refine (list_q (HX.out.1.same (gB.mod [])) HX.out.2).mono ?_
  rintro en w1 ⟨v, rfl, hrow, hm1⟩
  obtain ⟨q, c, rfl⟩ := hrow.form
  have B1 := hide (hm1.at_ b1 (by simp))
  have HM := hide ((gB.mod []).then hm1)
  have HR := hide hrow
  have hBsz : w.heap.size < w1.heap.size := lt_of_block B1.out
  clear b1 gB hm1 hrow HX
  go_wp2_with fail
  go_loopw [11] (fun i wr => GetRel w1 l id i wr) (fun i _ => l.length - (intOf i).toNat)
  case atStart => exact ⟨0, Nat.zero_le _, rfl, fun j hj => absurd hj (Nat.not_lt_zero _), Gr.refl _⟩
  case round =>
    obtain ⟨k, hk, rfl, hno, hg⟩ := hrel
    have HN := hide hno
    clear hno
    by_cases hlt : k < l.length
    · obtain ⟨g, rfl, -, hgl, c0, c1, c2, c3⟩ := HR.out.at_ hlt
      have B2 := (hg.mod []).at_ B1.out (by simp)
      replace c0 := hg.kept c0
      replace c1 := hg.kept c1
      replace c2 := hg.kept c2
      replace c3 := hg.kept c3
      have i1 : (0 : Int) ≤ (k : Int) := by omega
      have i2 : (k : Int) < (l.length : Int) := by omega
      obtain ⟨⟨xi, xp, xm, xw⟩, he⟩ : ∃ e, l.getD k default = e := ⟨_, rfl⟩
      rw [he] at c0 c1 c2 c3
      dsimp only at c0 c1 c2 c3
      have HE := hide he
      have hszr := (hg.mod []).size
      clear he
      by_cases hid : xi = id
      · subst hid
        have HG := hide hg
        have q := blk_alloc B2 (objE xi xp xm xw)
        clear hg
        have CR := blk_cell q
        have FR := blk_free q
        go_wp2_with fail
        have hm := (HM.out.gr HG.out).alloc (objE xi xp xm xw)
        have q3 := blk_set (blk_set (blk_set (blk_set q 0 (.int .i64 xi)) 1 (.string xp)) 2 (.int .i64 xm)) 3 (.int .i64 xw)
        have q4 := (((hm.setCell (p := ⟨w.heap.size, 0, none⟩) (by simp) (.int .i64 xi)).setCell (p := ⟨w.heap.size, 1, none⟩) (by simp) (.string xp)).setCell (p := ⟨w.heap.size, 2, none⟩) (by simp) (.int .i64 xm)).setCell (p := ⟨w.heap.size, 3, none⟩) (by simp) (.int .i64 xw)
        have hget := get_some_of hlt HN.out (by rw [HE.out])
        rw [HE.out] at hget
        unfold GetTo
        rw [hasId_of_get, hget]
        exact bodyPost_ret (v := .tuple #[.agg #[.int .i64 xi, .string xp, .int .i64 xm, .int .i64 xw], .bool true]) (res_cell2 Tryz.results11 _ _ rfl q3 Tryz.isAgg29 Tryz.sizeOf29 rfl) rfl ⟨rfl, q4⟩
      · have hne : (xi == id) = false := by simpa using hid
        have HID := hide hid
        clear hid
        go_wp2_with fail
        go_roundw
        case rel => exact ⟨k + 1, by omega, by go_num, fun j hj => by
          by_cases e : j = k
          · subst e; rw [HE.out]; exact HID.out
          · exact HN.out j (by omega), hg.alloc _⟩
        case measure => simp [intOf]; omega
    · clear HR
      have q := (hg.mod []).at_ B1.out (by simp)
      have hm := HM.out.gr hg
      have HM2 := hide hm
      have hget : getS5 l id = none := get_none_of fun j hj => HN.out j (by omega)
      have HGT := hide hget
      clear hg hm hget
      have CR := blk_cell q
      have FR := blk_free q
      go_wp2_with fail
      have q3 := blk_set (blk_set (blk_set (blk_set q 0 (.int .i64 0)) 1 (.string ByteArray.empty)) 2 (.int .i64 0)) 3 (.int .i64 0)
      have q4 := (((HM2.out.setCell (p := ⟨w.heap.size, 0, none⟩) (by simp) (.int .i64 0)).setCell (p := ⟨w.heap.size, 1, none⟩) (by simp) (.string ByteArray.empty)).setCell (p := ⟨w.heap.size, 2, none⟩) (by simp) (.int .i64 0)).setCell (p := ⟨w.heap.size, 3, none⟩) (by simp) (.int .i64 0)
      unfold GetTo
      rw [hasId_of_get, HGT.out]
      exact bodyPost_ret (v := .tuple #[.agg #[.int .i64 0, .string ByteArray.empty, .int .i64 0, .int .i64 0], .bool false]) (res_cell2 Tryz.results11 _ _ rfl q3 Tryz.isAgg29 Tryz.sizeOf29 rfl) rfl ⟨rfl, q4⟩
end Go.Proofs.YthkcbennfochmaaGreatDoor
