/-
  WALKS: the agenda's New, Len, place, Get, First.
-/
import Derived.Test.YtbaphdaipacihaaHeapTop
import Derived.Test.YtbaphdaipacihaaShelf
import Derived.BigQuiet
import Derived.Laws.ResultCell
namespace Go.Proofs.Ytbaphdaipacihaa
open Go.RowKit Go.Sort Go.Shelf

theorem mod_below {S : List Nat} {w w' : World} (h : Below w.heap.size w w') : Mod S w w' := ⟨h.os, h.tape, h.output, h.size, fun k hk _ => h.block k hk⟩

theorem new_any (w : World) : Calls Try.prog 8 #[] w fun e w' => e = .returned (.pointer (some ⟨w.heap.size, 0, none⟩)) ∧ AgR w' w.heap.size (.slice none 0 0) [] ∧ Gr w w' ∧ w.heap.size < w'.heap.size := by
  go_enter Try.func8, Try.ntmps8
  go_wp2
  go_ret
  refine ⟨rfl, ⟨⟨⟨_, heap_alloc_new w _⟩, World.ownsRow_nil _ _ _ _, by simp [Value.ownBlock]⟩, fun k _ h => by simp at h⟩, (Gr.refl w).alloc _, by simp⟩

theorem alen_nil (w : World) : Calls Try.prog 11 #[.pointer none] w fun e w' => e = .returned (.int .i64 0) ∧ w = w' := by
  go_enter Try.func11, Try.ntmps11
  go_wp2
  go_ret
  exact ⟨rfl, rfl⟩
theorem alen_any {w : World} {pa : Nat} {v : Value} {d : List Item} (h : AgH w pa v d) :
    Calls Try.prog 11 #[.pointer (some ⟨pa, 0, none⟩)] w fun e w' => e = .returned (.int .i64 d.length) ∧ w = w' := by
  have hc := h.c0
  obtain ⟨p, cap, rfl, _⟩ := h.slice
  clear h
  go_enter Try.func11, Try.ntmps11
  go_wp2
  go_ret
  exact ⟨rfl, rfl⟩

def isB (kd key : Int) (y : Item) : Bool := decide (y.2.1 = kd) && decide (y.2.2 = key)
set_option maxHeartbeats 400000 in
theorem is_raw (x1 x2 x3 kd key : Int) (b1 b2 : Nat) (w : World) (h1 : w.cell? ⟨b1, 0, none⟩ = some (.int .i64 kd)) (h2 : w.cell? ⟨b2, 0, none⟩ = some (.int .i64 key)) :
    Calls Try.prog 32 #[.agg #[.int .i64 x1, .int .i64 x2, .int .i64 x3], .pointer (some ⟨b1, 0, none⟩), .pointer (some ⟨b2, 0, none⟩)] w
      fun e w' => e = .returned (.bool (isB kd key (x1, x2, x3))) ∧ Gr w w' := by
  have l1 := World.block_lt_of_cell? w _ h1
  have l2 := World.block_lt_of_cell? w _ h2
  by_cases e1 : x2 = kd
  · by_cases e2 : x3 = key
    · subst e1 e2
      go_enter Try.func32, Try.ntmps32
      go_wp2
      go_ret
      exact ⟨by simp [isB], by repeat (first | exact Gr.refl _ | apply Gr.drew | apply Gr.alloc)⟩
    · have hb : (x3 == key) = false := by simpa using e2
      subst e1
      have E := hide e2
      clear e2
      go_enter Try.func32, Try.ntmps32
      go_wp2
      go_ret
      exact ⟨by simp [isB, E.out], by repeat (first | exact Gr.refl _ | apply Gr.drew | apply Gr.alloc)⟩
  · have hb : (x2 == kd) = false := by simpa using e1
    have E := hide e1
    clear e1
    go_enter Try.func32, Try.ntmps32
    go_wp2
    go_ret
    exact ⟨by simp [isB, E.out], by repeat (first | exact Gr.refl _ | apply Gr.drew | apply Gr.alloc)⟩

/-- the place of the first item of that kind and key, or -1 -/
def idxD (d : List Item) (kd key : Int) : Int := Lib.idxBy (fun _ y => isB kd key y) d default
theorem idx_from (p : Item → Bool) : ∀ (d : List Item) (i : Nat), (Lib.idxByFrom (fun _ y => p y) default d i = -1 ∧ ∀ x, x ∈ d → p x = false) ∨ (∃ k, k < d.length ∧ Lib.idxByFrom (fun _ y => p y) default d i = ((i + k : Nat) : Int) ∧ p (get d k) = true)
  | [], _ => .inl ⟨rfl, by simp⟩
  | y :: r, i => by
    by_cases h : p y = true
    · exact .inr ⟨0, by simp, by simp [Lib.idxByFrom, h], by simp [get, h]⟩
    · have h' : p y = false := by simpa using h
      rcases idx_from p r (i + 1) with ⟨a, b⟩ | ⟨k, a, b, c⟩
      · exact .inl ⟨by simp [Lib.idxByFrom, h', a], fun x hx => by
          rcases List.mem_cons.1 hx with rfl | hx
          · exact h'
          · exact b x hx⟩
      · exact .inr ⟨k + 1, by simpa using a, by simp [Lib.idxByFrom, h', b]; omega, by simpa [get] using c⟩
theorem idxD_cases (d : List Item) (kd key : Int) : (idxD d kd key = -1 ∧ ∀ x, x ∈ d → isB kd key x = false) ∨ (∃ k : Nat, k < d.length ∧ idxD d kd key = (k : Int) ∧ isB kd key (get d k) = true) := by
  rcases idx_from (isB kd key) d 0 with h | ⟨k, a, b, c⟩
  · exact .inl h
  · exact .inr ⟨k, a, by rw [idxD, Lib.idxBy, b, Nat.zero_add], c⟩

theorem index_nil (w : World) (fv : Value) : Calls Try.prog 31 #[.slice none 0 0, fv] w fun e w' => e = .returned (.int .i64 (-1)) ∧ w = w' := by
  go_enter Try.func31, Try.ntmps31
  go_wp2
  refine wp_loop_rounds 1 ?_
  rw [rounds_succ]
  go_wp2
  go_ret
  exact ⟨rfl, rfl⟩

theorem index_any {w : World} {pa : Nat} {v : Value} {d : List Item} (h : AgH w pa v d) (kd key : Int) (b1 b2 : Nat) (h1 : w.cell? ⟨b1, 0, none⟩ = some (.int .i64 kd)) (h2 : w.cell? ⟨b2, 0, none⟩ = some (.int .i64 key)) :
    Calls Try.prog 31 #[v, .func (.func 32) #[] #[.pointer (some ⟨b1, 0, none⟩), .pointer (some ⟨b2, 0, none⟩)]] w
      fun e w' => e = .returned (.int .i64 (idxD d kd key)) ∧ Below w.heap.size w w' := by
  have l1 := World.block_lt_of_cell? w _ h1
  have l2 := World.block_lt_of_cell? w _ h2
  rcases h.row.2 with ⟨rfl, hn⟩ | ⟨g, cap, cur, rfl, _, hg, hh1, hh2, _⟩
  · have : d = [] := List.length_eq_zero_iff.1 hn
    subst this
    refine (index_nil w _).mono ?_
    rintro e w' ⟨rfl, rfl⟩
    exact ⟨rfl, Below.refl _ _⟩
  · have hcon := AnyQ.slices_IndexFunc Try.laysIndexItem 3 Try.isAgg29 Try.sizeOf29 encI encI_len (isB kd key) 32 #[.pointer (some ⟨b1, 0, none⟩), .pointer (some ⟨b2, 0, none⟩)]
      (enters_of Try.func32 (by kernel_rfl) rfl) g 0 d.length cap d w
      (fun W x hb => (is_raw x.1 x.2.1 x.2.2 kd key b1 b2 W ((hb.cell (p := ⟨b1, 0, none⟩) l1).trans h1) ((hb.cell (p := ⟨b2, 0, none⟩) l2).trans h2)).mono (by
        rintro e w' ⟨rfl, hgr⟩
        exact ⟨rfl, hb.trans ((hgr.mod []).below hb.size (by simp))⟩))
      (Nat.le_refl _) (by unfold maxLen at hh2; omega) (lt_of_block hg)
      (fun j hj i u hu => by
        have hi : i < 3 := by
          have := (List.getElem?_eq_some_iff.1 hu).1
          simpa [encI] using this
        have hc := h.row.cellAt (j * 3 + i) (by omega)
        rw [flat_get encI 3 encI_len d j i hj hi] at hc
        have e : d[j]! = d.getD j default := by simp [hj]
        rw [Nat.zero_add, hc, ← e, hu])
    change Calls Try.prog 31 _ _ _ at hcon
    refine hcon.mono ?_
    rintro e w' ⟨rfl, hb⟩
    exact ⟨by rw [List.take_of_length_le (Nat.le_refl _)]; rfl, hb⟩

theorem place_nil (kd key : Int) (w : World) : Calls Try.prog 23 #[.pointer none, .int .i64 kd, .int .i64 key] w fun e w' => e = .returned (.int .i64 (-1)) ∧ Gr w w' := by
  go_enter Try.func23, Try.ntmps23
  go_wp2
  go_ret
  exact ⟨rfl, by repeat (first | exact Gr.refl _ | apply Gr.drew | apply Gr.alloc)⟩

set_option maxHeartbeats 400000 in
theorem place_any {w : World} {pa : Nat} {v : Value} {d : List Item} (h : AgH w pa v d) (kd key : Int) :
    Calls Try.prog 23 #[.pointer (some ⟨pa, 0, none⟩), .int .i64 kd, .int .i64 key] w fun e w' => e = .returned (.int .i64 (idxD d kd key)) ∧ Mod [] w w' := by
  have hc := h.c0
  have lp := h.lt
  have hA2 : AgH ((w.alloc (.cells #[.int .i64 kd] 27)).alloc (.cells #[.int .i64 key] 3)) pa v d := h.gr (((Gr.refl w).alloc _).alloc _)
  go_enter Try.func23, Try.ntmps23
  go_wp2_with fail
  refine (index_any hA2 kd key w.heap.size (w.heap.size + 1) (by go_simp) (by go_simp)).mono ?_
  rintro e w' ⟨rfl, hb⟩
  go_wp2
  go_ret
  refine ⟨rfl, Mod.trans (S := []) (T := []) (((Gr.refl w).alloc _).alloc _ |>.mod _) (mod_below hb) (by simp) (by simp)⟩
end Go.Proofs.Ytbaphdaipacihaa
