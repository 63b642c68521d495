/-
  WALKS: the agenda's List: a new slice of all items in order.
-/
import Derived.Test.YtbaphdaipacihaaAgWalk2
import Derived.Test.YtbaphdaipacihaaSortRow
namespace Go.Proofs.Ytbaphdaipacihaa
open Go.RowKit Go.Sort Go.Shelf

theorem ltOf_ordI : ltOf ordI = ltI := rfl
theorem swo : SWO (ltOf ordI) := by
  rw [ltOf_ordI]
  exact ⟨lo.irr, lo.tr, fun x y z a b => lo.le_tr b a⟩
theorem cmp_lays (blk off size : Nat) (w : World) : CmpLays Try.prog 30 #[] encI 3 ordI blk off size w := fun _ _ _ _ x y => inOrder_any x y _

/-- a list in order is what sorting makes of its items -/
theorem sort_eq {d l : List Item} (p : d.Perm l) (hs : Srt l) : d.mergeSort (fun x y => !(ltOf ordI) y x) = l := by
  rw [ltOf_ordI]
  have hp := (List.mergeSort_perm d (fun x y => !ltI y x)).trans p
  have hord : (d.mergeSort (fun x y => !ltI y x)).Pairwise (fun a b => (!ltI b a) = true) := List.pairwise_mergeSort
    (fun a b c h1 h2 => by simp at *; exact lo.le_tr h1 h2)
    (fun a b => by
      cases e : ltI b a
      · simp
      · simp [lo.asym e]) d
  have hnd : l.Nodup := hs.imp (fun {a b} h e => by subst e; rw [lo.irr] at h; cases h)
  have hnd' : (d.mergeSort (fun x y => !ltI y x)).Nodup := hp.nodup_iff.2 hnd
  refine srt_unique ?_ hs hp
  exact (List.Pairwise.and hord hnd').imp (fun {a b} h => by
    cases e : ltI a b
    · exact absurd (lo.tot a b e (by simpa using h.1)) h.2
    · rfl)

theorem clone_any {w : World} {pa : Nat} {v : Value} {d : List Item} (h : AgH w pa v d) (hsm : d.length ≤ 100000) :
    Calls Try.prog 28 #[v] w fun e w' => ∃ v', e = .returned v' ∧ w'.ownsRow w.heap.size 29 3 v' d.length (d.flatMap encI) ∧ Mod [] w w' := by
  rcases h.row.2 with ⟨rfl, hn⟩ | ⟨g, cap, cur, rfl, _, hg, hh1, hh2, _⟩
  · have : d = [] := List.length_eq_zero_iff.1 hn
    subst this
    have hcon := AnyE.slices_Clone_nil Try.laysCloneItem 0 0 w
    change Calls Try.prog 28 _ _ _ at hcon
    refine hcon.mono ?_
    rintro e w' ⟨rfl, rfl⟩
    exact ⟨_, rfl, World.ownsRow_nil _ _ _ _, Mod.refl _ _⟩
  · obtain ⟨i0, hi0, hz0, hz1, hz2⟩ := info_parts info_item
    have hcon := AnyE.slices_Clone Try.laysCloneItem i0 _ 3 24 hi0 hz0 hz1 hz2 rfl (by omega) Try.sizeOf29 g 0 d.length cap (d.flatMap encI) w (flat_length encI 3 encI_len d) (by unfold maxLen; omega) (by omega)
      (fun j u hu => by
        have hj : j < d.length * 3 := by
          have := (List.getElem?_eq_some_iff.1 hu).1
          rwa [flat_length encI 3 encI_len] at this
        rw [Nat.zero_add, h.row.cellAt j hj, hu])
      (fun u hu => by
        obtain ⟨x, _, hx⟩ := List.mem_flatMap.1 hu
        simp [encI] at hx
        rcases hx with rfl | rfl | rfl <;> rfl)
    change Calls Try.prog 28 _ _ _ at hcon
    refine hcon.mono ?_
    rintro e w' ⟨v', rfl, hr, _, hb⟩
    exact ⟨v', rfl, hr, mod_below hb⟩

theorem sort_any {w : World} {base : Nat} {v : Value} {d l : List Item} (h : w.ownsRow base 29 3 v d.length (d.flatMap encI)) (hsm : d.length ≤ 100000) (p : d.Perm l) (hs : Srt l) :
    Calls Try.prog 29 #[v, .func (.func 30) #[] #[]] w fun e w' => e = .returned (.tuple #[]) ∧ w'.ownsRow base 29 3 v l.length (l.flatMap encI) ∧ Mod (ob v) w w' := by
  rcases h.2 with ⟨rfl, hn⟩ | ⟨g, cap, cur, rfl, _, hg, hh1, hh2, _⟩
  · have hd : d = [] := List.length_eq_zero_iff.1 hn
    subst hd
    have hl : l = [] := p.symm.eq_nil
    subst hl
    have hcon := AnyF.slices_SortFunc_none Try.laysSortItem none 0 (.func (.func 30) #[] #[]) w
    change Calls Try.prog 29 _ _ _ at hcon
    refine hcon.mono ?_
    rintro e w' ⟨rfl, rfl⟩
    exact ⟨rfl, h, Mod.refl _ _⟩
  · have hcon := AnyQ.slices_SortFunc_total Try.laysSortItem 3 Try.isAgg29 Try.sizeOf29 encI encI_len (fun x u hu => by simp [encI] at hu; rcases hu with rfl | rfl | rfl <;> rfl) ordI swo 30 #[] g 0 cap d.toArray w
      (enters_of Try.func30 (by kernel_rfl) rfl) (cmp_lays _ _ _ _) (holdsK_of_row encI 3 encI_len (by omega) h rfl) (lt_of_block hg) (by simp; omega) (fun x y a b => lo.tot x y a b)
    change Calls Try.prog 29 _ _ _ at hcon
    refine hcon.mono ?_
    rintro e w' ⟨rfl, n, os, rfl⟩
    have e1 : d.toArray.toList.mergeSort (fun x y => !(ltOf ordI) y x) = l := sort_eq p hs
    rw [e1]
    obtain ⟨q1, q2⟩ := sorted_row encI 3 encI_len (by omega) (m := n) os h rfl (dk := l) p.length_eq.symm
    rw [p.length_eq] at q1 ⊢
    exact ⟨rfl, q1, q2⟩

theorem list_nil (w : World) : Calls Try.prog 20 #[.pointer none] w fun e w' => e = .returned (.slice none 0 0) ∧ w = w' := by
  go_enter Try.func20, Try.ntmps20
  go_wp2
  go_ret
  exact ⟨rfl, rfl⟩

/-- what is answered: a new row that holds l -/
def NewRow (w : World) (l : List Item) (e : Ending) (w' : World) : Prop := ∃ v, e = .returned v ∧ w'.ownsRow w.heap.size 29 3 v l.length (l.flatMap encI) ∧ Mod [] w w'
theorem list_any {w : World} {pa : Nat} {own : List Nat} {l : List Item} (h : Ag w pa own l) :
    Calls Try.prog 20 #[.pointer (some ⟨pa, 0, none⟩)] w fun e w' => NewRow w l e w' := by
  obtain ⟨v, d, hr, hp, rfl⟩ := h.rep
  have hc := hr.ag.c0
  have hsm : d.length ≤ 100000 := by have := h.small; have := hp.length_eq; omega
  go_enter Try.func20, Try.ntmps20
  go_wp2_with fail
  refine (clone_any hr.ag hsm).mono ?_
  rintro e w1 ⟨v', rfl, hr1, hm1⟩
  clear hc
  go_wp2_with fail
  refine (sort_any hr1 hsm hp h.srt).mono ?_
  rintro e w2 ⟨rfl, hr2, hm2⟩
  go_wp2_with fail
  go_ret
  refine ⟨v', rfl, hr2, hm1.trans hm2 (by simp) (fun k hk hlt => ?_)⟩
  have := (hr1.lt k (by simpa [ob] using hk)).1
  omega
end Go.Proofs.Ytbaphdaipacihaa
