/-
  WALKS: the items' Len, Push, Pop; container/heap's Fix, Push, Remove, Pop over an agenda.
-/
import Derived.Test.YtbaphdaipacihaaHeapW
import Derived.Deep.AppendLies
import Derived.Deep.RegionLaw
namespace Go.Proofs.Ytbaphdaipacihaa
open Go.RowKit

theorem len_any {w : World} {pa : Nat} {v : Value} {d : List Item} (h : AgH w pa v d) :
    Calls Try.prog 74 #[v] w fun e w' => e = .returned (.int .i64 d.length) ∧ w = w' := by
  obtain ⟨p, cap, rfl, hm⟩ := h.slice
  clear h
  go_enter Try.func74, Try.ntmps74
  go_wp2
  go_ret
  exact ⟨rfl, rfl⟩

/-- a new slice in the agenda's cell -/
theorem AgH_stored {w1 : World} {pa : Nat} {v v' : Value} {d' : List Item} (hc : ∃ T, w1.heap[pa]? = some (.cells #[v] T (0, 0)))
    (hr : w1.ownsRow 0 29 3 v' d'.length (d'.flatMap encI)) (hv : v'.ownBlock ≠ some pa) : AgH (w1.setCell ⟨pa, 0, none⟩ v') pa v' d' :=
  ⟨let ⟨T, hc⟩ := hc; ⟨T, one_setCell hc⟩, ownsRow_setCell_other hr hv _, hv⟩

theorem info_item : (Try.prog.info? 29).map (fun i => (i.zero, i.size, i.bytes)) = some (some (.agg #[.int .i64 0, .int .i64 0, .int .i64 0]), 3, 24) := by kernel_rfl

/-- what may be written in when one more is put: the agenda's cell, its row; the new row is the old one or new -/
def Pushed (w : World) (pa : Nat) (v : Value) (d : List Item) (x : Item) (w' : World) : Prop :=
  ∃ v', AgH w' pa v' (d ++ [x]) ∧ Mod (pa :: ob v) w w' ∧ ∀ k, k ∈ ob v' → k ∈ ob v ∨ w.heap.size ≤ k

theorem pushed_of {w w1 : World} {pa : Nat} {v v' : Value} {d : List Item} {x : Item} {g cap : Nat} (h : AgH w pa v d) (hv : v' = .slice (some ⟨g, 0, none⟩) (d.length + 1) cap)
    (hr : w1.ownsRow 0 29 3 v' (d.length + 1) (d.flatMap encI ++ [.int .i64 x.1, .int .i64 x.2.1, .int .i64 x.2.2])) (m : Mod (ob v) w w1) (hg : v.ownBlock = some g ∨ w.heap.size ≤ g) :
    Pushed w pa v d x (w1.setCell ⟨pa, 0, none⟩ v') := by
  have hp : pa ∉ ob v := fun hx => h.apart (by simpa [ob] using hx)
  have hob : v'.ownBlock = some g := by rw [hv]; rfl
  have hgp : v'.ownBlock ≠ some pa := by
    rw [hob]; intro e; cases e
    rcases hg with e | e
    · exact h.apart e
    · have := h.lt; omega
  refine ⟨v', AgH_stored (let ⟨T, hc⟩ := h.cell; ⟨T, m.at_ hc hp⟩) ?_ hgp, Mod.setCell (S := pa :: ob v) (p := ⟨pa, 0, none⟩) (m.mono (fun x hx _ => List.mem_cons_of_mem _ hx)) (fun _ => List.mem_cons_self) _, fun k hk => ?_⟩
  · have e : (d ++ [x]).flatMap encI = d.flatMap encI ++ [.int .i64 x.1, .int .i64 x.2.1, .int .i64 x.2.2] := by simp [List.flatMap_append, encI]
    rw [e, List.length_append]; exact hr
  · rw [ob, hob] at hk
    have : k = g := by simpa using hk
    subst this
    rcases hg with e | e
    · exact .inl (by rw [ob, e]; simp)
    · exact .inr e

set_option maxRecDepth 100000 in
set_option maxHeartbeats 1000000 in
theorem push_item {w : World} {pa : Nat} {v : Value} {d : List Item} (h : AgH w pa v d) (hsm : d.length ≤ 1000000) (x1 x2 x3 : Int) :
    Calls Try.prog 78 #[.pointer (some ⟨pa, 0, none⟩), .iface 29 (.agg #[.int .i64 x1, .int .i64 x2, .int .i64 x3])] w fun e w' => e = .returned (.tuple #[]) ∧ Pushed w pa v d (x1, x2, x3) w' := by
  obtain ⟨i0, hi0, hz0, hz1, hz2⟩ := info_parts info_item
  have hc := h.c0
  have hf := h.f0
  have lp := h.lt
  have hrow := h.row
  have hap := h.apart
  have hfz : ∀ o, (w.alloc o).drew.frozen? ⟨pa, 0, none⟩ = false := fun o => (World.frozen?_alloc_old w o ⟨pa, 0, none⟩ (by simp; omega)).trans hf
  have hcz : ∀ o, (w.alloc o).drew.cell? ⟨pa, 0, none⟩ = some v := fun o => ((Gr.refl w).alloc o).drew.kept hc
  have H := hide h
  clear h
  have hta : ∀ W, (Instr.typeAssert (.iface 29 (.agg #[.int .i64 x1, .int .i64 x2, .int .i64 x3])) 20 29 false).run Try.prog W = .ok (.agg #[.int .i64 x1, .int .i64 x2, .int .i64 x3]) W := fun _ => by kernel_rfl
  go_enter Try.func78, Try.ntmps78
  go_wp2_with fail
  go_region_law
    ((refine step_append_lies _ (by rfl) _ _ _ (by rfl) 0 29 i0 _ 3 24 Try.underlying55 hi0 hz0 hz1 hz2 rfl (by omega) v d.length (d.flatMap encI) (by rfl) ((hrow.alloc _).drew) ⟨w.heap.size, 0, none⟩ 1 1 [.int .i64 x1, .int .i64 x2, .int .i64 x3] (by rfl) (by rfl) (World.news_of_block (cs := #[.int .i64 x1, .int .i64 x2, .int .i64 x3]) (t := 29) (fr := (0, 0)) (heap_alloc_new w _)) (by simp [Value.oneCell']) (by omega) (by unfold maxLen; omega) (by omega) (by simp) (w.heap.size + 1) (by simp) ?_; intro gg cap w1 hown1 hgrow hat hlt; have q1 := (hgrow.cell_far ⟨pa, 0, none⟩ (by simp; omega) (Ne.symm hap)).trans (hcz _); have q2 := (hgrow.frozen_far ⟨pa, 0, none⟩ (by simp; omega) (Ne.symm hap)).trans (hfz _)))
  all_goals go_end0
  all_goals exact ⟨rfl, pushed_of H.out rfl hown1 ((((Mod.refl _ w).alloc _).drew).grown hgrow (fun k e _ => by simp [ob, e])) (hat.imp id (fun e => by omega))⟩

theorem AgH.cap {w : World} {pa g n cap : Nat} {d : List Item} (h : AgH w pa (.slice (some ⟨g, 0, none⟩) n cap) d) : d.length ≤ cap := by
  rcases h.row.2 with ⟨hv, _⟩ | ⟨g, cap, cur, hv, _, _, h1, _⟩
  · cases hv
  · injection hv with _ _ e; omega
theorem flat_take (d : List Item) (n : Nat) : (d.flatMap encI).take (n * 3) = (d.take n).flatMap encI := by
  induction d generalizing n with
  | nil => simp
  | cons x r ih =>
    cases n with
    | zero => simp
    | succ n =>
      have e : (n + 1) * 3 = n * 3 + 1 + 1 + 1 := by omega
      simp only [List.flatMap_cons, List.take_succ_cons, encI, List.cons_append, List.nil_append, e]
      rw [ih n]
theorem row_take {w : World} {base g m cap : Nat} {T : TypeId} {d : List Item} (h : w.ownsRow base T 3 (.slice (some ⟨g, 0, none⟩) m cap) m (d.flatMap encI)) (n : Nat) (hn : n ≤ d.length) (hm : d.length = m) :
    w.ownsRow base T 3 (.slice (some ⟨g, 0, none⟩) n cap) n ((d.take n).flatMap encI) := by
  refine ⟨by rw [flat_length encI 3 encI_len, List.length_take]; omega, ?_⟩
  rcases h.2 with ⟨hv, _⟩ | ⟨g', cap', cur, hv, hb, hg, h1, h2, h3, h4⟩
  · cases hv
  · injection hv with e1 e2 e3
    injection e1 with e1
    injection e1 with e1
    subst e1 e3
    refine .inr ⟨g, cap, cur, rfl, hb, hg, by omega, h2, h3, ?_⟩
    rw [← flat_take, ← h4, List.take_take]
    congr 1
    omega
/-- the last one taken off -/
theorem pop_item {w : World} {pa : Nat} {v : Value} {d : List Item} (h : AgH w pa v d) (n : Nat) (hn : d.length = n + 1) (hsm : d.length ≤ 1000000) :
    Calls Try.prog 77 #[.pointer (some ⟨pa, 0, none⟩)] w fun e w' => e = .returned (.iface 29 (itv (get d n))) ∧ ∃ v', AgH w' pa v' (d.take n) ∧ Mod [pa] w w' ∧ ob v' = ob v := by
  have hc := h.c0
  have hf := h.f0
  have lp := h.lt
  obtain ⟨g, cap, rfl, _⟩ := h.form n (by omega)
  obtain ⟨c1, c2, c3⟩ := row_cell h.row rfl n (by omega)
  have hns : n ≤ 1000000 := by omega
  have hcap : n ≤ cap := by have := h.cap; omega
  obtain ⟨⟨x1, x2, x3⟩, hx⟩ : ∃ x, x = d.getD n default := ⟨_, rfl⟩
  rw [← hx] at c1 c2 c3
  have HX := hide hx
  clear hx
  have hgp : g ≠ pa := fun e => h.apart (by rw [e]; rfl)
  have H := hide h
  have HN := hide hn
  clear h hn
  rw [HN.out] at hc
  have hfz : ∀ o, (w.alloc o).frozen? ⟨pa, 0, none⟩ = false := fun o => (World.frozen?_alloc_old w o ⟨pa, 0, none⟩ (by simp; omega)).trans hf
  go_enter Try.func77, Try.ntmps77
  go_wp2_with fail
  go_ret
  have h := H.out
  have hn := HN.out
  refine ⟨by rw [itv, get, ← HX.out]; rfl, .slice (some ⟨g, 0, none⟩) n cap, ?_, ((Mod.refl [pa] w).setCell (fun _ => List.mem_cons_self) _).alloc _, rfl⟩
  refine AgH.gr (w := w.setCell ⟨pa, 0, none⟩ (.slice (some ⟨g, 0, none⟩) n cap)) (AgH_stored h.cell ?_ (fun e => hgp (Option.some.inj e))) ((Gr.refl _).alloc _)
  rw [List.length_take, show min n d.length = n by omega]
  exact row_take h.row n (by omega) rfl
end Go.Proofs.Ytbaphdaipacihaa
