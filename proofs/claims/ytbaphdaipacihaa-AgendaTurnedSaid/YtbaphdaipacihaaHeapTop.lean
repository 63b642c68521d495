/-
  WALKS: container/heap's Fix, Push, Remove, Pop over an agenda.
-/
import Derived.Test.YtbaphdaipacihaaHeapOps
namespace Go.Proofs.Ytbaphdaipacihaa
open Go.RowKit

/-- the agenda at pa is a heap that holds the items of l -/
structure AgR (w : World) (pa : Nat) (v : Value) (d : List Item) : Prop where
  ag : AgH w pa v d
  heap : HeapLaw.Heap ltI (get d) d.length

set_option maxRecDepth 100000 in
theorem down_none {w : World} {pa : Nat} :
    Calls Try.prog 33 #[.iface 60 (.pointer (some ⟨pa, 0, none⟩)), .int .i64 0, .int .i64 0] w fun e w' => e = .returned (.bool false) ∧ w = w' := by
  go_enter Try.func33, Try.ntmps33
  go_wp2
  refine wp_loop_rounds 1 ?_
  rw [rounds_succ]
  go_wp2
  go_ret
  exact ⟨rfl, rfl⟩

/-- Push -/
def HPushed (w : World) (pa : Nat) (v : Value) (d : List Item) (x : Item) (w' : World) : Prop :=
  ∃ v' d', AgR w' pa v' d' ∧ d'.Perm (x :: d) ∧ Mod (pa :: ob v) w w' ∧ ∀ k, k ∈ ob v' → k ∈ ob v ∨ w.heap.size ≤ k
theorem get_append (d : List Item) (x : Item) (k : Nat) (h : k < d.length) : get (d ++ [x]) k = get d k := by
  simp [get, h, List.getElem?_append]

set_option maxRecDepth 100000 in
set_option maxHeartbeats 1000000 in
theorem hpush_any {w : World} {pa : Nat} {v : Value} {d : List Item} (h : AgR w pa v d) (hsm : d.length ≤ 100000) (x1 x2 x3 : Int) :
    Calls Try.prog 25 #[.iface 60 (.pointer (some ⟨pa, 0, none⟩)), .iface 29 (.agg #[.int .i64 x1, .int .i64 x2, .int .i64 x3])] w fun e w' => e = .returned (.tuple #[]) ∧ HPushed w pa v d (x1, x2, x3) w' := by
  have m1 := meth_push pa
  have hA := h.ag
  have hH := h.heap
  have lp := hA.lt
  clear h
  go_enter Try.func25, Try.ntmps25
  go_wp2_with fail
  refine (push_item hA (by omega) x1 x2 x3).mono ?_
  rintro e w1 ⟨rfl, v', h1, hm1, hv'⟩
  have m2 := meth_len pa v'
  have hc := h1.c0
  clear m1
  go_wp2_with fail
  refine (len_any h1).mono ?_
  rintro e w2 ⟨rfl, rfl⟩
  have el : ((d ++ [((x1, x2, x3) : Item)]).length : Int) - 1 = (d.length : Int) := by simp
  have HE := hide el
  have hb : (1 : Int) ≤ ((d ++ [((x1, x2, x3) : Item)]).length : Int) ∧ ((d ++ [((x1, x2, x3) : Item)]).length : Int) ≤ 100001 := by simp; omega
  clear el m2 hc
  generalize hN : ((d ++ [((x1, x2, x3) : Item)]).length : Int) = N at hb ⊢
  have HN := hide hN
  clear hN
  obtain ⟨hb1, hb2⟩ := hb
  go_wp2_with fail
  have hu : HeapLaw.UpInv ltI (get (d ++ [((x1, x2, x3) : Item)])) (d.length + 1) d.length := HeapLaw.UpInv.of_push hH (fun k hk => get_append d _ k hk)
  refine (up_any h1 (d.length + 1) (by simp) _ d.length (by rw [← HN.out]; exact HE.out) hu).mono ?_
  rintro e w3 ⟨rfl, d', hs, hh⟩
  go_wp2_with fail
  go_end0
  have hle := hs.len
  refine ⟨rfl, v', d', ⟨hs.ag, by rw [hle]; simpa using hh⟩, hs.perm.trans (List.perm_append_singleton _ _), ?_, hv'⟩
  refine hm1.trans hs.mod (fun _ a _ => a) (fun k hk hlt => ?_)
  rcases hv' k hk with a | a
  · exact List.mem_cons_of_mem _ a
  · omega

theorem ob_lt {w : World} {pa : Nat} {v : Value} {d : List Item} (h : AgH w pa v d) : ∀ k, k ∈ ob v → k < w.heap.size := fun k hk => (h.row.lt k (by simpa [ob] using hk)).2

set_option maxRecDepth 100000 in
set_option maxHeartbeats 1000000 in
theorem hfix_any {w : World} {pa : Nat} {v : Value} {d : List Item} (h : AgH w pa v d) (hsm : d.length ≤ 100000) (i : Int) (ni : Nat) (hi : i = ni) (hn : ni < d.length) (hu : HeapLaw.DownInv ltI (get d) d.length ni ni) :
    Calls Try.prog 24 #[.iface 60 (.pointer (some ⟨pa, 0, none⟩)), .int .i64 i] w fun e w' => e = .returned (.tuple #[]) ∧ Heaped w pa v d d.length w' := by
  subst hi
  have m2 := meth_len pa v
  have hc := h.c0
  go_enter Try.func24, Try.ntmps24
  go_wp2_with fail
  refine (len_any h).mono ?_
  rintro e w2 ⟨rfl, rfl⟩
  clear m2
  go_wp2_with fail
  refine (down_any h d.length (Nat.le_refl _) (by omega) _ _ ni rfl rfl hn hu).mono ?_
  rintro e w2 ⟨b, dk, j, rfl, hs, hge, hb, h1, h2⟩
  cases b with
  | true =>
    have hx := h1 (hb.1 rfl)
    clear hb h1 h2 hc
    go_wp2_with fail
    go_end0
    exact ⟨rfl, dk, hs, hx⟩
  | false =>
    have hx := h2 (by have : ¬ ni < j := fun x => by simpa using hb.2 x
                      omega)
    clear hb h1 h2 hc
    go_wp2_with fail
    refine (up_any hs.ag d.length (by rw [hs.len]; exact Nat.le_refl _) _ ni rfl hx).mono ?_
    rintro e w3 ⟨rfl, d', hs', hh⟩
    go_wp2_with fail
    go_end0
    exact ⟨rfl, d', hs.trans hs', hh⟩

/-- Pop, Remove: the item at i is gone -/
def HGone (w : World) (pa : Nat) (v : Value) (d : List Item) (i : Nat) (e : Ending) (w' : World) : Prop :=
  ∃ u v' d', e = .returned u ∧ AgR w' pa v' d' ∧ (get d i :: d').Perm d ∧ Mod (pa :: ob v) w w' ∧ ob v' = ob v
theorem gone_perm {d dk : List Item} {n i : Nat} (hp : dk.Perm d) (hn : dk.length = n + 1) (hg : get dk n = get d i) : (get d i :: dk.take n).Perm d := by
  have e : dk = dk.take n ++ [get dk n] := by
    have : dk.drop n = [get dk n] := by
      rw [List.drop_eq_getElem_cons (by omega), List.drop_of_length_le (by omega)]
      simp [get, show n < dk.length by omega]
    rw [← this, List.take_append_drop]
  rw [← hg]
  refine List.Perm.trans ?_ hp
  conv => rhs; rw [e]
  exact (List.perm_append_singleton _ _).symm
theorem get_take (d : List Item) (n k : Nat) (h : k < n) : get (d.take n) k = get d k := by
  simp [get, h]
theorem heap_take {d : List Item} {n : Nat} (h : HeapLaw.Heap ltI (get d) n) (hn : n ≤ d.length) : HeapLaw.Heap ltI (get (d.take n)) (d.take n).length := by
  rw [List.length_take, Nat.min_eq_left hn]
  intro k k0 kn
  rw [get_take d n k kn, get_take d n _ (by have := HeapLaw.par_lt k0; omega)]
  exact h k k0 kn

set_option maxRecDepth 100000 in
set_option maxHeartbeats 1000000 in
theorem hpop_any {w : World} {pa : Nat} {v : Value} {d : List Item} (h : AgR w pa v d) (hsm : d.length ≤ 100000) (n : Nat) (hn : d.length = n + 1) :
    Calls Try.prog 27 #[.iface 60 (.pointer (some ⟨pa, 0, none⟩))] w fun e w' => HGone w pa v d 0 e w' := by
  have m1 := meth_len pa v
  have m2 := meth_swap pa v
  have m3 := meth_pop pa
  have hA := h.ag
  have hH := h.heap
  have hc := hA.c0
  clear h
  have HN := hide hn
  have hns : n ≤ 100000 := by omega
  go_enter Try.func27, Try.ntmps27
  go_wp2_with fail
  refine (len_any hA).mono ?_
  rintro e w2 ⟨rfl, rfl⟩
  rw [hn]
  clear hn
  go_wp2_with fail
  refine (swap_b hA _ _ 0 n rfl (by simp) (by rw [HN.out]; omega) (by rw [HN.out]; omega)).mono ?_
  rintro e w1 ⟨rfl, hA1, hm1⟩
  have hs1 := (Sifted.refl hA d.length).swap (i := 0) (j := n) (by rw [HN.out]; omega) (by rw [HN.out]; omega) (Nat.le_refl _) hA1 hm1
  have hl1 := hs1.len
  have hg1 : ∀ k, get (swl d 0 n) k = HeapLaw.sw (get d) 0 n k := fun k => congrFun (get_swl d 0 n (by rw [HN.out]; omega) (by rw [HN.out]; omega)) k
  have hgn : get (swl d 0 n) n = get d 0 := by rw [hg1]; unfold HeapLaw.sw; by_cases e : n = 0 <;> simp [e]
  have HL1 := hide hl1
  clear hl1 m1 m2 hc
  by_cases h0 : n = 0
  · subst h0
    go_wp2_with fail
    refine down_none.mono ?_
    rintro e w3 ⟨rfl, rfl⟩
    go_wp2_with fail
    refine (pop_item hA1 0 (by rw [HL1.out, HN.out]) (by rw [HL1.out]; omega)).mono ?_
    rintro e w4 ⟨rfl, v', hA4, hm4, hob⟩
    go_wp2_with fail
    go_ret
    refine ⟨_, v', _, rfl, ⟨hA4, fun k _ hk => by simp at hk⟩, gone_perm hs1.perm (by rw [HL1.out, HN.out]) hgn, ?_, hob⟩
    exact hm1.trans hm4 (fun _ a _ => List.mem_cons_of_mem _ a) (fun k hk _ => by simp at hk; simp [hk])
  · have hu : HeapLaw.DownInv ltI (get (swl d 0 n)) n 0 0 := HeapLaw.DownInv.of_set lo hH (by rw [HN.out]; omega) (fun k hk k0 => by rw [hg1]; unfold HeapLaw.sw; rw [if_neg k0, if_neg (by omega)]) (by omega)
    go_wp2_with fail
    refine (down_any hA1 n (by rw [HL1.out, HN.out]; omega) (by rw [HL1.out]; omega) _ _ 0 rfl (by simp) (by omega) hu).mono ?_
    rintro e w3 ⟨b, dk, j, rfl, hs, hge, hb, hx1, hx2⟩
    have hh : HeapLaw.Heap ltI (get dk) n := by
      by_cases hj : 0 < j
      · exact hx1 hj
      · exact HeapLaw.up_done (hx2 (by omega)) (.inl rfl)
    have hlk : dk.length = n + 1 := by rw [hs.len, HL1.out, HN.out]
    have HLK := hide hlk
    clear hb hx1 hx2 hlk
    go_wp2_with fail
    refine (pop_item hs.ag n HLK.out (by rw [HLK.out]; omega)).mono ?_
    rintro e w4 ⟨rfl, v', hA4, hm4, hob⟩
    go_wp2_with fail
    go_ret
    refine ⟨_, v', _, rfl, ⟨hA4, heap_take hh (by rw [HLK.out]; omega)⟩, gone_perm (hs.perm.trans hs1.perm) HLK.out ((hs.far n (Nat.le_refl _)).trans hgn), ?_, hob⟩
    exact (hm1.then hs.mod).trans hm4 (fun _ a _ => List.mem_cons_of_mem _ a) (fun k hk _ => by simp at hk; simp [hk])

set_option maxRecDepth 100000 in
set_option maxHeartbeats 1000000 in
theorem hremove_any {w : World} {pa : Nat} {v : Value} {d : List Item} (h : AgR w pa v d) (hsm : d.length ≤ 100000) (n : Nat) (hn : d.length = n + 1) (i : Int) (ni : Nat) (hi : i = ni) (hni : ni ≤ n) :
    Calls Try.prog 26 #[.iface 60 (.pointer (some ⟨pa, 0, none⟩)), .int .i64 i] w fun e w' => HGone w pa v d ni e w' := by
  subst hi
  have m1 := meth_len pa v
  have m2 := meth_swap pa v
  have m3 := meth_pop pa
  have hA := h.ag
  have hH := h.heap
  have hc := hA.c0
  clear h
  have HN := hide hn
  have hns : n ≤ 100000 := by omega
  by_cases hin : ni = n
  · subst hin
    go_enter Try.func26, Try.ntmps26
    go_wp2_with fail
    refine (len_any hA).mono ?_
    rintro e w2 ⟨rfl, rfl⟩
    rw [hn]
    clear hn
    go_wp2_with fail
    refine (pop_item hA ni HN.out (by rw [HN.out]; omega)).mono ?_
    rintro e w4 ⟨rfl, v', hA4, hm4, hob⟩
    go_wp2_with fail
    go_ret
    refine ⟨_, v', _, rfl, ⟨hA4, heap_take (fun k k0 kn => hH k k0 (by rw [HN.out]; omega)) (by rw [HN.out]; omega)⟩, gone_perm (.refl _) HN.out rfl, hm4.mono (fun k hk _ => by simp at hk; simp [hk]), hob⟩
  · have hb0 : ((n : Int) != (ni : Int)) = true := by simp; omega
    go_enter Try.func26, Try.ntmps26
    go_wp2_with fail
    refine (len_any hA).mono ?_
    rintro e w2 ⟨rfl, rfl⟩
    rw [hn]
    clear hn
    go_wp2_with fail
    refine (swap_b hA _ _ ni n rfl (by simp) (by rw [HN.out]; omega) (by rw [HN.out]; omega)).mono ?_
    rintro e w1 ⟨rfl, hA1, hm1⟩
    have hs1 := (Sifted.refl hA d.length).swap (i := ni) (j := n) (by rw [HN.out]; omega) (by rw [HN.out]; omega) (Nat.le_refl _) hA1 hm1
    have hl1 := hs1.len
    have hg1 : ∀ k, get (swl d ni n) k = HeapLaw.sw (get d) ni n k := fun k => congrFun (get_swl d ni n (by rw [HN.out]; omega) (by rw [HN.out]; omega)) k
    have hgn : get (swl d ni n) n = get d ni := by rw [hg1]; unfold HeapLaw.sw; rw [if_neg (Ne.symm hin), if_pos rfl]
    have HL1 := hide hl1
    clear hl1 m1 m2 hc
    have hu : HeapLaw.DownInv ltI (get (swl d ni n)) n ni ni := HeapLaw.DownInv.of_set lo hH (by rw [HN.out]; omega) (fun k hk k0 => by rw [hg1]; unfold HeapLaw.sw; rw [if_neg k0, if_neg (by omega)]) (by omega)
    go_wp2_with fail
    refine (down_any hA1 n (by rw [HL1.out, HN.out]; omega) (by rw [HL1.out]; omega) _ _ ni rfl (by simp) (by omega) hu).mono ?_
    rintro e w3 ⟨b, dk, j, rfl, hs, hge, hb, hx1, hx2⟩
    have hlk : dk.length = n + 1 := by rw [hs.len, HL1.out, HN.out]
    have HLK := hide hlk
    cases b with
    | true =>
      have hh := hx1 (hb.1 rfl)
      clear hb hx1 hx2 hlk hb0
      go_wp2_with fail
      refine (pop_item hs.ag n HLK.out (by rw [HLK.out]; omega)).mono ?_
      rintro e w4 ⟨rfl, v', hA4, hm4, hob⟩
      go_wp2_with fail
      go_ret
      refine ⟨_, v', _, rfl, ⟨hA4, heap_take hh (by rw [HLK.out]; omega)⟩, gone_perm (hs.perm.trans hs1.perm) HLK.out ((hs.far n (Nat.le_refl _)).trans hgn), ?_, hob⟩
      exact (hm1.then hs.mod).trans hm4 (fun _ a _ => List.mem_cons_of_mem _ a) (fun k hk _ => by simp at hk; simp [hk])
    | false =>
      have hx := hx2 (by have : ¬ ni < j := fun x => by simpa using hb.2 x
                         omega)
      clear hb hx1 hx2 hlk hb0
      go_wp2_with fail
      refine (up_any hs.ag n (by rw [HLK.out]; omega) _ ni rfl hx).mono ?_
      rintro e w5 ⟨rfl, d5, hs5, hh⟩
      have hl5 : d5.length = n + 1 := by rw [hs5.len, HLK.out]
      have HL5 := hide hl5
      clear hl5
      go_wp2_with fail
      refine (pop_item hs5.ag n HL5.out (by rw [HL5.out]; omega)).mono ?_
      rintro e w4 ⟨rfl, v', hA4, hm4, hob⟩
      go_wp2_with fail
      go_ret
      refine ⟨_, v', _, rfl, ⟨hA4, heap_take hh (by rw [HL5.out]; omega)⟩, gone_perm (hs5.perm.trans (hs.perm.trans hs1.perm)) HL5.out ((hs5.far n (Nat.le_refl _)).trans ((hs.far n (Nat.le_refl _)).trans hgn)), ?_, hob⟩
      exact ((hm1.then hs.mod).then hs5.mod).trans hm4 (fun _ a _ => List.mem_cons_of_mem _ a) (fun k hk _ => by simp at hk; simp [hk])
end Go.Proofs.Ytbaphdaipacihaa
