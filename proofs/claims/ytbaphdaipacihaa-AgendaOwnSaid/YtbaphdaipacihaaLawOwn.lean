/-
  WALK: the law AgendaOwn.
-/
import Derived.Test.YtbaphdaipacihaaTwo
import Derived.Deep.LoopGhost
namespace Go.Proofs.Ytbaphdaipacihaa
open Go.RowKit Go.Sort Go.Shelf

def OwnRel1 (W : World) (l : List Item) (pa pb : Nat) (i : Value) (wr : World) : Prop :=
  ∃ (k : Nat) (o1 o2 : List Nat), k ≤ l.length ∧ i = .int .i64 k ∧ Two W wr pa o1 (putAll [] (l.take k)) pb o2 (putAll [] (l.take k))

/-- the answered list that is being written into, beside all else -/
structure PSt (W w : World) (pa : Nat) (o1 : List Nat) (pb : Nat) (o2 : List Nat) (L : List Item) (qv pv : Value) (dd : List Item) : Prop where
  two : Two W w pa o1 L pb o2 L
  q : Beside w ((pa :: o1) ++ (pb :: o2)) qv L
  row : ∃ B, B ≤ w.heap.size ∧ w.ownsRow B 29 3 pv dd.length (dd.flatMap encI)
  off : ∀ k, k ∈ ob pv → W.heap.size ≤ k ∧ k ∉ pa :: o1 ∧ k ∉ pb :: o2 ∧ k ∉ ob qv
theorem PSt.step {W w w' : World} {pa : Nat} {o1 : List Nat} {pb : Nat} {o2 : List Nat} {L : List Item} {qv pv pv' : Value} {dd dd' : List Item} (h : PSt W w pa o1 pb o2 L qv pv dd) (m : Mod (ob pv) w w')
    {B : Nat} (hB : B ≤ w'.heap.size) (hr : w'.ownsRow B 29 3 pv' dd'.length (dd'.flatMap encI)) (hn : ∀ k, k ∈ ob pv' → k ∈ ob pv ∨ w.heap.size ≤ k) : PSt W w' pa o1 pb o2 L qv pv' dd' :=
  ⟨h.two.kept m (fun k hk _ => ⟨(h.off k hk).1, (h.off k hk).2.1, (h.off k hk).2.2.1⟩), h.q.kept m (fun k hk hx => (h.off k hx).2.2.2 hk) (fun _ => .inl), ⟨B, hB, hr⟩, fun k hk => by
    rcases hn k hk with e | e
    · exact h.off k e
    · have h1 := h.two.mod.size
      exact ⟨by omega, fun hx => by have := h.two.a.lts k hx; omega, fun hx => by have := h.two.b.lts k hx; omega, fun hx => by have := h.q.lt k hx; omega⟩⟩
theorem PSt.gr {W w w' : World} {pa : Nat} {o1 : List Nat} {pb : Nat} {o2 : List Nat} {L : List Item} {qv pv : Value} {dd : List Item} (h : PSt W w pa o1 pb o2 L qv pv dd) (g : Gr w w') : PSt W w' pa o1 pb o2 L qv pv dd := by
  obtain ⟨B, hB, hr⟩ := h.row
  exact h.step (g.mod _) (Nat.le_trans hB g.size) ((g.mod []).row hr (by simp)) (fun _ => .inl)

set_option maxHeartbeats 4000000 in
set_option maxRecDepth 100000 in
theorem own_any {W : World} {v : Value} {l : List Item} (h : RdI W v l) (x1 x2 x3 : Int) :
    Calls Try.prog 7 #[v, .agg #[.int .i64 x1, .int .i64 x2, .int .i64 x3]] W fun e w' => e = .returned (.bool true) ∧ Mod [] W w' := by
  obtain ⟨i0, hi0, hz0, hz1, hz2⟩ := info_parts info_item
  have hgd := guard_item
  have hn0 := neq_item 0 0 0 0 0 0
  have hll : l.length ≤ 9223372036854775807 := h.1
  go_enter Try.func7, Try.ntmps7
  go_wp2_with fail
  refine (awake_any _).mono ?_
  rintro e w1 ⟨rfl, hm1⟩
  have hX1 := hm1.at_ (heap_alloc_new W _) (by simp)
  have hm1' : Mod [] W w1 := (((Gr.refl W).alloc _).mod []).then hm1
  clear hm1
  go_wp2_with fail
  refine (first_nil w1).mono ?_
  rintro e w2 ⟨rfl, hm2⟩
  have hX2 := hm2.at_ hX1 (by simp)
  have hC2 := blk_cell (blk_alloc hX2 (.cells #[.int .i64 0, .int .i64 0, .int .i64 0] 29))
  have hm2' := hm1'.then hm2
  simp only [optV, itvO, itv, Option.isSome]
  have hY2 := heap_alloc_new w2 (.cells #[.int .i64 0, .int .i64 0, .int .i64 0] 29)
  clear hm2 hm1'
  go_wp2_with fail
  refine (get_nil _ _ _).mono ?_
  rintro e w3 ⟨rfl, hm3⟩
  have hX3 := hm3.at_ (blk_alloc hX2 _) (by simp)
  have hY3 := hm3.at_ hY2 (by simp)
  have hC3 := blk_cell (blk_alloc hX3 (.cells #[.int .i64 0, .int .i64 0, .int .i64 0] 29))
  have hm3' := (hm2'.alloc (.cells #[.int .i64 0, .int .i64 0, .int .i64 0] 29)).then hm3
  simp only [optV, itvO, itv, Option.isSome]
  have hZ3 := heap_alloc_new w3 (.cells #[.int .i64 0, .int .i64 0, .int .i64 0] 29)
  clear hm3 hm2' hX1 hX2 hC2 hY2
  go_wp2_with fail
  refine (take_nil _ _).mono ?_
  rintro e w4 ⟨rfl, hm4⟩
  have hX4 := hm4.at_ (blk_alloc hX3 _) (by simp)
  have hY4 := hm4.at_ (blk_alloc hY3 _) (by simp)
  have hZ4 := hm4.at_ hZ3 (by simp)
  have hm4' := (hm3'.alloc (.cells #[.int .i64 0, .int .i64 0, .int .i64 0] 29)).then hm4
  have hC4 := blk_cell (blk_alloc hX4 (.cells #[.int .i64 0, .int .i64 0, .int .i64 0] 29))
  simp only [optV, itvO, itv, Option.isSome]
  have hU4 := heap_alloc_new w4 (.cells #[.int .i64 0, .int .i64 0, .int .i64 0] 29)
  clear hm4 hm3' hX3 hY3 hZ3 hC3
  go_wp2_with fail
  refine (put_nil _ _ _ _).mono ?_
  rintro e w5 ⟨rfl, hg5⟩
  have hX5 := (hg5.mod []).at_ (blk_alloc hX4 _) (by simp)
  have hY5 := (hg5.mod []).at_ (blk_alloc hY4 _) (by simp)
  have hZ5 := (hg5.mod []).at_ (blk_alloc hZ4 _) (by simp)
  have hU5 := (hg5.mod []).at_ hU4 (by simp)
  have hm5' := (hm4'.alloc (.cells #[.int .i64 0, .int .i64 0, .int .i64 0] 29)).gr hg5
  have hC5 := blk_cell hX5
  clear hg5 hm4' hX4 hY4 hZ4 hU4 hC4
  go_wp2_with fail
  refine (drop_nil _ _ _).mono ?_
  rintro e w6 ⟨rfl, hg6⟩
  have hm6' := hm5'.gr hg6
  have hCY := blk_cell ((hg6.mod []).at_ hY5 (by simp))
  have hCZ := blk_cell ((hg6.mod []).at_ hZ5 (by simp))
  have hCU := blk_cell ((hg6.mod []).at_ hU5 (by simp))
  clear hg6 hm5' hX5 hY5 hZ5 hU5 hC5
  go_wp2_with fail
  refine (alen_nil _).mono ?_
  rintro e w7 ⟨rfl, rfl⟩
  clear hCY hCZ hCU
  go_wp2_with fail
  refine (list_nil _).mono ?_
  rintro e w7 ⟨rfl, rfl⟩
  go_wp2_with fail
  refine (new_any _).mono ?_
  rintro e w8 ⟨rfl, hr8, hg8, hs8⟩
  have hA8 : Ag w8 w6.heap.size [] [] := ⟨⟨_, [], hr8, .refl _, rfl⟩, List.Pairwise.nil, List.Pairwise.nil, by simp⟩
  go_wp2_with fail
  refine (new_any _).mono ?_
  rintro e w9 ⟨rfl, hr9, hg9, hs9⟩
  have hA9 : Ag w9 w8.heap.size [] [] := ⟨⟨_, [], hr9, .refl _, rfl⟩, List.Pairwise.nil, List.Pairwise.nil, by simp⟩
  have T : Two W w9 w6.heap.size [] [] w8.heap.size [] [] := ⟨(hm6'.gr hg8).gr hg9, hA8.gr hg9, hA9, by simp; omega, by simp; exact hm6'.size, by simp; have := hm6'.size; omega⟩
  clear hr8 hr9 hg8 hg9 hA8 hA9 hs8 hs9 hm6'
  generalize w6.heap.size = pa at T ⊢
  generalize w8.heap.size = pb at T ⊢
  obtain ⟨p, cap, rfl⟩ := h.len
  go_wp2_with fail
  go_loopw [95] (fun i wr => OwnRel1 W l pa pb i wr) (fun i _ => l.length - (intOf i).toNat)
  case atStart => exact ⟨0, [], [], Nat.zero_le _, rfl, T⟩
  case round =>
    clear T hn0
    obtain ⟨k, o1, o2, hk, rfl, T⟩ := hrel
    by_cases hlt : k < l.length
    · obtain ⟨b, off, cap', hv, hbw, hc⟩ := (h.mod T.mod (by simp)).at_ k hlt
      simp only [Value.slice.injEq, true_and] at hv
      obtain ⟨rfl, rfl⟩ := hv
      obtain ⟨c1, c2, c3⟩ := hc k hlt
      have i1 : (0 : Int) ≤ (k : Int) := by omega
      have i2 : (k : Int) < (l.length : Int) := by omega
      obtain ⟨⟨y1, y2, y3⟩, hy⟩ : ∃ y, y = get l k := ⟨_, rfl⟩
      rw [← hy] at c1 c2 c3
      have hsn : putAll [] (l.take (k + 1)) = (putI (putAll [] (l.take k)) (y1, y2, y3)).1 := by rw [take_snoc' l k hlt, ← hy, putAll_snoc]
      have HS := hide hsn
      clear hc hy hsn
      have T1 := T.gr ((Gr.refl wr).alloc (.cells #[.int .i64 y1, .int .i64 y2, .int .i64 y3] 29))
      have hB1 := heap_alloc_new wr (.cells #[.int .i64 y1, .int .i64 y2, .int .i64 y3] 29)
      have hB1n : wr.heap.size ∉ pa :: o1 := fun hx => by have := T.a.lts _ hx; omega
      go_wp2_with fail
      refine (put_any T1.a y1 y2 y3).mono ?_
      rintro e w10 ⟨rfl, o1', hA10, ht10⟩
      have T2 := T1.left hA10 ht10
      have hC2 := blk_cell (ht10.mod.at_ hB1 hB1n)
      clear c1 c2 c3 T T1 hA10 ht10 hB1 hB1n
      go_wp2_with fail
      refine (put_any T2.b y1 y2 y3).mono ?_
      rintro e w11 ⟨rfl, o2', hA11, ht11⟩
      have T3 := T2.right hA11 ht11
      rw [← HS.out] at T3
      clear T2 hA11 ht11 hC2
      go_wp2_with fail
      go_roundw
      case rel => exact ⟨k + 1, o1', o2', by omega, by go_num, T3⟩
      case measure => simp [intOf]; omega
    · obtain rfl : k = l.length := by omega
      rw [List.take_length] at T
      have hok : AllOk (putAll [] l) := putAll_ok l (by intro y hy; cases hy)
      generalize putAll [] l = L at T hok
      clear h
      go_wp2_with fail
      refine (list_any T.a).mono ?_
      rintro e w12 ⟨pv, rfl, hp12, hm12⟩
      have T12 := T.same hm12
      have hP := Beside.new T hp12
      go_wp2_with fail
      refine (list_any T12.a).mono ?_
      rintro e w13 ⟨qv, rfl, hq13, hm13⟩
      have T13 := T12.same hm13
      have hQ := Beside.new T12 hq13
      have hps : PSt W w13 pa o1 pb o2 L qv pv L := ⟨T13, hQ, ⟨wr.heap.size, Nat.le_trans hm12.size hm13.size, hm13.row hp12 (by simp)⟩, fun k hk => ⟨by
          have := (hp12.lt k (by simpa [ob] using hk)).1
          have := T.mod.size
          omega, fun hx => hP.off k hk (List.mem_append_left _ hx), fun hx => hP.off k hk (List.mem_append_right _ hx), fun hx => by
          have := hP.lt k hk
          have := (hq13.lt k (by simpa [ob] using hx)).1
          omega⟩⟩
      have hsm : L.length ≤ 32 := T.a.small
      clear T hp12 hm12 T12 hP hq13 hm13 T13 hQ
      have hpl : ∃ p c, pv = .slice p L.length c := by
        obtain ⟨B, _, hr⟩ := hps.row
        exact (RdI.of_row hr).len
      obtain ⟨pp, pc, rfl⟩ := hpl
      go_wp2_with fail
      go_loopw [112] (fun i wr => ∃ (k : Nat) (dd : List Item), k ≤ L.length ∧ i = .int .i64 k ∧ dd.length = L.length ∧ PSt W wr pa o1 pb o2 L qv (.slice pp L.length pc) dd) (fun i _ => L.length - (intOf i).toNat)
      case atStart => exact ⟨0, L, Nat.zero_le _, rfl, rfl, hps⟩
      case round =>
        clear hps
        obtain ⟨k, dd, hk, rfl, hdl, hps⟩ := hrel
        by_cases hlt : k < L.length
        · obtain ⟨B, hB, hr⟩ := hps.row
          obtain ⟨g, hg⟩ : ∃ g, pp = some ⟨g, 0, none⟩ := by
            rcases hr.2 with ⟨_, hn⟩ | ⟨g, cap, cur, hv, _⟩
            · omega
            · injection hv with e1 _ _
              exact ⟨g, e1⟩
          subst hg
          have hkd : k < dd.length := by omega
          rw [hdl] at hr
          obtain ⟨c1, c2, c3⟩ := row_cell hr hdl.symm k hkd
          have fz : ∀ o, wr.frozen? ⟨g, o, none⟩ = false := fun o => hr.frozenAt o
          have i1 : (0 : Int) ≤ (k : Int) := by omega
          have i2 : (k : Int) < (L.length : Int) := by omega
          have hr' := row_set hr k (-9, 0, 0) hkd
          have hmm : Mod (ob (.slice (some ⟨g, 0, none⟩) L.length pc)) wr (((wr.setCell ⟨g, k * 3, none⟩ (.int .i64 (-9))).setCell ⟨g, k * 3 + 1, none⟩ (.int .i64 0)).setCell ⟨g, k * 3 + 2, none⟩ (.int .i64 0)) :=
            (((Mod.refl _ wr).setCell (by simp [ob, Value.ownBlock]) _).setCell (by simp [ob, Value.ownBlock]) _).setCell (by simp [ob, Value.ownBlock]) _
          have hq' := hps.step (dd' := dd.set k (-9, 0, 0)) (pv' := .slice (some ⟨g, 0, none⟩) L.length pc) hmm (Nat.le_trans hB hmm.size) (by rw [List.length_set, hdl]; exact hr') (fun _ => .inl)
          clear hr hr' hmm hps hB
          have HDL := hide hdl
          clear hdl
          go_wp2_with fail
          go_roundw
          case rel => exact ⟨k + 1, dd.set k (-9, 0, 0), by omega, by go_num, by rw [List.length_set]; exact HDL.out, hq'⟩
          case measure => simp [intOf]; omega
        · go_wp2_with fail
          go_loopw [16, 19] (fun u i wr => ∃ (k : Nat) (dd : List Item), k ≤ 20 ∧ i = .int .i64 k ∧ dd.length = L.length + k ∧ PSt W wr pa o1 pb o2 L qv u dd) (fun _ i _ => 20 - (intOf i).toNat)
          case atStart => exact ⟨0, dd, by omega, rfl, hdl, hps⟩
          case round =>
            clear hps hdl hk
            obtain ⟨j, de, hj, rfl, hdl, hps⟩ := hrel
            by_cases hlt : j < 20
            · obtain ⟨B, hB, hr⟩ := hps.row
              have hr1 := (((Gr.refl wr).alloc (.cells #[.int .i64 (-8), .int .i64 0, .int .i64 0] 29)).mod []).row hr (by simp)
              have hdb : de.length ≤ 52 := by omega
              have HDL := hide hdl
              clear hdl hr
              go_wp2_with (at_builtin; refine wpList_append_lies _ rfl _ _ 32 rfl B 29 i0 _ 3 24 Try.underlying32 hi0 hz0 hz1 hz2 rfl (by decide) u16 de.length (de.flatMap encI) rfl hr1 ⟨wr.heap.size, 0, none⟩ 1 1 [.int .i64 (-8), .int .i64 0, .int .i64 0] rfl rfl (World.news_of_block (cs := #[.int .i64 (-8), .int .i64 0, .int .i64 0]) (t := 29) (fr := (0, 0)) (heap_alloc_new wr _)) (by simp [Value.oneCell']) (by omega) (by unfold maxLen; omega) (by omega) (by simp; omega) ?_; intro g cap w' ho hg hat)
              have hmm : Mod (ob u16) wr w' := ((Mod.refl (ob u16) wr).alloc _).grown hg (fun k e _ => by simp [ob, e])
              have hbw : B ≤ w'.heap.size := Nat.le_trans hB hmm.size
              rw [flat_snoc] at ho
              have hq' := hps.step (dd' := de ++ [(-8, 0, 0)]) hmm hbw (by rw [List.length_append]; exact ho) (fun k hk => by
                simp only [ob, Value.ownBlock, Option.toList, List.mem_singleton] at hk
                subst hk
                rcases hat with e | e
                · exact .inl (by simp [ob, e])
                · exact .inr (by rw [e]; simp))
              clear ho hg hat hmm hbw hr1 hps hB
              go_wp2_with fail
              go_roundw
              case rel => exact ⟨j + 1, de ++ [(-8, 0, 0)], by omega, by go_num, by rw [List.length_append, HDL.out]; rfl, hq'⟩
              case measure => simp [intOf]; omega
            · have T := hps.two
              have hQ := hps.q
              clear hps hdl
              go_wp2_with fail
              go_loopg [20] L.length (fun n _ wr => ∃ r o1, r.length = n ∧ AllOk r ∧ Two W wr pa o1 r pb o2 L ∧ Beside wr ((pa :: o1) ++ (pb :: o2)) qv L)
              case atStart => exact ⟨L, o1, rfl, hok, T, hQ⟩
              case round =>
                clear T hQ hok
                obtain ⟨r, o1, hrl, hok, T, hQ⟩ := hrel
                cases r with
                | nil =>
                  subst hrl
                  go_wp2_with fail
                  refine (aglen T.a (n := 0) rfl).mono ?_
                  rintro e w14 ⟨rfl, rfl⟩
                  go_wp2_with fail
                  refine (list_any T.b).mono ?_
                  rintro e w15 ⟨tv, rfl, ht15, hm15⟩
                  have hQ15 := hQ.same hm15
                  have T15 := T.same hm15
                  go_wp2_with fail
                  refine (rsame_any hQ15.rd (RdI.of_row ht15)).mono ?_
                  rintro e w16 ⟨rfl, hg16⟩
                  go_wp2_with fail
                  go_ret
                  exact ⟨by simp, T15.mod.gr hg16⟩
                | cons y r =>
                  have hrn : (y :: r).length = r.length + 1 := rfl
                  have htk := take_ok hok
                  have hok' : AllOk r := fun z hz => hok z (List.mem_cons_of_mem _ hz)
                  have HRL := hide hrl
                  have hrs : r.length ≤ 31 := by have := T.a.small; simp at this; omega
                  clear hrl hok hrn
                  go_wp2_with fail
                  refine (aglen T.a (n := (r.length : Int) + 1) (by simp)).mono ?_
                  rintro e w14 ⟨rfl, rfl⟩
                  go_wp2_with fail
                  refine (aglen T.a (n := (r.length : Int) + 1) (by simp)).mono ?_
                  rintro e w14 ⟨rfl, rfl⟩
                  go_wp2_with fail
                  refine (take_eq T.a 4611686018427387904 htk).mono ?_
                  rintro e w15 ⟨rfl, o1', hA15, ht15⟩
                  have T15 := T.left hA15 ht15
                  have hQ15 := hQ.kept (D' := (pa :: o1') ++ (pb :: o2)) ht15.mod (fun k hk hx => hQ.off k hk (List.mem_append_left _ hx)) (fun k hk => by
                    rcases List.mem_append.1 hk with e | e
                    · exact (ht15.news k e).imp (List.mem_append_left _) id
                    · exact .inl (List.mem_append_right _ e))
                  clear T hQ hA15 ht15 htk
                  go_wp2_with fail
                  refine (aglen T15.a rfl).mono ?_
                  rintro e w16 ⟨rfl, rfl⟩
                  go_wp2_with fail
                  go_roundg r.length
                  case measure => rw [← HRL.out]; simp
                  case rel => exact ⟨r, o1', rfl, hok', T15, hQ15⟩
end Go.Proofs.Ytbaphdaipacihaa
