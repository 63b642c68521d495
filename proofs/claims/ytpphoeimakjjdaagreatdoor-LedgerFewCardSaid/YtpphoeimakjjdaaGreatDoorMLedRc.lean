/-
  WALKS: the document's copies of stamps and grants; a record with lists of its own.
-/
import Derived.Test.YtpphoeimakjjdaaGreatDoorMBookW5
import Derived.Test.YtpphoeimakjjdaaGreatDoorMBookW6
import Derived.LoopTactic
namespace Go.Proofs.YtpphoeimakjjdaaGreatDoor
open Go.RowKit

section
variable {P : Program}
/-- a copy of any length that may be handed in, laid behind an empty row of one's own -/
theorem wpList_append_big {ops : Array Oper} {rest : List Oper} {o : Oper} {a : Act} {Q : Exit → Act → World → Prop} (w : World) (hgd : o.guard = none) (s x : Operand) (t : TypeId)
    (ho : o.op = .call { callee := .builtin .append, args := #[s, x], argTypes := #[t, t] })
    (base : Nat) (e : TypeId) (i : TypeInfo) (ht : P.underlying t = some (.slice e)) (hi : P.info? e = some i) (hz : i.zero = some (.int .i64 0)) (hsize : i.size = 1) (hby : i.bytes = 8)
    {b0 c0 : Nat} (hs : a.eval s = .slice (some ⟨b0, 0, none⟩) 0 c0) (hown : w.ownsRow base e 1 (.slice (some ⟨b0, 0, none⟩) 0 c0) 0 []) (hbase : base ≤ w.heap.size) {v : Value} {m : List Int} (hx : a.eval x = v) (hv : RdN w v m) (hsm : m.length * 8 ≤ 140737488355328)
    (h : ∀ v' w', w'.ownsRow base e 1 v' m.length (m.map (Value.int .i64)) → Mod [b0] w w' → wpList P ops Q rest (a.put o.dst v') w') : wpList P ops Q (o :: rest) a w := by
  by_cases hm : m = []
  · subst hm
    obtain ⟨p, c, rfl⟩ := hv.len
    have src : Src P i.size t (.slice p 0 c) 0 [] w := by
      cases p with
      | none => exact Src.ofNil w ht c
      | some ad => exact Src.ofSlice w ht ad 0 c [] (by simp) (fun _ _ h => by simp at h) (fun _ h => by cases h)
    have hr := run_append_nothing w t t o.type e i ht hi (some ⟨b0, 0, none⟩) 0 c0 (Nat.zero_le _) _ src
    refine wpList_plain hgd fun K hK => ?_
    unfold Oper.wp execOp
    simp only [List.length_nil] at hx
    simp only [ho, resolve, invoke, builtin, Sem.run_bind, Sem.run_pure, Result.andThen_ok, List.map_toArray, List.map_cons, List.map_nil, hs, hx, hr]
    exact hK _ _ (h _ _ hown (Mod.refl _ _))
  · have hpos : 0 < m.length := List.length_pos_iff.2 hm
    rcases hv.2 with ⟨p, c, _, rfl⟩ | ⟨b, off, cap, rfl, hb, hc⟩
    · exact absurd rfl hm
    · refine wpList_append_lies w hgd s x t ho base e i (.int .i64 0) 1 8 ht hi hz hsize hby rfl (by decide) _ 0 [] hs hown ⟨b, off, none⟩ m.length cap (m.map (Value.int .i64)) hx (by simp) ?_ (by simp [Value.oneCell']) hpos (by unfold maxLen; omega) (by omega) hbase ?_
      · intro j u hu
        obtain ⟨hj, rfl⟩ := List.getElem?_eq_some_iff.1 hu
        rw [List.length_map] at hj
        have := hc j hj
        rw [Addr.add_lit, this]
        simp [hj]
      · intro g cap' w' hown hg hat
        simp only [Nat.zero_add, List.nil_append] at hown ⊢
        exact h _ _ hown ((Mod.refl [b0] w).grown hg (fun k e _ => by simp [Value.ownBlock] at e; simp [e]))
end
def BCopyRel (w : World) (a : List Int) (u i : Value) (wr : World) : Prop := ∃ k : Nat, k ≤ a.length ∧ i = .int .i64 k ∧ wr.ownsRow w.heap.size 3 1 u k ((a.take k).map (Value.int .i64)) ∧ Mod [] w wr
set_option maxHeartbeats 1000000 in
set_option maxRecDepth 100000 in
theorem bcopy_any {w : World} {u : Value} {a : List Int} (hu : RdN w u a) (hs : a.length * 8 ≤ 140737488355328) :
    Calls Tryz.prog 58 #[u] w fun e w' => NewI w a e w' := by
  obtain ⟨i0, hi0, hz0, hs0, hb0⟩ := info_parts info_int
  have h1 : a.length ≤ 9223372036854775807 := hu.1
  obtain ⟨p, c, rfl⟩ := hu.len
  go_enter Tryz.func58, Tryz.ntmps58
  go_wp2_with fail
  go_loopw [3, 4] (fun u i wr => BCopyRel w a u i wr) (fun _ i _ => a.length - (intOf i).toNat)
  case atStart => exact ⟨0, Nat.zero_le _, rfl, World.ownsRow_nil _ _ _ _, Mod.refl _ _⟩
  case round =>
    obtain ⟨k, hk, rfl, hown, hm⟩ := hrel
    have hwr : w.heap.size ≤ wr.heap.size := hm.size
    by_cases hlt : k < a.length
    · obtain ⟨b, o, rfl, hb, c1⟩ := (hu.mod hm (by simp)).at_ k hlt
      have hnx : (a.take k).map (Value.int .i64) ++ [.int .i64 (a.getD k 0)] = (a.take (k + 1)).map (Value.int .i64) := by
        rw [List.take_succ_eq_append_getElem hlt, List.map_append, List.map_singleton]
        have e : a.getD k 0 = a[k] := by simp [hlt]
        rw [e]
      have HN := hide hnx
      clear hnx
      generalize a.getD k 0 = x at c1 HN
      have i1 : (0 : Int) ≤ (k : Int) := by omega
      have i2 : (k : Int) < (a.length : Int) := by omega
      clear hu
      go_wp2_with (at_builtin; refine wpList_append_own _ rfl _ _ 38 rfl w.heap.size 3 i0 _ 1 8 Tryz.underlying38 hi0 hz0 hs0 hb0 rfl (by decide) _ _ _ rfl (hown.alloc _) ⟨wr.heap.size, 0, none⟩ 1 1 [.int .i64 x] rfl rfl (World.news_of_block (cs := #[.int .i64 x]) (t := 3) (fr := (0, 0)) (heap_alloc_new wr _)) (by simp [Value.oneCell']) (by unfold maxLen; omega) (by omega) (by simp; omega) ?_; intro u' w1 ho hg _)
      have hm1 := (hm.alloc _).grown hg (fun q e hq => absurd hq (by have := (hown.lt q e).1; omega))
      rw [HN.out] at ho
      clear hown hg c1
      go_wp2_with fail
      go_roundw
      case rel => exact ⟨k + 1, by omega, by go_num, ho, hm1⟩
      case measure => simp [intOf]; omega
    · obtain rfl : k = a.length := by omega
      rw [List.take_length] at hown
      have hv : ∃ p c, u3 = .slice p a.length c := (rdN_of_row hown).len
      obtain ⟨p', c', rfl⟩ := hv
      clear hu
      go_wp2_with fail
      go_ret
      exact ⟨_, rfl, hown, hm⟩
set_option maxRecDepth 100000 in
theorem copyG_any {w : World} {g : Grt} {v : Value} (hv : RdN w v g.stamp) (hs : g.stamp.length * 8 ≤ 140737488355328) :
    Calls Tryz.prog 46 #[aggG g v] w fun e w' => NewG w g e w' := by
  obtain ⟨id, ho, pa, mo, st, te⟩ := g
  simp only at hv hs
  unfold aggG cellsG NewG
  simp only
  have g2 := ((Gr.refl w).alloc (.cells #[.int .i64 id, .int .i64 ho, .string pa, .int .i64 mo, v, .int .i64 te] 40)).alloc (.cells #[.int .i64 0, .int .i64 0, .string { data := #[] }, .int .i64 0, .slice none 0 0, .int .i64 0] 40)
  have b1 := blk_alloc (heap_alloc_new w (.cells #[.int .i64 id, .int .i64 ho, .string pa, .int .i64 mo, v, .int .i64 te] 40)) (.cells #[.int .i64 0, .int .i64 0, .string { data := #[] }, .int .i64 0, .slice none 0 0, .int .i64 0] 40)
  have b2 := heap_alloc_new (w.alloc (.cells #[.int .i64 id, .int .i64 ho, .string pa, .int .i64 mo, v, .int .i64 te] 40)) (.cells #[.int .i64 0, .int .i64 0, .string { data := #[] }, .int .i64 0, .slice none 0 0, .int .i64 0] 40)
  have hv2 := hv.gr g2
  have e2 : (w.alloc (.cells #[.int .i64 id, .int .i64 ho, .string pa, .int .i64 mo, v, .int .i64 te] 40)).heap.size = w.heap.size + 1 := by simp
  rw [e2] at b2
  have B := hide (And.intro b1 (And.intro b2 g2))
  have hcl := bcopy_any hv2 hs
  clear b1 b2 hv g2 hv2
  go_enter Tryz.func46, Tryz.ntmps46
  go_wp2_with fail
  refine hcl.mono ?_
  rintro e w2 ⟨v', rfl, ho, hm⟩
  obtain ⟨b1, b2, g2⟩ := B.out
  have c1 := hm.at_ b1 (by simp)
  have c2 := hm.at_ b2 (by simp)
  have hm0 := (g2.mod []).then hm
  have ho' : w2.ownsRow w.heap.size 3 1 v' st.length (st.map (Value.int .i64)) := row_base ho g2.size
  have ho2 : ∀ k, k ∈ ob v' → w.heap.size + 1 < k := fun k hk => by have := (ob_of_row ho k hk).1; simp at this; omega
  have HO2 := hide ho2
  obtain ⟨p', c', hv'⟩ := (rdN_of_row ho').len
  subst hv'
  have C := hide (And.intro c1 c2)
  have C1 := blk_cell c1
  have C2 := blk_cell c2
  have F1 := blk_free c1
  have F2 := blk_free c2
  have hb2 : w.heap.size + 1 < w2.heap.size := lt_of_block c2
  clear B b1 b2 e2 hcl hm ho g2 ho2 c1 c2
  go_wp2_with fail
  have q := stL_all (blk_other C.out.2 (a := ⟨w.heap.size, 4, none⟩) (by simp) (.slice p' st.length c')) [.int .i64 id, .int .i64 ho, .string pa, .int .i64 mo, .slice p' st.length c', .int .i64 te] rfl
  have qm := stL_mod (S := [w.heap.size, w.heap.size + 1]) (w0 := w2) (r := w.heap.size + 1) (fun _ => by simp) [.int .i64 id, .int .i64 ho, .string pa, .int .i64 mo, .slice p' st.length c', .int .i64 te] 0 _ ((Mod.refl [w.heap.size, w.heap.size + 1] w2).setCell (p := ⟨w.heap.size, 4, none⟩) (fun _ => by simp) (.slice p' st.length c'))
  refine bodyPost_ret (v := .agg #[.int .i64 id, .int .i64 ho, .string pa, .int .i64 mo, .slice p' st.length c', .int .i64 te]) (res_cell1 Tryz.results46 _ _ rfl q Tryz.isAgg40 Tryz.sizeOf40) rfl ⟨_, rfl, ?_, ?_⟩
  · exact qm.row ho' (fun k hk => by have := HO2.out k (by simpa [ob] using hk); simp; omega)
  · exact hm0.trans qm (by simp) (fun x hx hlt => by simp at hx; omega)
theorem mod_fresh0 {W W' W2 : World} {S : List Nat} (m : Mod [] W W') (m2 : Mod S W' W2) (hS : ∀ k, k ∈ S → W.heap.size ≤ k) : Mod [] W W2 := m.trans m2 (fun _ x _ => x) (fun x hx hlt => absurd (hS x hx) (by omega))
/-- a record whose lists are rows of its own -/
def NewR (w : World) (r : Rcd) (e : Ending) (w' : World) : Prop := ∃ p1 n1 c1 p2 n2 c2, e = .returned (aggR r (.slice p1 n1 c1) (.slice p2 n2 c2)) ∧ w'.ownsRow w.heap.size 3 1 (.slice p1 n1 c1) r.grant.stamp.length (r.grant.stamp.map (Value.int .i64)) ∧ w'.ownsRow w.heap.size 3 1 (.slice p2 n2 c2) r.stamp.length (r.stamp.map (Value.int .i64)) ∧ (∀ k, k ∈ ob (.slice p1 n1 c1) → k ∉ ob (.slice p2 n2 c2)) ∧ Mod [] w w'
set_option maxHeartbeats 2000000 in
set_option maxRecDepth 100000 in
theorem ownRec_any {w : World} {r : Rcd} {sv tv : Value} (hs : RdN w sv r.grant.stamp) (ht : RdN w tv r.stamp) (h1 : r.grant.stamp.length * 8 ≤ 140737488355328) (h2 : r.stamp.length * 8 ≤ 140737488355328) :
    Calls Tryz.prog 15 #[aggR r sv tv] w fun e w' => NewR w r e w' := by
  obtain ⟨i0, hi0, hz0, hs0, hb0⟩ := info_parts info_int
  obtain ⟨kd, ⟨gi, gh, gp, gm, gs, gt⟩, ri, rs, rn, rb, rl⟩ := r
  simp only at hs ht h1 h2
  obtain ⟨q1, d1, hsv⟩ := hs.len
  obtain ⟨q2, d2, htv⟩ := ht.len
  obtain ⟨m1, hm1⟩ : ∃ n, gs.length = n := ⟨_, rfl⟩
  obtain ⟨m2, hm2⟩ : ∃ n, rs.length = n := ⟨_, rfl⟩
  rw [hm1] at hsv
  rw [hm2] at htv
  subst hsv htv
  obtain ⟨W1, hW1⟩ : ∃ W1, W1 = (w.alloc (.cells #[.int .i64 kd, .int .i64 gi, .int .i64 gh, .string gp, .int .i64 gm, .slice q1 m1 d1, .int .i64 gt, .int .i64 ri, .slice q2 m2 d2, .int .i64 rn, .int .i64 rb, .int .i64 rl] 42 (0, 0))).alloc (.cells #[.int .i64 0, .int .i64 0, .int .i64 0, .string { data := #[] }, .int .i64 0, .slice none 0 0, .int .i64 0, .int .i64 0, .slice none 0 0, .int .i64 0, .int .i64 0, .int .i64 0] 42 (0, 0)) := ⟨_, rfl⟩
  have ma : Mod [] w W1 := by rw [hW1]; exact ((Mod.refl _ _).alloc _).alloc _
  have ba : W1.heap[w.heap.size]? = some (.cells #[.int .i64 kd, .int .i64 gi, .int .i64 gh, .string gp, .int .i64 gm, .slice q1 m1 d1, .int .i64 gt, .int .i64 ri, .slice q2 m2 d2, .int .i64 rn, .int .i64 rb, .int .i64 rl] 42 (0, 0)) := by rw [hW1]; exact blk_alloc (heap_alloc_new w _) _
  have bz : W1.heap[w.heap.size + 1]? = some (.cells #[.int .i64 0, .int .i64 0, .int .i64 0, .string { data := #[] }, .int .i64 0, .slice none 0 0, .int .i64 0, .int .i64 0, .slice none 0 0, .int .i64 0, .int .i64 0, .int .i64 0] 42 (0, 0)) := by
    rw [hW1]
    have := heap_alloc_new (w.alloc (.cells #[.int .i64 kd, .int .i64 gi, .int .i64 gh, .string gp, .int .i64 gm, .slice q1 m1 d1, .int .i64 gt, .int .i64 ri, .slice q2 m2 d2, .int .i64 rn, .int .i64 rb, .int .i64 rl] 42 (0, 0))) (.cells #[.int .i64 0, .int .i64 0, .int .i64 0, .string { data := #[] }, .int .i64 0, .slice none 0 0, .int .i64 0, .int .i64 0, .slice none 0 0, .int .i64 0, .int .i64 0, .int .i64 0] 42 (0, 0))
    simpa using this
  have hz1 : W1.heap.size = w.heap.size + 2 := by rw [hW1]; simp
  have hcg := copyG_any (w := W1) (g := ⟨gi, gh, gp, gm, gs, gt⟩) (v := .slice q1 m1 d1) (hs.mod ma (by simp)) h1
  unfold aggG cellsG at hcg
  simp only at hcg
  have A := blk_cell ba
  have HB := hide (And.intro ba (And.intro bz (And.intro ma hz1)))
  have HT := hide (And.intro ht (And.intro hm2 hm1))
  clear ba bz ma hz1 hs ht hm1 hm2
  unfold aggR cellsR
  simp only
  go_enter Tryz.func15, Tryz.ntmps15
  go_upto_region 1 with fail
  rw [← hW1]
  clear hW1
  go_upto_region 2 with (
    go_at_call 46
    refine hcg.mono ?_
    rintro e w2 ⟨v2, rfl, hr2, hm2⟩
    obtain ⟨p1, c1, hv2⟩ := (rdN_of_row hr2).len
    simp only at hv2
    rw [HT.out.2.2] at hv2
    subst hv2
    simp only [aggG, cellsG]
    have ba2 := hm2.at_ HB.out.1 (by simp)
    have A2 := blk_cell ba2
    have F2 := blk_free ba2
    have H2 := hide (And.intro hr2 (And.intro hm2 ba2))
    clear hr2 hm2 ba2 A hcg)
  obtain ⟨W3, hW3⟩ : ∃ W3, W3 = ((((((w2.setCell ⟨w.heap.size, 1, none⟩ (.int .i64 gi)).setCell ⟨w.heap.size, 2, none⟩ (.int .i64 gh)).setCell ⟨w.heap.size, 3, none⟩ (.string gp)).setCell ⟨w.heap.size, 4, none⟩ (.int .i64 gm)).setCell ⟨w.heap.size, 5, none⟩ (.slice p1 m1 c1)).setCell ⟨w.heap.size, 6, none⟩ (.int .i64 gt)) := ⟨_, rfl⟩
  rw [← hW3]
  clear A2 F2
  have ba3 : W3.heap[w.heap.size]? = some (.cells #[.int .i64 kd, .int .i64 gi, .int .i64 gh, .string gp, .int .i64 gm, .slice p1 m1 c1, .int .i64 gt, .int .i64 ri, .slice q2 m2 d2, .int .i64 rn, .int .i64 rb, .int .i64 rl] 42 (0, 0)) := by
    rw [hW3]; exact blk_set (blk_set (blk_set (blk_set (blk_set (blk_set H2.out.2.2 1 _) 2 _) 3 _) 4 _) 5 _) 6 _
  have hs3 : Mod [w.heap.size] w2 W3 := by rw [hW3]; exact (((((((Mod.refl _ _).setCell (fun _ => by simp) _).setCell (fun _ => by simp) _).setCell (fun _ => by simp) _).setCell (fun _ => by simp) _).setCell (fun _ => by simp) _).setCell (fun _ => by simp) _)
  have hm13 : Mod [] w W3 := mod_fresh0 (HB.out.2.2.1.then H2.out.2.1) hs3 (by simp)
  have hr3 := hs3.row H2.out.1 (fun x hx e => by have := (ob_of_row H2.out.1 x (by simpa [ob] using hx)).1; have := HB.out.2.2.2; simp at e; omega)
  have hz2 := H2.out.2.1.size
  have hz3 := hs3.size
  have A3 := blk_cell ba3
  have hlt3 : w.heap.size < W3.heap.size := lt_of_block ba3
  obtain ⟨W4, hW4⟩ : ∃ W4, W4 = W3.alloc (.cells #[] 3 (0, 0)) := ⟨_, rfl⟩
  have hm34 : Mod [] W3 W4 := by rw [hW4]; exact (Mod.refl _ _).alloc _
  have hown4 : W4.ownsRow W3.heap.size 3 1 (.slice (some ⟨W3.heap.size, 0, none⟩) 0 0) 0 [] := by rw [hW4]; exact World.ownsRow_made W3 #[] 0 (Nat.le_refl _) (Nat.zero_le _) rfl
  have hrt : RdN W4 (.slice q2 m2 d2) rs := HT.out.1.mod (hm13.then hm34) (by simp)
  have hz4 : W4.heap.size = W3.heap.size + 1 := by rw [hW4]; simp
  have HB2 := hide (And.intro ba3 (And.intro (HB.out.2.1) hr3))
  have HM := hide (And.intro hm13 (And.intro hm34 (And.intro hz2 (And.intro hz3 (And.intro hz4 hs3)))))
  clear ba3 hs3 hm13 hr3 hz2 hz3 hm34 hW3
  go_wp2_with (
    at_builtin
    rw [← hW4]
    refine wpList_append_big W4 rfl _ _ 38 rfl W3.heap.size 3 i0 Tryz.underlying38 hi0 hz0 hs0 hb0 rfl hown4 (by have := HM.out.2.2.2.2.1; omega) rfl hrt h2 ?_
    intro v5 w5 ho5 hm5
    obtain ⟨p2, c2, hv5⟩ := (rdN_of_row ho5).len
    rw [HT.out.2.1] at hv5
    subst hv5
    have ba5 := hm5.at_ (HM.out.2.1.at_ HB2.out.1 (by simp)) (by have := HM.out.1.size; have := HM.out.2.2.1; have := HM.out.2.2.2.1; have := HB.out.2.2.2; simp; omega)
    have A5 := blk_cell ba5
    have F5 := blk_free ba5
    have bz5 := hm5.at_ (HM.out.2.1.at_ (HM.out.2.2.2.2.2.at_ (H2.out.2.1.at_ HB2.out.2.1 (by simp)) (by simp)) (by simp)) (by have := HM.out.2.2.1; have := HM.out.2.2.2.1; have := HB.out.2.2.2; simp; omega)
    have Z5 := blk_cell bz5
    have G5 := blk_free bz5
    have H5 := hide (And.intro ho5 (And.intro hm5 (And.intro ba5 bz5)))
    clear ho5 hm5 ba5 bz5 A3 hown4 hrt)
  obtain ⟨ho5, hm5, ba5, bz5⟩ := H5.out
  obtain ⟨hm13, hm34, hz2, hz3, hz4, hs3⟩ := HM.out
  obtain ⟨ba3, bz1, hr3⟩ := HB2.out
  have hz1 := HB.out.2.2.2
  have q' := stL_all (blk_other bz5 (a := ⟨w.heap.size, 8, none⟩) (by simp) (.slice p2 m2 c2)) [.int .i64 kd, .int .i64 gi, .int .i64 gh, .string gp, .int .i64 gm, .slice p1 m1 c1, .int .i64 gt, .int .i64 ri, .slice p2 m2 c2, .int .i64 rn, .int .i64 rb, .int .i64 rl] rfl
  have qm := stL_mod (S := [w.heap.size, w.heap.size + 1]) (w0 := w5) (r := w.heap.size + 1) (fun _ => by simp) [.int .i64 kd, .int .i64 gi, .int .i64 gh, .string gp, .int .i64 gm, .slice p1 m1 c1, .int .i64 gt, .int .i64 ri, .slice p2 m2 c2, .int .i64 rn, .int .i64 rb, .int .i64 rl] 0 _ ((Mod.refl [w.heap.size, w.heap.size + 1] w5).setCell (p := ⟨w.heap.size, 8, none⟩) (fun _ => by simp) (.slice p2 m2 c2))
  have hob1 : ∀ k, k ∈ ob (.slice p1 m1 c1) → w.heap.size + 2 ≤ k ∧ k < W3.heap.size := fun k hk => by
    have h := ob_of_row hr3 k hk
    omega
  have hob2 : ∀ k, k ∈ ob (.slice p2 m2 c2) → W3.heap.size ≤ k := fun k hk => (ob_of_row ho5 k hk).1
  refine bodyPost_ret (v := .agg #[.int .i64 kd, .int .i64 gi, .int .i64 gh, .string gp, .int .i64 gm, .slice p1 m1 c1, .int .i64 gt, .int .i64 ri, .slice p2 m2 c2, .int .i64 rn, .int .i64 rb, .int .i64 rl]) (res_cell1 Tryz.results15 _ _ rfl q' Tryz.isAgg42 Tryz.sizeOf42) rfl ⟨p1, m1, c1, p2, m2, c2, rfl, ?_, ?_, fun k h1 h2 => ?_, ?_⟩
  · refine World.ownsRow.mono (qm.row (hm5.row (hm34.row hr3 (by simp)) (fun k hk e => ?_)) (fun k hk e => ?_)) (by omega)
    · have := hob1 k (by simpa [ob] using hk); simp at e; omega
    · have := hob1 k (by simpa [ob] using hk); simp at e; omega
  · refine World.ownsRow.mono (qm.row ho5 (fun k hk e => ?_)) (by omega)
    have := hob2 k (by simpa [ob] using hk); simp at e; omega
  · have := hob1 k h1; have := hob2 k h2; omega
  · exact ((hm13.then hm34).trans hm5 (fun _ x _ => x) (fun x hx hlt => by simp at hx; omega)).trans qm (fun _ x _ => x) (fun x hx hlt => by simp at hx; omega)
end Go.Proofs.YtpphoeimakjjdaaGreatDoor
