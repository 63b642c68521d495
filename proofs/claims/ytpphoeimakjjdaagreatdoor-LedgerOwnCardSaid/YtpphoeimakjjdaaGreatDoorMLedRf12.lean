/-
  WALKS: the document's layer 11: Apply: what a record does.
-/
import Derived.Test.YtpphoeimakjjdaaGreatDoorMWc
import Derived.Test.YtpphoeimakjjdaaGreatDoorMLedRf6
import Derived.Test.YtpphoeimakjjdaaGreatDoorMLedRf11
namespace Go.Proofs.YtpphoeimakjjdaaGreatDoor
open Go.RowKit

theorem row_not {w : World} {base sz n b : Nat} {T T' : TypeId} {v : Value} {xs : List Value} {cs : Array Value} {fr : Nat × Nat} (h : w.ownsRow base T sz v n xs) (hb : w.heap[b]? = some (.cells cs T' fr)) (hT : T' ≠ T) : b ∉ ob v := by
  intro hm
  rcases h.2 with ⟨rfl, -⟩ | ⟨g, cap, cur, rfl, _, hg, _⟩
  · simp [ob, Value.ownBlock] at hm
  · simp only [ob, Value.ownBlock, Option.toList, List.mem_singleton] at hm
    subst hm
    rw [hb] at hg
    simp only [Option.some.injEq, Obj.cells.injEq] at hg
    exact hT hg.2.1
/-- blocks of books are no rows of grants -/
theorem GrM.other {w w' : World} {base : Nat} {v : Value} {lv : List (Grt × Value)} (h : GrM w base v lv) {S : List Nat} (m : Mod S w w') (hS : ∀ k, k ∈ S → ∃ cs, w.heap[k]? = some (.cells cs 34 (0, 0))) : GrM w' base v lv := by
  refine ⟨m.row h.row (fun k hk e => ?_), fun p hp => ⟨m.row (h.st p hp).1 (fun k hk e => ?_), (h.st p hp).2⟩⟩
  · obtain ⟨cs, hb⟩ := hS k e
    exact row_not h.row hb (by decide) (by simp [ob, hk])
  · obtain ⟨cs, hb⟩ := hS k e
    exact row_not (h.st p hp).1 hb (by decide) (by simp [ob, hk])
theorem apply_zero2 {b : Bk} {r : Rcd} (h : (applyB b r).2 ≠ 0) : applyB b r = (Bk.zero, (applyB b r).2) := by
  unfold applyB at h ⊢
  split
  · rfl
  · split
    · rfl
    · rename_i h1 h2
      rw [if_neg h1, if_neg h2] at h
      cases hc : changeB b r with
      | none => rfl
      | some c => rw [hc] at h; exact absurd rfl h
theorem apply_ok {b : Bk} {r : Rcd} (h : (applyB b r).2 = 0) : ∃ c, applyB b r = (c, 0) ∧ changeB b r = some c ∧ validB b = true ∧ mayB r = true ∧ limitI b r.kind = 0 := by
  unfold applyB at h ⊢
  split
  · rename_i h1
    rw [if_pos h1] at h
    cases h
  · rename_i h1
    rw [if_neg h1] at h
    have h1' : validB b = true ∧ mayB r = true := by
      cases hv : validB b <;> cases hm : mayB r <;> simp [hv, hm] at h1 ⊢
    split
    · rename_i h2
      rw [if_pos h2] at h
      exact absurd h h2
    · rename_i h2
      rw [if_neg h2] at h
      cases hc : changeB b r with
      | none => rw [hc] at h; cases h
      | some c => exact ⟨c, rfl, rfl, h1'.1, h1'.2, by simpa using h2⟩
theorem chg_of {b c : Bk} {r : Rcd} (h : changeB b r = some c) : (r.kind = 1 → c = { b with next := r.next, boots := r.boots }) ∧ (r.kind = 2 → c = { b with longest := r.longest }) ∧ (r.kind = 3 → c = { b with grants := putG b.grants r.grant }) ∧ (r.kind = 4 → c = { b with next := b.next + 1, grants := putG b.grants r.grant }) ∧
    (r.kind = 5 → c = { b with next := b.next + 1, grants := setG b.grants r.id r.stamp } ∧ hasG b.grants r.id = true) ∧ (r.kind = 6 → c = { b with grants := delG b.grants r.id } ∧ hasG b.grants r.id = true) ∧ (r.kind = 7 → c = { b with boots := b.boots + 1 }) := by
  unfold changeB at h
  refine ⟨fun k => ?_, fun k => ?_, fun k => ?_, fun k => ?_, fun k => ?_, fun k => ?_, fun k => ?_⟩
  all_goals rw [k] at h; simp at h
  · exact h.2.symm
  · exact h.2.symm
  · exact h.2.symm
  · exact h.2.symm
  · exact ⟨h.2.symm, h.1.1⟩
  · exact ⟨h.2.symm, h.1⟩
  · exact h.symm
theorem may_grant_stm {r : Rcd} (h : mayB r = true) (hk : r.kind = 3 ∨ r.kind = 4) : stmB r.grant.stamp = true := by
  unfold mayB at h
  rcases hk with hk | hk
  all_goals rw [hk] at h; simp at h
  · exact (grant_iff.1 h.1).2.2.2.2.1
  · exact (grant_iff.1 h.2.1).2.2.2.2.1
theorem may_stm5 {r : Rcd} (h : mayB r = true) (hk : r.kind = 5) : stmB r.stamp = true := by
  unfold mayB at h
  rw [hk] at h
  simp at h
  exact h.2.1
theorem pos_eqR {l : List Grt} (hs : SrtG l) {k : Nat} {id : Int} (hk : k < l.length) (h : (l.getD k default).id = id) : posG l id = k := by
  refine posG_at (by omega) (fun j hj => ?_) (fun _ => by rw [h]; omega)
  have := List.pairwise_iff_getElem.1 hs j k (by omega) hk hj
  rw [← h]
  simpa [show j < l.length by omega, hk] using this
/-- the new book's parts lie in new memory, the boxes that are written are boxes of books -/
theorem AppTo.done {w w6 wf : World} {base b7 z : Nat} {t : Bk × Int} {u : Value} {nx bo lo : Int} {lv : List (Grt × Value)} {gs : List Grt} (ht : t = (⟨nx, bo, lo, gs⟩, 0)) (h : GrM w6 base u lv) (he : gs = lv.map Prod.fst) (hbase : w.heap.size ≤ base) (m6 : Mod [] w w6) (mS : Mod [b7, z] w6 wf)
    {c7 cz : Array Value} (h7 : w6.heap[b7]? = some (.cells c7 34 (0, 0))) (hz : w6.heap[z]? = some (.cells cz 34 (0, 0))) (hb7 : w.heap.size ≤ b7) (hbz : w.heap.size ≤ z) :
    AppTo w t (.returned (.tuple #[.agg #[.int .i64 nx, .int .i64 bo, .int .i64 lo, u], .int .i64 0])) wf := by
  subst ht
  refine ⟨u, lv, rfl, ⟨(h.other mS (fun k hk => ?_)).base hbase, he⟩, mod_fresh0 m6 mS (fun k hk => ?_)⟩
  · simp only [List.mem_cons, List.mem_nil_iff, or_false] at hk
    rcases hk with rfl | rfl
    · exact ⟨_, h7⟩
    · exact ⟨_, hz⟩
  · simp only [List.mem_cons, List.mem_nil_iff, or_false] at hk
    rcases hk with rfl | rfl
    · exact hb7
    · exact hbz
set_option maxHeartbeats 4000000 in
set_option maxRecDepth 100000 in
set_option linter.unusedSimpArgs false in
theorem rapply_any {w : World} {base : Nat} {gv sv tv : Value} {b : Bk} {lv : List (Grt × Value)} {r : Rcd} (h : BkM w base gv b lv) (hps : ∀ p, p ∈ lv → p.1.path.size ≤ 9223372036854775806) (hs : RdN w sv r.grant.stamp) (ht : RdN w tv r.stamp) (hp : r.grant.path.size ≤ 9223372036854775806) :
    Calls Tryz.prog 18 #[aggB b gv, aggR r sv tv] w fun e w' => AppTo w (applyB b r) e w' := by
  have hfa := fun (W : World) (m : Mod [] w W) => rfault_any (b := b) ⟨h.gr.mod m (by simp), h.eq⟩ hps (hs.mod m (by simp)) (ht.mod m (by simp)) hp
  obtain ⟨kd, ⟨gi, gh, gp, gm, gs, gt⟩, ri, rs, rn, rb, rl⟩ := r
  obtain ⟨nx, bo, lo, bg⟩ := b
  simp only at hs ht hp
  obtain rfl : bg = lv.map Prod.fst := h.eq
  obtain ⟨q2, c2, rfl⟩ := ht.len
  obtain ⟨q1, c1, rfl⟩ := hs.len
  obtain ⟨q0, c0, rfl, hmx⟩ := h.gr.shape
  obtain ⟨F, hF⟩ : ∃ F, (applyB ⟨nx, bo, lo, lv.map Prod.fst⟩ ⟨kd, ⟨gi, gh, gp, gm, gs, gt⟩, ri, rs, rn, rb, rl⟩).2 = F := ⟨_, rfl⟩
  rw [hF] at hfa
  obtain ⟨CB, hCB⟩ : ∃ CB : Array Value, CB = #[.int .i64 nx, .int .i64 bo, .int .i64 lo, .slice q0 lv.length c0] := ⟨_, rfl⟩
  obtain ⟨CR, hCR⟩ : ∃ CR : Array Value, CR = #[.int .i64 kd, .int .i64 gi, .int .i64 gh, .string gp, .int .i64 gm, .slice q1 gs.length c1, .int .i64 gt, .int .i64 ri, .slice q2 rs.length c2, .int .i64 rn, .int .i64 rb, .int .i64 rl] := ⟨_, rfl⟩
  obtain ⟨W0, hW0⟩ : ∃ W0, W0 = ((w.alloc (.cells CB 34 (0, 0))).alloc (.cells CR 42 (0, 0))).alloc (.cells #[.int .i64 0, .int .i64 0, .int .i64 0, .slice none 0 0] 34 (0, 0)) := ⟨_, rfl⟩
  have hb0 : W0.heap[w.heap.size]? = some (.cells CB 34 (0, 0)) := by rw [hW0]; exact blk_alloc (blk_alloc (heap_alloc_new w _) _) _
  have hr0 : W0.heap[w.heap.size + 1]? = some (.cells CR 42 (0, 0)) := by
    rw [hW0]
    have := heap_alloc_new (w.alloc (.cells CB 34 (0, 0))) (.cells CR 42 (0, 0))
    exact blk_alloc (by simpa using this) _
  have hz0 : W0.heap[w.heap.size + 2]? = some (.cells #[.int .i64 0, .int .i64 0, .int .i64 0, .slice none 0 0] 34 (0, 0)) := by
    rw [hW0]
    exact alloc_hereA (by simp)
  have hm0 : Mod [] w W0 := by rw [hW0]; exact (((Mod.refl _ _).alloc _).alloc _).alloc _
  have hF0 : ∀ W, Mod [] W0 W → (∀ i, W.cell? ⟨w.heap.size, i, none⟩ = CB[i]?) ∧ (∀ i, W.cell? ⟨w.heap.size + 1, i, none⟩ = CR[i]?) ∧ W.heap[w.heap.size + 2]? = some (.cells #[.int .i64 0, .int .i64 0, .int .i64 0, .slice none 0 0] 34 (0, 0)) := fun W m => ⟨blk_cell (m.at_ hb0 (by simp)), blk_cell (m.at_ hr0 (by simp)), m.at_ hz0 (by simp)⟩
  have hs0 : w.heap.size + 3 = W0.heap.size := by rw [hW0]; simp
  rw [hCB, hCR] at hF0 hW0
  clear hb0 hr0 hz0 hCB hCR
  have HF := hide hF0
  have HM := hide (And.intro hm0 hs0)
  have hfa0 := hfa _ hm0
  have hcp := fun (W : World) (m : Mod [] w W) (hn : lv.length ≤ 1000) (hst : ∀ p, p ∈ lv → p.1.stamp.length * 8 ≤ 140737488355328) => rcopyB_any (b := ⟨nx, bo, lo, lv.map Prod.fst⟩) ⟨h.gr.mod m (by simp), rfl⟩ hn hst
  have HS := hide (And.intro hs ht)
  clear hF0 hm0 hs0 hs ht h hps hp hfa
  unfold aggB aggR cellsR at hfa0
  unfold aggB aggR cellsR
  simp only at hfa0 hcp ⊢
  go_enter Tryz.func18, Tryz.ntmps18
  go_upto_region 1 with fail
  rw [← hW0]
  clear hW0
  obtain ⟨B0, B1, -⟩ := HF.out _ (Mod.refl _ _)
  by_cases h0 : F = 0
  · subst h0
    obtain ⟨c, hA, hC, hV, hM, hL⟩ := apply_ok hF
    have hsm := valid_small hV rfl
    have hk := may_kind7 hM
    simp only at hk
    have HA := hide (And.intro hA (And.intro hC (And.intro hM (And.intro hsm hV))))
    clear hA hC hV hM hL hF
    go_upto_region 5 with (first
      | (go_at_call 54; refine hfa0.mono ?_; rintro e w3 ⟨rfl, m3⟩
         obtain ⟨B2, B3, -⟩ := HF.out _ m3
         have hcp3 := hcp _ (HM.out.1.then m3) (by have := HA.out.2.2.2.1.1; omega) (fun p hp => by have := (HA.out.2.2.2.1.2 p hp).1; omega)
         have H3 := hide m3
         clear m3 B0 B1 hcp)
      | (go_at_call 55; refine hcp3.mono ?_; rintro e w4 ⟨q4, n4, c4, l4, rfl, hbk, m4⟩
         obtain ⟨q', c', hv, hx4⟩ := hbk.gr.shape
         simp only [Value.slice.injEq] at hv
         obtain ⟨rfl, rfl, rfl⟩ := hv
         have H4 := hide (And.intro hbk m4)
         clear hbk m4 hcp3 B2 B3)
      | fail)
    have hz3 := H3.out.size
    have hz4 := H4.out.2.size
    have hzz := HM.out.2
    obtain ⟨W5, hW5⟩ : ∃ W5, W5 = w4.alloc (.cells #[.int .i64 nx, .int .i64 bo, .int .i64 lo, .slice q4 l4.length c4] 34 (0, 0)) := ⟨_, rfl⟩
    have hb5 : W5.heap[w4.heap.size]? = some (.cells #[.int .i64 nx, .int .i64 bo, .int .i64 lo, .slice q4 l4.length c4] 34 (0, 0)) := by rw [hW5]; exact heap_alloc_new w4 _
    have m45 : Mod [] w4 W5 := by rw [hW5]; exact (Mod.refl _ _).alloc _
    have hgm5 : GrM W5 w3.heap.size (.slice q4 l4.length c4) l4 := H4.out.1.gr.mod m45 (by simp)
    have heq4 : lv.map Prod.fst = l4.map Prod.fst := H4.out.1.eq
    have m05 : Mod [] W0 W5 := (H3.out.then H4.out.2).then m45
    have hF5 : ∀ W, Mod [] W5 W → (∀ i, W.cell? ⟨w4.heap.size, i, none⟩ = (#[.int .i64 nx, .int .i64 bo, .int .i64 lo, .slice q4 l4.length c4] : Array Value)[i]?) ∧ (∀ i, W.cell? ⟨w.heap.size + 1, i, none⟩ = (#[.int .i64 kd, .int .i64 gi, .int .i64 gh, .string gp, .int .i64 gm, .slice q1 gs.length c1, .int .i64 gt, .int .i64 ri, .slice q2 rs.length c2, .int .i64 rn, .int .i64 rb, .int .i64 rl] : Array Value)[i]?) ∧ (∀ i, W.frozen? ⟨w4.heap.size, i, none⟩ = false) ∧
        (∀ i, W.frozen? ⟨w.heap.size + 2, i, none⟩ = false) ∧ (∀ i, W.cell? ⟨w.heap.size + 2, i, none⟩ = (#[.int .i64 0, .int .i64 0, .int .i64 0, .slice none 0 0] : Array Value)[i]?) := fun W m => ⟨blk_cell (m.at_ hb5 (by simp)), (HF.out _ (m05.then m)).2.1, blk_free (m.at_ hb5 (by simp)), blk_free (HF.out _ (m05.then m)).2.2, blk_cell (HF.out _ (m05.then m)).2.2⟩
    have HF5 := hide hF5
    have H5 := hide (And.intro hgm5 (And.intro heq4 (And.intro (HM.out.1.then m05) (And.intro hb5 m05))))
    have hn4 : l4.length ≤ 6 := by have := congrArg List.length heq4; simp only [List.length_map] at this; have := HA.out.2.2.2.1.1; omega
    have hne : w4.heap.size ≠ w.heap.size + 2 := by omega
    have hne1 : w4.heap.size ≠ w.heap.size + 1 := by omega
    rw [← hW5]
    clear hfa0 hF5 m45 hgm5 heq4 m05 hb5 hW5
    obtain ⟨B5, B6, B7, B8, B9⟩ := HF5.out _ (Mod.refl _ _)
    have hcl : ∀ (W6 Wp : World) (base : Nat) (u : Value) (nx' bo' lo' : Int) (l : List (Grt × Value)) (gs' : List Grt), Mod [w4.heap.size] W6 Wp → Mod [] w W6 → (∃ cs, W6.heap[w4.heap.size]? = some (.cells cs 34 (0, 0))) → W6.heap[w.heap.size + 2]? = some (.cells #[.int .i64 0, .int .i64 0, .int .i64 0, .slice none 0 0] 34 (0, 0)) → c = ⟨nx', bo', lo', gs'⟩ → GrM W6 base u l → gs' = l.map Prod.fst → w.heap.size ≤ base →
        (stL Wp (w.heap.size + 2) 0 [.int .i64 nx', .int .i64 bo', .int .i64 lo', u]).heap[w.heap.size + 2]? = some (.cells #[.int .i64 nx', .int .i64 bo', .int .i64 lo', u] 34 (0, 0)) ∧ AppTo w (applyB ⟨nx, bo, lo, lv.map Prod.fst⟩ ⟨kd, ⟨gi, gh, gp, gm, gs, gt⟩, ri, rs, rn, rb, rl⟩) (.returned (.tuple #[.agg #[.int .i64 nx', .int .i64 bo', .int .i64 lo', u], .int .i64 0])) (stL Wp (w.heap.size + 2) 0 [.int .i64 nx', .int .i64 bo', .int .i64 lo', u]) := fun _ _ _ _ _ _ _ _ _ mp m h7 hz hc hg he hb =>
      ⟨stL_all (mp.at_ hz (by simp; omega)) _ rfl, AppTo.done (by rw [HA.out.1, hc]) hg he hb m (stL_mod (S := [w4.heap.size, w.heap.size + 2]) (fun _ => by simp) _ 0 _ (mp.mono (fun x hx _ => by simp at hx; simp [hx]))) h7.choose_spec hz (by omega) (by omega)⟩
    have hz5 := (HF.out _ H5.out.2.2.2.2).2.2
    have h75 := H5.out.2.2.2.1
    have HZ5 := hide (And.intro hz5 h75)
    have HCL := hide hcl
    clear hz5 h75 hcl
    have hchg := chg_of HA.out.2.1
    simp only at hchg
    rcases hk with rfl | rfl | rfl | rfl | rfl | rfl | rfl
    · go_wp2_with fail
      have mp : Mod [w4.heap.size] W5 ((W5.setCell ⟨w4.heap.size, 0, none⟩ (.int .i64 rn)).setCell ⟨w4.heap.size, 1, none⟩ (.int .i64 rb)) := ((Mod.refl _ _).setCell (fun _ => by simp) _).setCell (fun _ => by simp) _
      obtain ⟨q, ha⟩ := HCL.out _ _ _ _ _ _ _ _ _ mp H5.out.2.2.1 ⟨_, HZ5.out.2⟩ HZ5.out.1 (hchg.1 (by simp)) H5.out.1 H5.out.2.1 (by omega)
      exact bodyPost_ret (res_cell2 Tryz.results18 _ _ rfl q Tryz.isAgg34 Tryz.sizeOf34 rfl) rfl ha
    · go_wp2_with fail
      have mp : Mod [w4.heap.size] W5 (W5.setCell ⟨w4.heap.size, 2, none⟩ (.int .i64 rl)) := (Mod.refl _ _).setCell (fun _ => by simp) _
      obtain ⟨q, ha⟩ := HCL.out _ _ _ _ _ _ _ _ _ mp H5.out.2.2.1 ⟨_, HZ5.out.2⟩ HZ5.out.1 (hchg.2.1 (by simp)) H5.out.1 H5.out.2.1 (by omega)
      exact bodyPost_ret (res_cell2 Tryz.results18 _ _ rfl q Tryz.isAgg34 Tryz.sizeOf34 rfl) rfl ha
    · have hgr := may_grant_stm HA.out.2.2.1 (by simp)
      have hwi := rwith_any (w := W5) (g := ⟨gi, gh, gp, gm, gs, gt⟩) H5.out.1 (by omega) (by have := lt_of_block HZ5.out.2; omega) (HS.out.1.mod H5.out.2.2.1 (by simp)) (by have := (stm_range hgr).1; simp only at this ⊢; omega)
      unfold aggG cellsG at hwi
      simp only at hwi
      go_wp2_with (first
        | (go_at_call 56; refine hwi.mono ?_; rintro e W6 ⟨u6, s6, rfl, hmap, hgm6, -, m6⟩
           obtain ⟨q6, c6, rfl, hx6⟩ := hgm6.shape
           obtain ⟨D5, D6, D7, D8, D9⟩ := HF5.out _ m6
           have H6 := hide (And.intro hmap (And.intro hgm6 m6))
           clear hmap hgm6 m6 hwi B5 B6 B7 B8 B9)
        | fail)
      have mp : Mod [w4.heap.size] W6 (W6.setCell ⟨w4.heap.size, 3, none⟩ (.slice q6 s6.length c6)) := (Mod.refl _ _).setCell (fun _ => by simp) _
      obtain ⟨q, ha⟩ := HCL.out _ _ _ _ _ _ _ _ _ mp (H5.out.2.2.1.then H6.out.2.2) ⟨_, H6.out.2.2.at_ HZ5.out.2 (by simp)⟩ (H6.out.2.2.at_ HZ5.out.1 (by simp)) (hchg.2.2.1 (by simp)) H6.out.2.1 (by rw [H6.out.1, ← H5.out.2.1]) (by omega)
      exact bodyPost_ret (res_cell2 Tryz.results18 _ _ rfl q Tryz.isAgg34 Tryz.sizeOf34 rfl) rfl ha
    · have hgr := may_grant_stm HA.out.2.2.1 (by simp)
      have hwi := rwith_any (w := W5) (g := ⟨gi, gh, gp, gm, gs, gt⟩) H5.out.1 (by omega) (by have := lt_of_block HZ5.out.2; omega) (HS.out.1.mod H5.out.2.2.1 (by simp)) (by have := (stm_range hgr).1; simp only at this ⊢; omega)
      unfold aggG cellsG at hwi
      simp only at hwi
      have hV := heads_iff.1 (valid_iff.1 HA.out.2.2.2.2).1
      simp only at hV
      have hw : IntKind.i64.wrap (nx + 1) = nx + 1 := by rw [IntKind.wrap_i64]; omega
      clear hV
      go_wp2_with (first
        | (go_at_call 56; refine hwi.mono ?_; rintro e W6 ⟨u6, s6, rfl, hmap, hgm6, -, m6⟩
           obtain ⟨q6, c6, rfl, hx6⟩ := hgm6.shape
           obtain ⟨D5, D6, D7, D8, D9⟩ := HF5.out _ m6
           have H6 := hide (And.intro hmap (And.intro hgm6 m6))
           clear hmap hgm6 m6 hwi B5 B6 B7 B8 B9)
        | fail)
      have mp : Mod [w4.heap.size] W6 ((W6.setCell ⟨w4.heap.size, 3, none⟩ (.slice q6 s6.length c6)).setCell ⟨w4.heap.size, 0, none⟩ (.int .i64 (nx + 1))) := ((Mod.refl _ _).setCell (fun _ => by simp) _).setCell (fun _ => by simp) _
      obtain ⟨q, ha⟩ := HCL.out _ _ _ _ _ _ _ _ _ mp (H5.out.2.2.1.then H6.out.2.2) ⟨_, H6.out.2.2.at_ HZ5.out.2 (by simp)⟩ (H6.out.2.2.at_ HZ5.out.1 (by simp)) (hchg.2.2.2.1 (by simp)) H6.out.2.1 (by rw [H6.out.1, ← H5.out.2.1]) (by omega)
      exact bodyPost_ret (res_cell2 Tryz.results18 _ _ rfl q Tryz.isAgg34 Tryz.sizeOf34 rfl) rfl ha
    · have hV := heads_iff.1 (valid_iff.1 HA.out.2.2.2.2).1
      simp only at hV
      have hw : IntKind.i64.wrap (nx + 1) = nx + 1 := by rw [IntKind.wrap_i64]; omega
      clear hV
      obtain ⟨hc5, hhas⟩ := hchg.2.2.2.2.1 (by simp)
      have hst := may_stm5 HA.out.2.2.1 rfl
      simp only at hst
      have hbc := fun (W : World) (m : Mod [] W5 W) => bcopy_any (HS.out.2.mod (H5.out.2.2.1.then m) (by simp)) (by have := (stm_range hst).1; omega)
      have hfi := rfind_any (w := W5) H5.out.1 ri
      have hsrt : SrtG (l4.map Prod.fst) := by rw [← H5.out.2.1]; exact okFrom_sorted (valid_iff.1 HA.out.2.2.2.2).2.2.2
      rw [H5.out.2.1] at hhas hc5
      have HC5 := hide (And.intro hc5 (And.intro hsrt hhas))
      clear hc5 hst hsrt hhas
      go_upto_region 18 with (first
        | (go_at_call 57; refine hfi.mono ?_; rintro e w5 ⟨hf, hx⟩; rw [hx]; clear hx
           obtain ⟨i, rfl, hi, hik⟩ := find_has hf
           rw [HC5.out.2.2] at hi
           obtain ⟨k, rfl, hk, hid⟩ := hik (of_decide_eq_true hi)
           clear hf hi hik)
        | fail)
      obtain ⟨g4, hq4, hg4, hg4b, hc4, hf4, -⟩ := H5.out.1.at_ k hk
      subst hq4
      have hki : (k : Int) < (l4.length : Int) := by omega
      have hk0 : (0 : Int) ≤ (k : Int) := by omega
      have hrow : ∀ W, Mod [] W5 W → W.cell? ⟨g4, k * 6 + 4, none⟩ = some (l4.getD k default).2 ∧ W.frozen? ⟨g4, k * 6 + 4, none⟩ = false := fun W m => by
        obtain ⟨g', e', -, -, h1, h2, -⟩ := (H5.out.1.mod m (by simp)).at_ k hk
        simp only [Option.some.injEq, Addr.mk.injEq, and_true] at e'
        subst e'
        exact ⟨by rw [h1 4 (by decide)]; rfl, h2 _⟩
      have HRW := hide hrow
      have hlt4 : g4 < w4.heap.size := by have := (ob_of_row H4.out.1.gr.row g4 (by simp [ob, Value.ownBlock])).2; omega
      have h8s := Mod.refl [] W5
      refine pB 8 (Mod [] W5) (h8s.drew) ?_
      clear hc4 hf4 hrow B5 B6 B7 B8 B9
      refine pP 0 ?_
      refine pT 1 rfl [6, 7, 8] (fun w h => by obtain ⟨C0, C1, -⟩ := HF5.out _ h; go_simp; try with_reducible rfl) ?_
      refine pP 2 ?_; refine pP 3 ?_
      refine pT 4 rfl [5, 8] (fun w h => by obtain ⟨C0, C1, -⟩ := HF5.out _ h; go_simp; try with_reducible rfl) ?_
      refine pX 5 fun hT K HK => ?_
      go_simp
      refine (hbc _ hT).mono ?_; rintro e W6 ⟨v6, rfl, hown, m6⟩
      obtain ⟨q6, d6, hv6⟩ := (rdN_of_row hown).len
      subst hv6
      have hs6 := hT.size
      have hap : g4 ∉ ob (.slice q6 rs.length d6) := fun e => by have := (ob_of_row hown g4 e).1; have := H5.out.2.2.2.1; have := lt_of_block this; omega
      have H6 := hide (And.intro (World.ownsRow.mono hown (show w3.heap.size ≤ _ by have := lt_of_block HZ5.out.2; omega)) (And.intro hap (hT.then m6)))
      refine HK.out _ _ _ (hT.then m6) ?_
      clear HK K hT hown m6 hap hs6
      refine pP 6 ?_; refine pP 7 ?_
      refine pY 8 fun hT K HK => ?_
      obtain ⟨k1, k2⟩ := HRW.out _ hT
      go_simp
      refine HK.out _ _ _ ?_
      clear HK K hT k1 k2
      refine pD ?_
      obtain ⟨W7, hW7⟩ : ∃ W7, W7 = W6.setCell ⟨g4, k * 6 + 4, none⟩ (.slice q6 rs.length d6) := ⟨_, rfl⟩
      rw [← hW7]
      have m67 : Mod [g4] W6 W7 := by rw [hW7]; exact (Mod.refl _ _).setCell (fun _ => by simp) _
      have hgm7 := GrM.setSt (H5.out.1.mod H6.out.2.2 (by simp)) hk H6.out.1 H6.out.2.1
      rw [← hW7] at hgm7
      have hb7 := m67.at_ (H6.out.2.2.at_ HZ5.out.2 (by simp)) (by simp; omega)
      have hz7 := m67.at_ (H6.out.2.2.at_ HZ5.out.1 (by simp)) (by simp; omega)
      have D5 := blk_cell hb7
      have D6 := blk_free hb7
      have D7 := blk_cell hz7
      have D8 := blk_free hz7
      have hpos : posG (l4.map Prod.fst) ri = k := pos_eqR HC5.out.2.1 (by simpa using hk) (by rw [← hid]; simp [hk])
      have H7 := hide (And.intro hgm7 (And.intro hb7 (And.intro hz7 (And.intro m67 hpos))))
      clear hgm7 hb7 hz7 m67 hpos hW7
      go_wp2_with fail
      have mp : Mod [w4.heap.size] W7 (W7.setCell ⟨w4.heap.size, 0, none⟩ (.int .i64 (nx + 1))) := (Mod.refl _ _).setCell (fun _ => by simp) _
      obtain ⟨q, ha⟩ := HCL.out _ _ _ _ _ _ _ _ _ mp (mod_fresh0 (H5.out.2.2.1.then H6.out.2.2) H7.out.2.2.2.1 (by simp; omega)) ⟨_, H7.out.2.1⟩ H7.out.2.2.1 HC5.out.1 H7.out.1 (by rw [List.map_set, setG_get, H7.out.2.2.2.2]; simp [hk]) (by omega)
      exact bodyPost_ret (res_cell2 Tryz.results18 _ _ rfl q Tryz.isAgg34 Tryz.sizeOf34 rfl) rfl ha
    · obtain ⟨hc6, hhas⟩ := hchg.2.2.2.2.2.1 (by simp)
      have hwo := rwithout_any (w := W5) H5.out.1 (by omega) (by have := lt_of_block HZ5.out.2; omega) ri
      have hsrt : SrtG (l4.map Prod.fst) := by rw [← H5.out.2.1]; exact okFrom_sorted (valid_iff.1 HA.out.2.2.2.2).2.2.2
      rw [H5.out.2.1] at hhas hc6
      rw [← delG_filter hsrt hhas] at hwo
      have HC6 := hide hc6
      clear hc6 hsrt hhas
      go_wp2_with (first
        | (go_at_call 59; refine hwo.mono ?_; rintro e W6 ⟨u6, s6, rfl, hmap, hgm6, -, m6⟩
           obtain ⟨q6, c6, rfl, hx6⟩ := hgm6.shape
           obtain ⟨D5, D6, D7, D8, D9⟩ := HF5.out _ m6
           have H6 := hide (And.intro hmap (And.intro hgm6 m6))
           clear hmap hgm6 m6 hwo B5 B6 B7 B8 B9)
        | fail)
      have mp : Mod [w4.heap.size] W6 (W6.setCell ⟨w4.heap.size, 3, none⟩ (.slice q6 s6.length c6)) := (Mod.refl _ _).setCell (fun _ => by simp) _
      obtain ⟨q, ha⟩ := HCL.out _ _ _ _ _ _ _ _ _ mp (H5.out.2.2.1.then H6.out.2.2) ⟨_, H6.out.2.2.at_ HZ5.out.2 (by simp)⟩ (H6.out.2.2.at_ HZ5.out.1 (by simp)) HC6.out H6.out.2.1 H6.out.1.symm (by omega)
      exact bodyPost_ret (res_cell2 Tryz.results18 _ _ rfl q Tryz.isAgg34 Tryz.sizeOf34 rfl) rfl ha
    · have hV := heads_iff.1 (valid_iff.1 HA.out.2.2.2.2).1
      simp only at hV
      have hw : IntKind.i64.wrap (bo + 1) = bo + 1 := by rw [IntKind.wrap_i64]; omega
      clear hV
      go_wp2_with fail
      have mp : Mod [w4.heap.size] W5 (W5.setCell ⟨w4.heap.size, 1, none⟩ (.int .i64 (bo + 1))) := (Mod.refl _ _).setCell (fun _ => by simp) _
      obtain ⟨q, ha⟩ := HCL.out _ _ _ _ _ _ _ _ _ mp H5.out.2.2.1 ⟨_, HZ5.out.2⟩ HZ5.out.1 (hchg.2.2.2.2.2.2 (by simp)) H5.out.1 H5.out.2.1 (by omega)
      exact bodyPost_ret (res_cell2 Tryz.results18 _ _ rfl q Tryz.isAgg34 Tryz.sizeOf34 rfl) rfl ha
  · have hb : (F != 0) = true := by simpa using h0
    have HZ := hide (And.intro h0 hF)
    clear h0 hF
    go_wp2_with (first
      | (go_at_call 54; refine hfa0.mono ?_; rintro e w3 ⟨rfl, m3⟩
         have hz3 := (HF.out _ m3).2.2
         have Z0 := blk_cell hz3
         have ZF := blk_free hz3
         have H3 := hide (And.intro hz3 m3)
         clear m3 B0 B1 hz3)
      | fail)
    have q := stL_all H3.out.1 [.int .i64 0, .int .i64 0, .int .i64 0, .slice none 0 0] rfl
    have qm := stL_mod (S := [w.heap.size + 2]) (w0 := w3) (r := w.heap.size + 2) (fun _ => by simp) [.int .i64 0, .int .i64 0, .int .i64 0, .slice none 0 0] 0 _ (Mod.refl _ _)
    exact bodyPost_ret (v := .tuple #[.agg #[.int .i64 0, .int .i64 0, .int .i64 0, .slice none 0 0], .int .i64 F]) (res_cell2 Tryz.results18 _ _ rfl q Tryz.isAgg34 Tryz.sizeOf34 rfl) rfl (AppTo.zero (by rw [← HZ.out.2]; exact apply_zero2 (by rw [HZ.out.2]; exact HZ.out.1)) (HM.out.1.then H3.out.2) (by omega) qm)
end Go.Proofs.YtpphoeimakjjdaaGreatDoor
