/-
  WALKS: layer 11: a grant more behind grants of one's own; a book copied.
-/
import Derived.Test.YtpphoeimakjjdaaGreatDoorMBookW5
namespace Go.Proofs.YtpphoeimakjjdaaGreatDoor
open Go.RowKit

theorem info_grant : (Tryz.prog.info? 40).map (fun i => (i.zero, i.size, i.bytes)) = some (some (aggG Grt.zero (.slice none 0 0)), 6, 72) := by kernel_rfl
theorem one_G {g : Grt} {sv : Value} (hs : sv.oneCell' = true) : ∀ u ∈ cellsG g sv, u.oneCell' = true := by
  intro u hu
  simp only [cellsG, List.mem_cons, List.not_mem_nil, or_false] at hu
  rcases hu with rfl | rfl | rfl | rfl | rfl | rfl <;> first | rfl | exact hs
theorem one_row {w : World} {base : Nat} {T : TypeId} {sz n : Nat} {v : Value} {xs : List Value} (h : w.ownsRow base T sz v n xs) : v.oneCell' = true := by
  rcases h.2 with ⟨rfl, _⟩ | ⟨g, cap, cur, rfl, _⟩ <;> rfl
/-- one grant more -/
theorem GrM.app {w w' : World} {base : Nat} {u u' : Value} {sl : List (Grt × Value)} {g : Grt} {sv : Value} (h : GrM w base u sl) (hst : w.ownsRow base 3 1 sv g.stamp.length (g.stamp.map (Value.int .i64))) (hap : ∀ k, k ∈ ob sv → k ∉ ob u)
    (hr : w'.ownsRow base 40 6 u' (sl.length + 1) (sl.flatMap encG ++ cellsG g sv)) (hm : Mod (ob u) w w') (hu : ∀ k, k ∈ ob u' → k ∈ ob u ∨ w.heap.size ≤ k) : GrM w' base u' (sl ++ [(g, sv)]) := by
  refine ⟨by rw [List.length_append, List.flatMap_append]; simpa [encG] using hr, fun p hp => ?_⟩
  have key : w.ownsRow base 3 1 p.2 p.1.stamp.length (p.1.stamp.map (Value.int .i64)) ∧ ∀ k, k ∈ ob p.2 → k ∉ ob u := by
    rcases List.mem_append.1 hp with hp | hp
    · exact h.st p hp
    · obtain rfl : p = (g, sv) := by simpa using hp
      exact ⟨hst, hap⟩
  refine ⟨hm.row key.1 (fun k hk => key.2 k (by simpa [ob] using hk)), fun k hk hk2 => ?_⟩
  rcases hu k hk2 with e | e
  · exact key.2 k hk e
  · have := (ob_of_row key.1 k hk).2
    omega
theorem wpList_app_gr {ops : Array Oper} {rest : List Oper} {o : Oper} {a : Act} {Q : Exit → Act → World → Prop} (w : World) (hgd : o.guard = none) (s x : Operand)
    (ho : o.op = .call { callee := .builtin .append, args := #[s, x], argTypes := #[32, 32] })
    {base : Nat} {u : Value} {sl : List (Grt × Value)} (hs : a.eval s = u) (h : GrM w base u sl) (hn : sl.length ≤ 1000000) (hbase : base ≤ w.heap.size) {k : Nat} (hx : a.eval x = .slice (some ⟨k, 0, none⟩) 1 1) {g : Grt} {sv : Value}
    (hk : w.heap[k]? = some (.cells (cellsG g sv).toArray 40 (0, 0))) (hst : w.ownsRow base 3 1 sv g.stamp.length (g.stamp.map (Value.int .i64))) (hap : ∀ k, k ∈ ob sv → k ∉ ob u)
    (hK : ∀ u' w', GrM w' base u' (sl ++ [(g, sv)]) → Mod (ob u) w w' → (∃ p c, u' = .slice p (sl.length + 1) c) → (∀ k, k ∈ ob u' → k ∈ ob u ∨ w.heap.size ≤ k) → wpList Tryz.prog ops Q rest (a.put o.dst u') w') : wpList Tryz.prog ops Q (o :: rest) a w := by
  obtain ⟨i0, hi0, hz0, hs0, hb0⟩ := info_parts info_grant
  refine wpList_append_lies w hgd s x 32 ho base 40 i0 _ 6 72 Tryz.underlying32 hi0 hz0 hs0 hb0 rfl (by decide) _ _ _ hs h.row ⟨k, 0, none⟩ 1 1 (cellsG g sv) hx rfl (World.news_of_block (cs := (cellsG g sv).toArray) (t := 40) (fr := (0, 0)) hk) (one_G (one_row hst)) (by decide) (by unfold maxLen; omega) (by omega) hbase ?_
  intro g' cap w' hr hg hat
  have hm : Mod (ob u) w w' := (Mod.refl (ob u) w).grown hg (fun k e _ => by simp [ob, e])
  have hu : ∀ k, k ∈ ob (.slice (some ⟨g', 0, none⟩) (sl.length + 1) cap) → k ∈ ob u ∨ w.heap.size ≤ k := fun k hk => by
    have : k = g' := by simpa [ob, Value.ownBlock] using hk
    subst this
    rcases hat with e | e
    · exact .inl (by simp [ob, e])
    · exact .inr (by omega)
  exact hK _ _ (h.app hst hap hr hm hu) hm ⟨_, _, rfl⟩ hu
def CopRel (W1 : World) (base : Nat) (lv : List (Grt × Value)) (u i : Value) (wr : World) : Prop :=
  ∃ (k : Nat) (sl : List (Grt × Value)), i = .int .i64 (k : Int) ∧ k ≤ lv.length ∧ sl.map Prod.fst = (lv.take k).map Prod.fst ∧ GrM wr base u sl ∧ Mod [] W1 wr
set_option maxHeartbeats 2000000 in
set_option maxRecDepth 100000 in
theorem copied_any {w : World} {base : Nat} {gv : Value} {b : Bk} {lv : List (Grt × Value)} (h : BkM w base gv b lv) (hn : lv.length ≤ 1000) (hst : ∀ p, p ∈ lv → p.1.stamp.length ≤ 1000000) :
    Calls Tryz.prog 82 #[aggB b gv] w fun e w' => ∃ gv' lv', e = .returned (aggB b gv') ∧ BkM w' w.heap.size gv' b lv' ∧ Mod [] w w' := by
  obtain ⟨nx, bo, lo, gs⟩ := b
  have heq : gs = lv.map Prod.fst := h.eq
  obtain ⟨q, c, rfl, hmx⟩ := h.gr.shape
  have hmx' : lv.length ≤ 9223372036854775807 := hmx
  unfold aggB
  simp only
  obtain ⟨W1, hW1⟩ : ∃ W1, W1 = (w.alloc (.cells #[.int .i64 nx, .int .i64 bo, .int .i64 lo, .slice q lv.length c] 34 (0, 0))).alloc (.cells #[.int .i64 0, .int .i64 0, .int .i64 0, .slice none 0 0] 34 (0, 0)) := ⟨_, rfl⟩
  have hb0 : W1.heap[w.heap.size]? = some (.cells #[.int .i64 nx, .int .i64 bo, .int .i64 lo, .slice q lv.length c] 34 (0, 0)) := by rw [hW1]; exact blk_alloc (heap_alloc_new w _) _
  have hb1 : W1.heap[w.heap.size + 1]? = some (.cells #[.int .i64 0, .int .i64 0, .int .i64 0, .slice none 0 0] 34 (0, 0)) := by
    rw [hW1]
    have := heap_alloc_new (w.alloc (.cells #[.int .i64 nx, .int .i64 bo, .int .i64 lo, .slice q lv.length c] 34 (0, 0))) (.cells #[.int .i64 0, .int .i64 0, .int .i64 0, .slice none 0 0] 34 (0, 0))
    simpa using this
  have hgr : Gr w W1 := by rw [hW1]; exact ((Gr.refl w).alloc _).alloc _
  have hsz : W1.heap.size = w.heap.size + 2 := by rw [hW1]; simp
  have a3 : W1.cell? ⟨w.heap.size, 3, none⟩ = some (.slice q lv.length c) := blk_cell hb0 3
  have HH := hide (And.intro h (And.intro hst heq))
  have HB := hide (And.intro hb0 (And.intro hb1 (And.intro hgr hsz)))
  clear h hst heq hb0 hb1 hgr hsz hmx
  go_enter Tryz.func82, Tryz.ntmps82
  go_upto_region 1 with fail
  rw [← hW1]
  clear hW1
  go_wp2_with fail
  go_loopw [3, 9] (fun u i wr => CopRel W1 (w.heap.size + 2) lv u i wr) (fun _ i _ => lv.length - (intOf i).toNat)
  case atStart => exact ⟨0, [], rfl, Nat.zero_le _, rfl, GrM.nil _ _, Mod.refl _ _⟩
  case round =>
    obtain ⟨k, sl, rfl, hk, hmap, hgm, hm⟩ := hrel
    have hsl : sl.length = k := by have := congrArg List.length hmap; simp at this; omega
    by_cases hlt : k < lv.length
    · obtain ⟨bb, rfl, hbb, hb1, hc, hf, hrd⟩ := ((HH.out.1.gr.gr HB.out.2.2.1).mod hm (by simp)).at_ k hlt
      have hls := HH.out.2.1 _ (show lv.getD k default ∈ lv by simp [hlt])
      have htk : (lv.take (k + 1)).map Prod.fst = (lv.take k).map Prod.fst ++ [(lv.getD k default).1] := by rw [List.take_add_one, List.map_append]; simp [hlt]
      generalize lv.getD k default = pr at hc hrd hls htk
      obtain ⟨⟨id, ho, pa, mo, st, te⟩, sv⟩ := pr
      simp only at hrd hls htk
      have c0 := hc 0 (by decide)
      have c1 := hc 1 (by decide)
      have c2 := hc 2 (by decide)
      have c3 := hc 3 (by decide)
      have c4 := hc 4 (by decide)
      have c5 := hc 5 (by decide)
      simp [encG, cellsG] at c0 c1 c2 c3 c4 c5
      have ht := twinG_any (g := ⟨id, ho, pa, mo, st, te⟩) (hrd.gr ((Gr.refl wr).alloc (.cells #[.int .i64 id, .int .i64 ho, .string pa, .int .i64 mo, sv, .int .i64 te] 40))) hls
      obtain ⟨qs, cs, rfl⟩ := hrd.len
      unfold aggG cellsG NewG at ht
      simp only at ht
      have HM := hide (And.intro hm (And.intro hgm (And.intro htk (And.intro hmap hsl))))
      have hszr := hm.size
      clear hc hrd hls htk hm hgm hmap hsl
      go_wp2_with fail
      refine ht.mono ?_
      rintro e w2 ⟨v', rfl, hr2, hm2⟩
      have hgro := HM.out.2.1.row
      have hap : ∀ k, k ∈ ob v' → k ∉ ob u3 := fun k hk hk2 => by
        have h1 := (ob_of_row hr2 k hk).1
        have h2 := (ob_of_row hgro k hk2).2
        simp at h1
        omega
      have hszb := HB.out.2.2.2
      have hbase2 : w.heap.size + 2 ≤ w2.heap.size := by have := hm2.size; simp at this; omega
      have hks : sl.length = k := HM.out.2.2.2.2
      have hst0 := World.ownsRow.mono hr2 (show w.heap.size + 2 ≤ _ by simp; omega)
      have hgm0 := (HM.out.2.1.gr ((Gr.refl wr).alloc _)).mod hm2 (by simp)
      obtain ⟨p', c', hv'⟩ := (rdN_of_row hr2).len
      subst hv'
      obtain ⟨W3, hW3⟩ : ∃ W3, W3 = w2.alloc (.cells #[.int .i64 id, .int .i64 ho, .string pa, .int .i64 mo, .slice p' st.length c', .int .i64 te] 40 (0, 0)) := ⟨_, rfl⟩
      have hk3 : W3.heap[w2.heap.size]? = some (.cells (cellsG ⟨id, ho, pa, mo, st, te⟩ (.slice p' st.length c')).toArray 40 (0, 0)) := by rw [hW3]; exact heap_alloc_new w2 _
      have g3 : Gr w2 W3 := by rw [hW3]; exact (Gr.refl w2).alloc _
      have hgm2 := hgm0.gr g3
      have hst3 := (g3.mod []).row hst0 (by simp)
      have hsz3 : w2.heap.size < W3.heap.size := lt_of_block hk3
      have HN := hide (And.intro hm2 (And.intro hgro g3))
      have HG2 := hide (And.intro hgm2 (And.intro hst3 (And.intro hap hk3)))
      clear ht c0 c1 c2 c3 c4 c5 hr2 hm2 hgro hst0 hgm0 hgm2 hst3 hap a3 hk3 g3
      simp only [aggG, cellsG]
      go_wp2_with (
        at_builtin
        rw [← hW3]
        refine wpList_app_gr (g := ⟨id, ho, pa, mo, st, te⟩) (sv := .slice p' st.length c') (sl := sl) (base := w.heap.size + 2) W3 rfl _ _ rfl rfl HG2.out.1 (by omega) (by omega) (k := w2.heap.size) rfl HG2.out.2.2.2 HG2.out.2.1 HG2.out.2.2.1 ?_
        rintro u' w3 hgm3 hm3 ⟨p3, c3, rfl⟩ -)
      go_roundw
      case rel =>
        refine ⟨k + 1, sl ++ [(⟨id, ho, pa, mo, st, te⟩, .slice p' st.length c')], by go_num, by omega, ?_, (by rw [← hks]; exact hgm3), ?_⟩
        · rw [HM.out.2.2.1, List.map_append, HM.out.2.2.2.1]; rfl
        · refine (((HM.out.1.alloc _).then HN.out.1).gr HN.out.2.2).trans hm3 (by simp) (fun x hx hlt => ?_)
          have := (ob_of_row HN.out.2.1 x hx).1
          omega
      case measure => simp [intOf]; omega
    · obtain rfl : k = lv.length := by omega
      obtain ⟨p3, c3, hu, _⟩ := hgm.shape
      rw [hsl] at hu
      subst hu
      obtain ⟨hb0, hb1, hgr, hsz⟩ := HB.out
      have d0 := hm.at_ hb0 (by simp)
      have d1 := hm.at_ hb1 (by simp)
      have e0 : wr.cell? ⟨w.heap.size, 0, none⟩ = some (.int .i64 nx) := blk_cell d0 0
      have e1 : wr.cell? ⟨w.heap.size, 1, none⟩ = some (.int .i64 bo) := blk_cell d0 1
      have e2 : wr.cell? ⟨w.heap.size, 2, none⟩ = some (.int .i64 lo) := blk_cell d0 2
      have e3 : wr.cell? ⟨w.heap.size, 3, none⟩ = some (.slice q lv.length c) := blk_cell d0 3
      have g0 : wr.cell? ⟨w.heap.size + 1, 0, none⟩ = some (.int .i64 0) := blk_cell d1 0
      have g1 : wr.cell? ⟨w.heap.size + 1, 1, none⟩ = some (.int .i64 0) := blk_cell d1 1
      have g2 : wr.cell? ⟨w.heap.size + 1, 2, none⟩ = some (.int .i64 0) := blk_cell d1 2
      have g3 : wr.cell? ⟨w.heap.size + 1, 3, none⟩ = some (.slice none 0 0) := blk_cell d1 3
      have F0 := blk_free d0
      have F1 := blk_free d1
      have hl0 : w.heap.size < wr.heap.size := lt_of_block d0
      have hl1 : w.heap.size + 1 < wr.heap.size := lt_of_block d1
      have HE := hide (And.intro d0 (And.intro d1 (And.intro hm (And.intro hgm hmap))))
      have HS := hide (And.intro hgr hsz)
      clear hb0 hb1 hgr hsz d0 d1 hm hgm hmap a3 hsl
      go_wp2_with fail
      obtain ⟨d0, d1, hm, hgm, hmap⟩ := HE.out
      have hsz := HS.out.2
      have q' := stL_all (blk_other d1 (a := ⟨w.heap.size, 3, none⟩) (by simp) (.slice p3 lv.length c3)) [.int .i64 nx, .int .i64 bo, .int .i64 lo, .slice p3 lv.length c3] rfl
      have qm := stL_mod (S := [w.heap.size, w.heap.size + 1]) (w0 := wr) (r := w.heap.size + 1) (fun _ => by simp) [.int .i64 nx, .int .i64 bo, .int .i64 lo, .slice p3 lv.length c3] 0 _ ((Mod.refl [w.heap.size, w.heap.size + 1] wr).setCell (p := ⟨w.heap.size, 3, none⟩) (fun _ => by simp) (.slice p3 lv.length c3))
      refine bodyPost_ret (v := .agg #[.int .i64 nx, .int .i64 bo, .int .i64 lo, .slice p3 lv.length c3]) (res_cell1 Tryz.results82 _ _ rfl q' Tryz.isAgg34 Tryz.sizeOf34) rfl ⟨_, sl, rfl, ⟨?_, ?_⟩, ?_⟩
      · exact (hgm.mod qm (fun k hk => by simp at hk; omega)).base (by omega)
      · have := HH.out.2.2
        simp only
        rw [this, hmap, List.take_length]
      · exact ((HS.out.1.mod []).then hm).trans qm (by simp) (fun x hx hlt => by simp at hx; omega)
end Go.Proofs.YtpphoeimakjjdaaGreatDoor
