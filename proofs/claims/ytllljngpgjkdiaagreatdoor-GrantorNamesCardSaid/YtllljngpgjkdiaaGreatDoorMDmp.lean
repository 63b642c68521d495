/-
  WALKS: layer 11: Dump: the fewest records.
-/
import Derived.Test.YtllljngpgjkdiaaGreatDoorMCtr
import Derived.Test.YtllljngpgjkdiaaGreatDoorMBookA
import Derived.Deep.DeepCutAuto
namespace Go.Proofs.YtllljngpgjkdiaaGreatDoor
open Go.RowKit

def encP (p : Rcd × Value) : List Value := cellsR p.1 p.2 (.slice none 0 0)
theorem encP_len (p : Rcd × Value) : (encP p).length = 12 := rfl
theorem info_rec : (Tryz.prog.info? 93).map (fun i => (i.zero, i.size, i.bytes)) = some (some (aggR Rcd.zero (.slice none 0 0) (.slice none 0 0)), 12, 136) := by kernel_rfl
structure DmM (w : World) (base : Nat) (v : Value) (lr : List (Rcd × Value)) : Prop where
  row : w.ownsRow base 93 12 v lr.length (lr.flatMap encP)
  st : ∀ p, p ∈ lr → w.ownsRow base 3 1 p.2 p.1.grant.stamp.length (p.1.grant.stamp.map (Value.int .i64)) ∧ ∀ k, k ∈ ob p.2 → k ∉ ob v
  no : ∀ p, p ∈ lr → p.1.stamp = []
theorem DmM.mod {w w' : World} {base : Nat} {v : Value} {lr : List (Rcd × Value)} (h : DmM w base v lr) {S : List Nat} (m : Mod S w w') (hS : ∀ k, k ∈ S → k < base ∨ w.heap.size ≤ k) : DmM w' base v lr := by
  refine ⟨m.row h.row (fun k hk e => ?_), fun p hp => ⟨m.row (h.st p hp).1 (fun k hk e => ?_), (h.st p hp).2⟩, h.no⟩
  · have := h.row.lt k hk
    have := hS k e
    omega
  · have := (h.st p hp).1.lt k hk
    have := hS k e
    omega
theorem DmM.gr {w w' : World} {base : Nat} {v : Value} {lr : List (Rcd × Value)} (h : DmM w base v lr) (g : Gr w w') : DmM w' base v lr := h.mod (g.mod []) (by simp)
theorem DmM.base {w : World} {base b' : Nat} {v : Value} {lr : List (Rcd × Value)} (h : DmM w base v lr) (hb : b' ≤ base) : DmM w b' v lr :=
  ⟨World.ownsRow.mono h.row hb, fun p hp => ⟨World.ownsRow.mono (h.st p hp).1 hb, (h.st p hp).2⟩, h.no⟩
theorem DmM.shape {w : World} {base : Nat} {v : Value} {lr : List (Rcd × Value)} (h : DmM w base v lr) : ∃ p c, v = .slice p lr.length c ∧ lr.length ≤ maxLen := by
  rcases h.row.2 with ⟨rfl, hn⟩ | ⟨g, cap, cur, rfl, _, hg, hh1, hh2, _⟩
  · exact ⟨none, 0, by rw [hn], by omega⟩
  · exact ⟨_, cap, rfl, by omega⟩
theorem DmM.at_ {w : World} {base : Nat} {q : Option Addr} {n c : Nat} {lr : List (Rcd × Value)} (h : DmM w base (.slice q n c) lr) (i : Nat) (hi : i < lr.length) :
    ∃ b, q = some ⟨b, 0, none⟩ ∧ base ≤ b ∧ b < w.heap.size ∧ (∀ j, j < 12 → w.cell? ⟨b, i * 12 + j, none⟩ = (encP (lr.getD i default))[j]?) ∧ (∀ j, w.frozen? ⟨b, j, none⟩ = false) ∧ RdN w (lr.getD i default).2 (lr.getD i default).1.grant.stamp ∧ (lr.getD i default).1.stamp = [] := by
  have hm : lr.getD i default ∈ lr := by simp [hi]
  rcases h.row.2 with ⟨hv, hn⟩ | ⟨g, cap, cur, hv, hb, hg, hh1, hh2, hs, ht⟩
  · omega
  · simp only [Value.slice.injEq] at hv
    obtain ⟨rfl, rfl, rfl⟩ := hv
    refine ⟨g, rfl, hb, lt_of_block hg, fun j hj => ?_, fun j => blk_free hg j, rdN_of_row (h.st _ hm).1, h.no _ hm⟩
    rw [h.row.cellAt (i * 12 + j) (by omega), flat_get encP 12 encP_len lr i j hi hj]
theorem one_P {r : Rcd} {sv : Value} (hs : sv.oneCell' = true) : ∀ u ∈ encP (r, sv), u.oneCell' = true := by
  intro u hu
  simp only [encP, cellsR, List.mem_cons, List.not_mem_nil, or_false] at hu
  rcases hu with rfl | rfl | rfl | rfl | rfl | rfl | rfl | rfl | rfl | rfl | rfl | rfl <;> first | rfl | exact hs
theorem DmM.one {w : World} {base k : Nat} {r : Rcd} {sv : Value} (hk : w.heap[k]? = some (.cells (encP (r, sv)).toArray 93 (0, 0))) (hb : base ≤ k) (hst : w.ownsRow base 3 1 sv r.grant.stamp.length (r.grant.stamp.map (Value.int .i64))) (hap : k ∉ ob sv) (hno : r.stamp = []) : DmM w base (.slice (some ⟨k, 0, none⟩) 1 1) [(r, sv)] := by
  refine ⟨⟨by simp [encP_len], .inr ⟨k, 1, _, rfl, hb, hk, Nat.le_refl _, by decide, rfl, by simp; rfl⟩⟩, fun p hp => ?_, fun p hp => ?_⟩
  · obtain rfl : p = (r, sv) := by simpa using hp
    exact ⟨hst, fun j hj hj2 => by
      have : j = k := by simpa [ob, Value.ownBlock] using hj2
      subst this
      exact hap hj⟩
  · obtain rfl : p = (r, sv) := by simpa using hp
    exact hno
theorem wpList_app_dm {ops : Array Oper} {rest : List Oper} {o : Oper} {a : Act} {Q : Exit → Act → World → Prop} (w : World) (hgd : o.guard = none) (s x : Operand)
    (ho : o.op = .call { callee := .builtin .append, args := #[s, x], argTypes := #[178, 178] })
    {base : Nat} {u : Value} {sl : List (Rcd × Value)} (hs : a.eval s = u) (h : DmM w base u sl) (hn : sl.length ≤ 100000) (hbase : base ≤ w.heap.size) {k : Nat} (hx : a.eval x = .slice (some ⟨k, 0, none⟩) 1 1) {r : Rcd} {sv : Value}
    (hk : w.heap[k]? = some (.cells (encP (r, sv)).toArray 93 (0, 0))) (hst : w.ownsRow base 3 1 sv r.grant.stamp.length (r.grant.stamp.map (Value.int .i64))) (hap : ∀ k, k ∈ ob sv → k ∉ ob u) (hno : r.stamp = [])
    (hK : ∀ u' w', DmM w' base u' (sl ++ [(r, sv)]) → Mod (ob u) w w' → (∃ p c, u' = .slice p (sl.length + 1) c) → wpList Tryz.prog ops Q rest (a.put o.dst u') w') : wpList Tryz.prog ops Q (o :: rest) a w := by
  obtain ⟨i0, hi0, hz0, hs0, hb0⟩ := info_parts info_rec
  refine wpList_append_lies w hgd s x 178 ho base 93 i0 _ 12 136 Tryz.underlying178 hi0 hz0 hs0 hb0 rfl (by decide) _ _ _ hs h.row ⟨k, 0, none⟩ 1 1 (encP (r, sv)) hx rfl (World.news_of_block (cs := (encP (r, sv)).toArray) (t := 93) (fr := (0, 0)) hk) (one_P (one_row hst)) (by decide) (by unfold maxLen; omega) (by omega) hbase ?_
  intro g' cap w' hr hg hat
  have hm : Mod (ob u) w w' := (Mod.refl (ob u) w).grown hg (fun k e _ => by simp [ob, e])
  have hu : ∀ k, k ∈ ob (.slice (some ⟨g', 0, none⟩) (sl.length + 1) cap) → k ∈ ob u ∨ w.heap.size ≤ k := fun k hk => by
    have : k = g' := by simpa [ob, Value.ownBlock] using hk
    subst this
    rcases hat with e | e
    · exact .inl (by simp [ob, e])
    · exact .inr (by omega)
  refine hK _ _ ⟨by rw [List.length_append, List.flatMap_append]; simpa using hr, fun p hp => ?_, fun p hp => ?_⟩ hm ⟨_, _, rfl⟩
  · have key : w.ownsRow base 3 1 p.2 p.1.grant.stamp.length (p.1.grant.stamp.map (Value.int .i64)) ∧ ∀ k, k ∈ ob p.2 → k ∉ ob u := by
      rcases List.mem_append.1 hp with hp | hp
      · exact h.st p hp
      · obtain rfl : p = (r, sv) := by simpa using hp
        exact ⟨hst, hap⟩
    refine ⟨hm.row key.1 (fun k hk => key.2 k (by simpa [ob] using hk)), fun k hk hk2 => ?_⟩
    rcases hu k hk2 with e | e
    · exact key.2 k hk e
    · have := (ob_of_row key.1 k hk).2
      omega
  · rcases List.mem_append.1 hp with hp | hp
    · exact h.no p hp
    · obtain rfl : p = (r, sv) := by simpa using hp
      exact hno
def preB (b : Bk) : List Rcd := recC b.next b.boots :: (if 0 < b.longest then [recL b.longest] else [])
theorem dump_pre (b : Bk) : dumpB b = preB b ++ b.grants.map recK := by simp [dumpB, preB]
def DmpRel (W1 : World) (base : Nat) (pre : List Rcd) (lv : List (Grt × Value)) (u i : Value) (wr : World) : Prop :=
  ∃ (k : Nat) (sl : List (Rcd × Value)), i = .int .i64 (k : Int) ∧ k ≤ lv.length ∧ sl.map Prod.fst = pre ++ (lv.take k).map (fun p => recK p.1) ∧ DmM wr base u sl ∧ Mod [] W1 wr
set_option maxHeartbeats 4000000 in
set_option maxRecDepth 100000 in
theorem dump_any {w : World} {base : Nat} {gv : Value} {b : Bk} {lv : List (Grt × Value)} (h : BkM w base gv b lv) (hv : validB b = true) :
    Calls Tryz.prog 122 #[aggB b gv] w fun e w' => ∃ v lr, e = .returned v ∧ lr.map Prod.fst = dumpB b ∧ DmM w' w.heap.size v lr ∧ Mod [] w w' := by
  have hsm := valid_small hv h.eq
  have hval := fun (W : World) (m : Mod [] w W) => bvalid_any (b := b) ⟨h.gr.mod m (by simp), h.eq⟩ (fun p hp => by have := (hsm.2 p hp).2; omega)
  rw [hv] at hval
  have hdp := dump_pre b
  obtain ⟨nx, bo, lo, bg⟩ := b
  have heq : bg = lv.map Prod.fst := h.eq
  have hlo : lo = 0 ∨ legalT lo := (valid_iff.1 hv).2.1
  obtain ⟨q0, c0, rfl, hmx⟩ := h.gr.shape
  have hmx' : lv.length ≤ 9223372036854775807 := hmx
  obtain ⟨W0, hW0⟩ : ∃ W0, W0 = w.alloc (.cells #[.int .i64 nx, .int .i64 bo, .int .i64 lo, .slice q0 lv.length c0] 75 (0, 0)) := ⟨_, rfl⟩
  have hb0 : W0.heap[w.heap.size]? = some (.cells #[.int .i64 nx, .int .i64 bo, .int .i64 lo, .slice q0 lv.length c0] 75 (0, 0)) := by rw [hW0]; exact heap_alloc_new w _
  have hm0 : Mod [] w W0 := by rw [hW0]; exact (Mod.refl _ _).alloc _
  have hy := hval W0 hm0
  have B0 := blk_cell hb0
  obtain ⟨D, hD⟩ : ∃ D, dumpB ⟨nx, bo, lo, bg⟩ = D := ⟨_, rfl⟩
  rw [hD] at hdp ⊢
  obtain ⟨PR, hPR⟩ : ∃ PR, preB ⟨nx, bo, lo, bg⟩ = PR := ⟨_, rfl⟩
  rw [hPR] at hdp
  have HH := hide (And.intro h (And.intro heq (And.intro hsm (And.intro hb0 hm0))))
  have HP := hide (And.intro hdp hPR)
  clear h heq hsm hb0 hm0 hval hdp hPR hD hmx hv
  unfold aggB at hy ⊢
  simp only at hy ⊢
  go_enter Tryz.func122, Tryz.ntmps122
  go_upto_region 1 with fail
  rw [← hW0]
  clear hW0
  go_upto_region 3 with (go_at_call 112; refine hy.mono ?_; rintro e w1 ⟨rfl, hm1⟩
                         have hb1 := hm1.at_ HH.out.2.2.2.1 (by simp)
                         have B1 := blk_cell hb1
                         have H1 := hide (And.intro hb1 (HH.out.2.2.2.2.then hm1))
                         clear hb1 hm1 B0 hy)
  go_upto_region 4 with fail
  obtain ⟨W2, hW2⟩ : ∃ W2, W2 = w1.alloc (.cells #[.int .i64 1, .int .i64 0, .int .i64 0, .string ⟨#[]⟩, .int .i64 0, .slice none 0 0, .int .i64 0, .int .i64 0, .slice none 0 0, .int .i64 nx, .int .i64 bo, .int .i64 0] 93 (0, 0)) := ⟨_, rfl⟩
  rw [← hW2]
  have g2 : Gr w1 W2 := by rw [hW2]; exact (Gr.refl w1).alloc _
  have hk2 : W2.heap[w1.heap.size]? = some (.cells (encP (recC nx bo, .slice none 0 0)).toArray 93 (0, 0)) := by rw [hW2]; exact heap_alloc_new w1 _
  have hd2 : DmM W2 (w.heap.size + 1) (.slice (some ⟨w1.heap.size, 0, none⟩) 1 1) [(recC nx bo, .slice none 0 0)] := DmM.one hk2 (lt_of_block H1.out.1) (World.ownsRow_nil _ _ _ _) (by simp [ob, Value.ownBlock]) rfl
  have hb2 := (g2.mod []).at_ H1.out.1 (by simp)
  have B2 := blk_cell hb2
  have hm2 := H1.out.2.gr g2
  clear hW2 g2 hk2 B1
  have H2 := hide (And.intro hd2 (And.intro hb2 hm2))
  clear hd2 hb2 hm2
  go_upto_if 17 with fail
  go_cut [3] (fun s3 wx => ∃ sl p3 c3, s3 = .slice p3 sl.length c3 ∧ DmM wx (w.heap.size + 1) (.slice p3 sl.length c3) sl ∧ sl.map Prod.fst = PR ∧ Mod [] w wx ∧ wx.heap[w.heap.size]? = some (.cells #[.int .i64 nx, .int .i64 bo, .int .i64 lo, .slice q0 lv.length c0] 75 (0, 0)))
  case first =>
    by_cases hl : 0 < lo
    · go_wp2_with (
        at_builtin
        obtain ⟨W3, hW3⟩ : ∃ W3, W3 = W2.alloc (.cells #[.int .i64 2, .int .i64 0, .int .i64 0, .string ⟨#[]⟩, .int .i64 0, .slice none 0 0, .int .i64 0, .int .i64 0, .slice none 0 0, .int .i64 0, .int .i64 0, .int .i64 lo] 93 (0, 0)) := ⟨_, rfl⟩
        try rw [← hW3]
        have g3 : Gr W2 W3 := by rw [hW3]; exact (Gr.refl W2).alloc _
        have hk3 : W3.heap[W2.heap.size]? = some (.cells (encP (recL lo, .slice none 0 0)).toArray 93 (0, 0)) := by rw [hW3]; exact heap_alloc_new W2 _
        have hs2 : w.heap.size + 1 ≤ W2.heap.size := lt_of_block H2.out.2.1
        have hs3 := g3.size
        refine wpList_app_dm (r := recL lo) (sv := .slice none 0 0) (sl := [(recC nx bo, .slice none 0 0)]) (base := w.heap.size + 1) W3 rfl _ _ rfl rfl (H2.out.1.gr g3) (by simp) (by omega) (k := W2.heap.size) rfl hk3 (World.ownsRow_nil _ _ _ _) (by simp [ob, Value.ownBlock]) rfl ?_
        rintro u' w4 hd4 hm4 ⟨p4, c4, rfl⟩
        have H4 := hide (And.intro hd4 (And.intro g3 hm4))
        clear hd4 hm4 g3 hk3 hW3 hs2 hs3)
      go_meet
      case rel =>
        obtain ⟨hd4, g3, hm4⟩ := H4.out
        have hob := (ob_of_row H2.out.1.row)
        refine ⟨[(recC nx bo, .slice none 0 0)] ++ [(recL lo, .slice none 0 0)], _, _, rfl, hd4, ?_, (H2.out.2.2.gr g3).trans hm4 (by simp) (fun x hx hlt => by have := hob x hx; omega), hm4.at_ ((g3.mod []).at_ H2.out.2.1 (by simp)) (fun e => by have h1 := (hob _ e).1; omega)⟩
        rw [← HP.out.2]
        simp [preB, hl]
    · clear B2
      go_wp2_with fail
      go_meet
      case rel =>
        refine ⟨[(recC nx bo, .slice none 0 0)], _, _, rfl, H2.out.1, ?_, H2.out.2.2, H2.out.2.1⟩
        rw [← HP.out.2]
        simp [preB, show ¬ 0 < lo from by omega]
  case rest =>
  obtain ⟨sl0, p3, c3, rfl, hd3, hmap3, hm3, hb3⟩ := hcut
  have B3 := blk_cell hb3
  have hl0 : sl0.length ≤ 2 := by
    have := congrArg List.length hmap3
    rw [← HP.out.2] at this
    simp only [List.length_map, preB] at this
    split at this <;> simp at this <;> omega
  have H3 := hide (And.intro hd3 (And.intro hmap3 (And.intro hm3 (And.intro hb3 hl0))))
  clear hd3 hmap3 hm3 hb3 hl0 B2 H2
  go_upto_region 7 with fail
  go_loopw [3, 27] (fun u i wr => DmpRel w (w.heap.size + 1) PR lv u i wr) (fun _ i _ => lv.length - (intOf i).toNat)
  case atStart => exact ⟨0, sl0, rfl, Nat.zero_le _, by rw [H3.out.2.1]; simp, H3.out.1, H3.out.2.2.1⟩
  case round =>
    obtain ⟨k, sl, rfl, hk, hmap, hgm, hm⟩ := hrel
    have hsl : sl.length = sl0.length + k := by
      have h1 := congrArg List.length hmap
      have h2 := congrArg List.length H3.out.2.1
      simp at h1 h2
      omega
    have hl0 := H3.out.2.2.2.2
    have hlv := HH.out.2.2.1.1
    by_cases hlt : k < lv.length
    · obtain ⟨bb, rfl, hbb, hb1, hc, hf, hrd⟩ := (HH.out.1.gr.mod hm (by simp)).at_ k hlt
      have hls := (HH.out.2.2.1.2 _ (show lv.getD k default ∈ lv by simp [hlt])).1
      have htk : (lv.take (k + 1)).map (fun p => recK p.1) = (lv.take k).map (fun p => recK p.1) ++ [recK (lv.getD k default).1] := by rw [List.take_add_one, List.map_append]; simp [hlt]
      generalize lv.getD k default = pr at hc hrd hls htk
      obtain ⟨⟨id, ho, pa, mo, st, te⟩, sv⟩ := pr
      simp only at hrd hls htk
      have c0 := hc 0 (by decide)
      have c1 := hc 1 (by decide)
      have c2 := hc 2 (by decide)
      have c3 := hc 3 (by decide)
      have c4 := hc 4 (by decide)
      have c5 := hc 5 (by decide)
      simp [encG, cellsG] at c0 c1 c2 c3 c4 c5
      have ht := twinG_any (g := ⟨id, ho, pa, mo, st, te⟩) (hrd.gr ((Gr.refl wr).alloc (.cells #[.int .i64 id, .int .i64 ho, .string pa, .int .i64 mo, sv, .int .i64 te] 35))) (by show st.length ≤ _; omega)
      obtain ⟨qs, cs, rfl⟩ := hrd.len
      unfold aggG cellsG NewG at ht
      simp only at ht
      have HM := hide (And.intro hm (And.intro hgm (And.intro htk (And.intro hmap hsl))))
      have hszr := hm.size
      have hszw : w.heap.size + 1 ≤ wc.heap.size := lt_of_block H3.out.2.2.2.1
      clear hc hrd hls htk hm hgm hmap hsl
      go_wp2_with fail
      refine ht.mono ?_
      rintro e w2 ⟨v', rfl, hr2, hm2⟩
      have hgro := HM.out.2.1.row
      have hap : ∀ k, k ∈ ob v' → k ∉ ob u3 := fun k hk hk2 => by
        have h1 := (ob_of_row hr2 k hk).1
        have h2 := (ob_of_row hgro k hk2).2
        simp at h1
        omega
      have hsz2 := hm2.size
      simp at hsz2
      have hst0 := World.ownsRow.mono hr2 (show w.heap.size + 1 ≤ _ by simp; omega)
      have hgm0 := (HM.out.2.1.gr ((Gr.refl wr).alloc _)).mod hm2 (by simp)
      obtain ⟨p', c', hv'⟩ := (rdN_of_row hr2).len
      subst hv'
      obtain ⟨W3, hW3⟩ : ∃ W3, W3 = w2.alloc (.cells #[.int .i64 3, .int .i64 id, .int .i64 ho, .string pa, .int .i64 mo, .slice p' st.length c', .int .i64 te, .int .i64 0, .slice none 0 0, .int .i64 0, .int .i64 0, .int .i64 0] 93 (0, 0)) := ⟨_, rfl⟩
      have hk3 : W3.heap[w2.heap.size]? = some (.cells (encP (recK ⟨id, ho, pa, mo, st, te⟩, .slice p' st.length c')).toArray 93 (0, 0)) := by rw [hW3]; exact heap_alloc_new w2 _
      have g3 : Gr w2 W3 := by rw [hW3]; exact (Gr.refl w2).alloc _
      have hgm2 := hgm0.gr g3
      have hst3 := (g3.mod []).row hst0 (by simp)
      have hsz3 : w2.heap.size < W3.heap.size := lt_of_block hk3
      have hslk := HM.out.2.2.2.2
      have HN := hide (And.intro hm2 (And.intro hgro g3))
      have HG2 := hide (And.intro hgm2 (And.intro hst3 (And.intro hap hk3)))
      clear ht c0 c1 c2 c3 c4 c5 hr2 hm2 hgro hst0 hgm0 hgm2 hst3 hap hk3 g3 B3
      simp only [aggG, cellsG]
      go_wp2_with (
        at_builtin
        try rw [← hW3]
        refine wpList_app_dm (r := recK ⟨id, ho, pa, mo, st, te⟩) (sv := .slice p' st.length c') (sl := sl) (base := w.heap.size + 1) W3 rfl _ _ rfl rfl HG2.out.1 (by omega) (by omega) (k := w2.heap.size) rfl HG2.out.2.2.2 HG2.out.2.1 HG2.out.2.2.1 rfl ?_
        rintro u' w3 hgm3 hm3 ⟨p5, c5, rfl⟩)
      go_roundw
      case rel =>
        refine ⟨k + 1, sl ++ [(recK ⟨id, ho, pa, mo, st, te⟩, .slice p' st.length c')], by go_num, by omega, ?_, (by rw [← hslk]; exact hgm3), ?_⟩
        · rw [HM.out.2.2.1, List.map_append, HM.out.2.2.2.1, List.append_assoc]; rfl
        · refine (((HM.out.1.alloc _).then HN.out.1).gr HN.out.2.2).trans hm3 (by simp) (fun x hx hlt => ?_)
          have := (ob_of_row HN.out.2.1 x hx).1
          omega
      case measure => simp [intOf]; omega
    · obtain rfl : k = lv.length := by omega
      obtain ⟨p4, c4, hu, _⟩ := hgm.shape
      subst hu
      have HE := hide (And.intro hm (And.intro hgm hmap))
      clear hm hgm hmap hsl B3
      go_wp2_with fail
      go_ret
      refine ⟨_, sl, rfl, ?_, HE.out.2.1.base (Nat.le_succ _), HE.out.1⟩
      rw [HE.out.2.2, List.take_length, HP.out.1, HH.out.2.1, List.map_map]
      rfl
end Go.Proofs.YtllljngpgjkdiaaGreatDoor
