/-
  WALK: layer 5: prune.
-/
import Derived.Test.YthkcbennfochmaaGreatDoorPsPut
namespace Go.Proofs.YthkcbennfochmaaGreatDoor
open Go.RowKit Go.Maps

theorem id_one {l : List Ent} (h : l.Pairwise fun a b => a.id ≠ b.id) {x y : Ent} (hx : x ∈ l) (hy : y ∈ l) (e : x.id = y.id) : x = y := by
  induction l with
  | nil => cases hx
  | cons z r ih =>
    have h' := List.pairwise_cons.1 h
    rcases List.mem_cons.1 hx with e1 | e1 <;> rcases List.mem_cons.1 hy with e2 | e2
    · rw [e1, e2]
    · exact absurd (by rw [← e1, e]) (h'.1 y e2)
    · exact absurd (by rw [← e2, e]) (h'.1 x e1)
    · exact ih h'.2 e1 e2
theorem ents_drop (l : List Ent) (p : List Seg) (i : Int) : (entsOf (dropS5 l i) p).map entV = delM ((entsOf l p).map entV) i := by
  unfold delM entsOf dropS5
  rw [List.filter_map, List.filter_filter, List.filter_filter]
  congr 1
  refine List.filter_congr fun x _ => ?_
  exact Bool.and_comm _ _
theorem ents_drop_other {l : List Ent} (h : l.Pairwise fun a b => a.id ≠ b.id) {e : Ent} (he : e ∈ l) {p : List Seg} (hp : p ≠ e.sg) : entsOf (dropS5 l e.id) p = entsOf l p := by
  unfold entsOf dropS5
  rw [List.filter_filter]
  refine List.filter_congr fun x hx => ?_
  by_cases hs : x.sg = p
  · have : x.id ≠ e.id := fun q => hp (by rw [← id_one h hx he q, hs])
    simp [hs, this]
  · simp [hs]
theorem mem_dropS5 {l : List Ent} {i : Int} {x : Ent} : x ∈ dropS5 l i ↔ x ∈ l ∧ x.id ≠ i := by simp [dropS5]
/-- a place loses an entry -/
theorem TreeM.drop {w w2 : World} {N : List Nd} {l : List Ent} (h : TreeM w N l) (hids : l.Pairwise fun a b => a.id ≠ b.id) {q : Nd} (hq : q ∈ N) {e : Ent} (he : e ∈ l) (hp : q.pre = e.sg)
    (h2 : MapL iK w2 q.em (delM ((entsOf l q.pre).map entV) e.id)) (hg : w.grownBy w2 (some q.em)) : TreeM w2 N (dropS5 l e.id) ∧ Mod [q.em] w w2 := by
  have m : Mod [q.em] w w2 := (Mod.refl [q.em] w).grown hg (fun k x _ => by simp at x; simp [x])
  refine ⟨⟨fun n hn => ?_, h.apart, h.tr.sub fun x hx => (mem_dropS5.1 hx).1⟩, m⟩
  have hn0 := h.nd n hn
  by_cases hpq : n.pre = q.pre
  · have e0 : n = q := pre_one h.tr.one hn hq hpq
    obtain ⟨o1, o2, o3⟩ := own3 (blks_own h.apart n hn)
    subst e0
    refine ⟨m.at_ hn0.blk (by simpa using o1), ?_, hn0.cm.mod m (by simpa using Ne.symm o3)⟩
    rw [ents_drop]
    exact h2
  · have ha := blks_apart h.apart n hn q hq hpq
    refine ⟨m.at_ hn0.blk (by simpa using ha n.b (by simp) q.em (by simp)), ?_, hn0.cm.mod m (by simpa using ha n.cm (by simp) q.em (by simp))⟩
    rw [ents_drop_other hids he (by rw [← hp]; exact hpq)]
    exact hn0.em.mod m (by simpa using ha n.em (by simp) q.em (by simp))
theorem flat_sub {α β : Type} (f : α → List β) (g : α → Bool) : ∀ (L : List α), ((L.filter g).flatMap f).Sublist (L.flatMap f)
  | [] => List.Sublist.refl _
  | x :: r => by
    rw [List.filter_cons, List.flatMap_cons]
    split
    · rw [List.flatMap_cons]
      exact List.Sublist.append (List.Sublist.refl _) (flat_sub f g r)
    · exact (flat_sub f g r).trans (List.sublist_append_right _ _)
theorem kids_cut_map (N : List Nd) (p : List Seg) (x : Seg) : (kidsOf (cutN N (p ++ [x])) p).map kidV = delM ((kidsOf N p).map kidV) (segOf x) := by
  rw [kids_cut]
  unfold delM
  rw [List.filter_map]
  congr 1
  refine List.filter_congr fun m hm => ?_
  obtain ⟨y, hy⟩ := kid_pre hm
  show decide (m.pre ≠ p ++ [x]) = decide (segOf (m.pre.getLastD []) ≠ segOf x)
  rw [(snoc_last hy).2.2, Bool.eq_iff_iff, decide_eq_true_eq, decide_eq_true_eq]
  constructor
  · intro h e; exact h (by rw [hy, segOf_inj e])
  · intro h e
    refine h ?_
    rw [hy] at e
    have := List.append_cancel_left e
    rw [(List.cons.inj this).1]
theorem kids_cut_other (N : List Nd) {p q : List Seg} {x : Seg} (h : q ≠ p) : kidsOf (cutN N (p ++ [x])) q = kidsOf N q := by
  rw [kids_cut]
  refine List.filter_eq_self.2 fun m hm => decide_eq_true fun e => h ?_
  have := (mem_kids.1 hm).2.2
  rw [← this, e, List.dropLast_concat]
/-- an empty place is cut off -/
theorem TreeM.cut {w w2 : World} {N : List Nd} {l : List Ent} (h : TreeM w N l) {q : Nd} (hq : q ∈ N) {x : Seg} (h1 : entsOf l (q.pre ++ [x]) = []) (h3 : kidsOf N (q.pre ++ [x]) = [])
    (h2 : MapL sK w2 q.cm (delM ((kidsOf N q.pre).map kidV) (segOf x))) (hg : w.grownBy w2 (some q.cm)) : TreeM w2 (cutN N (q.pre ++ [x])) l ∧ Mod [q.cm] w w2 := by
  have m : Mod [q.cm] w w2 := (Mod.refl [q.cm] w).grown hg (fun k x _ => by simp at x; simp [x])
  refine ⟨⟨fun n hn' => ?_, h.apart.sublist (flat_sub _ _ _), h.tr.cut (by simp) h1 h3⟩, m⟩
  have hn := (mem_cutN.1 hn').1
  have hn0 := h.nd n hn
  by_cases hpq : n.pre = q.pre
  · have e0 : n = q := pre_one h.tr.one hn hq hpq
    obtain ⟨o1, o2, o3⟩ := own3 (blks_own h.apart n hn)
    subst e0
    refine ⟨m.at_ hn0.blk (by simpa using o2), hn0.em.mod m (by simpa using o3), ?_⟩
    rw [kids_cut_map]
    exact h2
  · have ha := blks_apart h.apart n hn q hq hpq
    refine ⟨m.at_ hn0.blk (by simpa using ha n.b (by simp) q.cm (by simp)), hn0.em.mod m (by simpa using ha n.em (by simp) q.cm (by simp)), ?_⟩
    rw [kids_cut_other N hpq]
    exact hn0.cm.mod m (by simpa using ha n.cm (by simp) q.cm (by simp))
/-- the segments of a path in memory -/
def SegV (w : World) (N : List Nd) (q : Option Addr) (D : List ByteArray) : Prop := ∀ i, i < D.length → ∃ b off, q = some ⟨b, off, none⟩ ∧ b ∉ blksN N ∧ (D.getD i ByteArray.empty).size ≤ maxLen ∧ w.cell? ⟨b, off + i, none⟩ = some (.string (D.getD i ByteArray.empty))
/-- what prune leaves -/
def PrunedTo (w : World) (N : List Nd) (l : List Ent) (p : List Seg) (e : Ending) (w' : World) : Prop := e = .returned (.tuple #[]) ∧ ∃ N', TreeM w' N' l ∧ Prn N l p N' ∧ Mod (blksN N) w w'
set_option maxRecDepth 100000 in
theorem prune0 {w : World} {N : List Nd} {l : List Ent} (h : TreeM w N l) (hP : Pruned N l) (hids : l.Pairwise fun a b => a.id ≠ b.id) {n : Nd} (hn : n ∈ N) {e : Ent} (he : e ∈ l) (hp : n.pre = e.sg) (q : Option Addr) (c : Nat) (hi : (Lit.int .i64 e.id).wf = true) :
    Calls Tryz.prog 36 #[.pointer (some ⟨n.b, 0, none⟩), .slice q 0 c, .int .i64 e.id] w fun en w' => PrunedTo w N (dropS5 l e.id) n.pre en w' := by
  have hnd := h.nd n hn
  have CB := blk_cell hnd.blk
  have hem := hnd.em
  have HX := hide (And.intro h (And.intro hP (And.intro hids (And.intro hn (And.intro he hp)))))
  clear h hP hids hn he hp hnd
  go_enter Tryz.func36, Tryz.ntmps36
  go_wp2_with (
    at_delete
    refine wpList_delete_L (T := iK) _ rfl _ _ rfl Tryz.underlying68 rfl hem (key := e.id) hi rfl ?_
    intro w4 q1 q2
    clear hem CB)
  refine bodyPost_ret (results_none rfl _ _ _) rfl ?_
  obtain ⟨h, hP, hids, hn, he, hp⟩ := HX.out
  obtain ⟨hT, m⟩ := h.drop hids hn he hp q1 q2
  refine ⟨rfl, N, hT, Prn.base h.tr hP (fun x hx => (mem_dropS5.1 hx).1) (fun x hx => ?_), m.mono fun x hx _ => by rw [List.mem_singleton.1 hx]; exact (mem_blks hn).2.1⟩
  by_cases hxe : x.id = e.id
  · exact .inr (by rw [id_one hids hx he hxe, hp])
  · exact .inl (mem_dropS5.2 ⟨hx, hxe⟩)
/-- behind the call of itself: the child is empty and is cut off -/
theorem prune_cut {w w3 w5 : World} {N N1 : List Nd} {l : List Ent} {e : Ent} {n z : Nd} {x : ByteArray} {R : List ByteArray} (hPr : Prn N (dropS5 l e.id) z.pre N1) (hP : Pruned N l) (hp : e.sg = n.pre ++ (x :: R).map fun x => x.data.toList) (hn1 : n ∈ N1) (hm1 : Mod (blksN N) w.drew w3) (hzp : z.pre = n.pre ++ [x.data.toList])
    {hids : l.Pairwise fun a b => a.id ≠ b.id} {he : e ∈ l} (hT1 : TreeM w3 N1 (dropS5 l e.id)) (q1 : MapL sK w5 n.cm (delM ((kidsOf N1 n.pre).map kidV) (segOf x.data.toList))) (q2 : w3.drew.grownBy w5 (some n.cm)) (h1 : entsOf (dropS5 l e.id) z.pre = []) (h2 : kidsOf N1 z.pre = []) :
    PrunedTo w N (dropS5 l e.id) n.pre (.returned (.tuple #[])) w5 := by
  rw [hzp] at hPr h1 h2
  have hTd := hT1.mod ((Gr.refl w3).drew.mod []) (by simp)
  obtain ⟨hT, m⟩ := hTd.cut hn1 h1 h2 q1 q2
  have hst := (Prn.step (s := e.sg) hP (fun y hy => ?_) (by rw [hp]; exact ⟨R.map fun x => x.data.toList, by simp⟩) hPr).1 ⟨h1, h2⟩
  · refine ⟨rfl, _, hT, hst, ((((Gr.refl w).drew.mod (blksN N)).then hm1).drew).trans m (fun _ y _ => y) fun y hy _ => ?_⟩
    rw [List.mem_singleton.1 hy]
    exact (mem_blks (hPr.sub n hn1)).2.2
  · by_cases hye : y.id = e.id
    · exact .inr (by rw [id_one hids hy he hye])
    · exact .inl (mem_dropS5.2 ⟨hy, hye⟩)
theorem prune_let {w w3 : World} {N N1 : List Nd} {l : List Ent} {e : Ent} {n z : Nd} {x : ByteArray} {R : List ByteArray} (hPr : Prn N (dropS5 l e.id) z.pre N1) (hP : Pruned N l) (hp : e.sg = n.pre ++ (x :: R).map fun x => x.data.toList) (_ : n ∈ N1) (hm1 : Mod (blksN N) w.drew w3) (hzp : z.pre = n.pre ++ [x.data.toList])
    {hids : l.Pairwise fun a b => a.id ≠ b.id} {he : e ∈ l} (hT1 : TreeM w3 N1 (dropS5 l e.id)) (h1 : ¬ (entsOf (dropS5 l e.id) z.pre = [] ∧ kidsOf N1 z.pre = [])) :
    PrunedTo w N (dropS5 l e.id) n.pre (.returned (.tuple #[])) w3 := by
  rw [hzp] at hPr h1
  have hst := (Prn.step (s := e.sg) hP (fun y hy => ?_) (by rw [hp]; exact ⟨R.map fun x => x.data.toList, by simp⟩) hPr).2 h1
  · exact ⟨rfl, _, hT1, hst, ((Gr.refl w).drew.mod (blksN N)).then hm1⟩
  · by_cases hye : y.id = e.id
    · exact .inr (by rw [id_one hids hy he hye])
    · exact .inl (mem_dropS5.2 ⟨hy, hye⟩)
set_option maxHeartbeats 2000000 in
set_option maxRecDepth 100000 in
theorem prune_any (d : Nat) : ∀ {w : World} {N : List Nd} {l : List Ent} (_ : TreeM w N l) (_ : Pruned N l) (_ : l.Pairwise fun a b => a.id ≠ b.id) {n : Nd} (_ : n ∈ N) {e : Ent} (_ : e ∈ l) {D : List ByteArray} (_ : D.length = d) (_ : e.sg = n.pre ++ D.map fun x => x.data.toList) (q : Option Addr) (_ : SegV w N q D) (c : Nat) (_ : D.length ≤ c) (_ : c ≤ 4) (_ : (Lit.int .i64 e.id).wf = true),
    Calls Tryz.prog 36 #[.pointer (some ⟨n.b, 0, none⟩), .slice q D.length c, .int .i64 e.id] w fun en w' => PrunedTo w N (dropS5 l e.id) n.pre en w' := by
  induction d with
  | zero =>
    intro w N l h hP hids n hn e he D hD hp q hq c hc hc4 hi
    rw [hD]
    have : D = [] := List.length_eq_zero_iff.1 hD
    subst this
    exact prune0 h hP hids hn he (by simpa using hp.symm) q c hi
  | succ d ih =>
    intro w N l h hP hids n hn e he D hD hp q hq c hc hc4 hi
    obtain ⟨x, R, rfl⟩ : ∃ x R, D = x :: R := by
      cases D with
      | nil => simp at hD
      | cons x R => exact ⟨x, R, rfl⟩
    obtain ⟨b, off, rfl, hbN, hxs, hcx⟩ := hq 0 (by simp)
    simp only [List.getD_cons_zero] at hxs hcx
    simp only [Nat.add_zero] at hcx
    have hnd := h.nd n hn
    have CB := blk_cell hnd.blk
    have hcm := hnd.cm
    have hpx : n.pre ++ [x.data.toList] <+: e.sg := ⟨R.map fun x => x.data.toList, by rw [hp]; simp⟩
    obtain ⟨z, hz, hzp⟩ := h.tr.at_ he hpx
    have hg : lookV false (.pointer none) (getM ((kidsOf N n.pre).map kidV) x) = .pointer (some ⟨z.b, 0, none⟩) := by
      have := kid_some hcm hz hzp
      rw [segOf_bytes] at this
      rw [this]
      rfl
    have HK : ∀ w' : World, w'.heap[n.cm]? = w.heap[n.cm]? → (Instr.lookup 69 (.map (some n.cm)) (.string x) false).run Tryz.prog w' = .ok (.pointer (some ⟨z.b, 0, none⟩)) w' := fun w' ew => by
      rw [← hg]
      exact (hcm.at_ ew).look (t := 69) Tryz.underlying69 (zero_br w') false hxs
    have hlk := HK w rfl
    have HK' := hide HK
    have c1 : w.cell? ⟨n.b, 1, none⟩ = some (.map (some n.cm)) := CB 1
    have hR : R.length + 1 = (x :: R).length := rfl
    have HX := hide (And.intro h (And.intro hP (And.intro hids (And.intro hn (And.intro he (And.intro hp (And.intro hq (And.intro hz (And.intro hzp hD)))))))))
    have hle : R.length + 1 ≤ c := by simpa using hc
    have hc0 : (0 : Nat) < R.length + 1 := by omega
    have HCX := hide hcx
    clear hR h hP hids hn he hp hq hz hzp hD hnd CB hcm hpx hg HK
    simp only [List.length_cons]
    go_enter Tryz.func36, Tryz.ntmps36
    go_wp2_with fail
    go_region_held3 (fun w' => w'.cell? ⟨n.b, 1, none⟩ = some (.map (some n.cm)) ∧ w'.cell? ⟨b, off, none⟩ = some (.string x) ∧ (Instr.lookup 69 (.map (some n.cm)) (.string x) false).run Tryz.prog w' = .ok (.pointer (some ⟨z.b, 0, none⟩)) w')
      (first | (go_split_ands; refine ⟨?_, ?_, HK'.out _ rfl⟩ <;> (first | rfl | assumption | go_keep)) | fail)
      (fail)
    clear hlk HK' c1 hcx
    have hcall : ∀ q' c', (q' = some ⟨b, off, none⟩ ∧ c' = 0 ∧ c = 1) ∨ (q' = some ⟨b, off + 1, none⟩ ∧ c' = c - 1) → Calls Tryz.prog 36 #[.pointer (some ⟨z.b, 0, none⟩), .slice q' R.length c', .int .i64 e.id] w.drew fun en w' => PrunedTo w.drew N (dropS5 l e.id) z.pre en w' := by
      intro q' c' hqc
      obtain ⟨h, hP, hids, hn, he, hp, hq, hz, hzp, hD⟩ := HX.out
      refine ih (h.mod ((Gr.refl w).drew.mod []) (by simp)) hP hids hz he (by simpa using hD) (by rw [hp, hzp]; simp) q' ?_ c' ?_ ?_ hi
      · intro i hi2
        rcases hqc with ⟨-, -, h1⟩ | ⟨rfl, -⟩
        · omega
        · obtain ⟨b2, off2, e2, h1, h2, h3⟩ := hq (i + 1) (by simpa using hi2)
          obtain ⟨rfl, rfl⟩ : b = b2 ∧ off = off2 := by simpa using e2
          refine ⟨b, off + 1, rfl, h1, by simpa using h2, ?_⟩
          rw [show off + 1 + i = off + (i + 1) by omega]
          simpa using h3
      · rcases hqc with ⟨-, rfl, h1⟩ | ⟨-, rfl⟩ <;> omega
      · rcases hqc with ⟨-, rfl, h1⟩ | ⟨-, rfl⟩ <;> omega
    have HC := hide hcall
    clear hcall ih
    go_upto_region 4 with (
      go_at_call 36
      refine (HC.out _ _ (by first | exact .inl ⟨rfl, rfl, by omega⟩ | exact .inr ⟨rfl, rfl⟩)).mono ?_
      rintro en w3 ⟨rfl, N1, hT1, hPr, hm1⟩
      obtain ⟨h, hP, hids, hn, he, hp, hq, hz, hzp, hD⟩ := HX.out
      have hn1 : n ∈ N1 := hPr.keep n hn (fun x => by have := x.1.length_le; rw [hzp] at this; simp at this; omega)
      have hz1 : z ∈ N1 := hPr.keep z hz (fun x => x.2 rfl)
      have hnd1 := hT1.nd n hn1
      have hzd1 := hT1.nd z hz1
      have CN := blk_cell hnd1.blk
      have CZ := blk_cell hzd1.blk
      have hze := hzd1.em
      have hzc := hzd1.cm
      have hnc := hnd1.cm
      have hcx3 : w3.cell? ⟨b, off, none⟩ = some (.string x) := hm1.kept (a := w.drew) HCX.out hbN
      obtain ⟨k1, hk1⟩ : ∃ k1, ((entsOf (dropS5 l e.id) z.pre).map entV).length = k1 := ⟨_, rfl⟩
      obtain ⟨k2, hk2⟩ : ∃ k2, ((kidsOf N1 z.pre).map kidV).length = k2 := ⟨_, rfl⟩
      have hl1 : (Builtin.len_ #[68] 3 #[.map (some z.em)]).run Tryz.prog w3 = .ok (.int .i64 k1) w3 := by
        have := hze.tight.len Tryz.underlying68 3
        rwa [hze.size, hk1] at this
      have hl2 : (Builtin.len_ #[69] 3 #[.map (some z.cm)]).run Tryz.prog w3 = .ok (.int .i64 k2) w3 := by
        have := hzc.tight.len Tryz.underlying69 3
        rwa [hzc.size, hk2] at this
      have hst := fun (w5 : World) (q1 : MapL sK w5 n.cm (delM ((kidsOf N1 n.pre).map kidV) (segOf x.data.toList))) (q2 : w3.drew.grownBy w5 (some n.cm)) (z1 : k1 = 0) (z2 : k2 = 0) =>
        prune_cut hPr hP hp hn1 hm1 hzp (hids := hids) (he := he) hT1 q1 q2 (by rw [z1, List.length_map] at hk1; exact List.length_eq_zero_iff.1 hk1) (by rw [z2, List.length_map] at hk2; exact List.length_eq_zero_iff.1 hk2)
      have hst2 := fun (z1 : ¬ (k1 = 0 ∧ k2 = 0)) =>
        prune_let hPr hP hp hn1 hm1 hzp (hids := hids) (he := he) hT1 (fun y => z1 ⟨by rw [← hk1, y.1]; rfl, by rw [← hk2, y.2]; rfl⟩)
      have HST := hide (And.intro hst hst2)
      have HP := hide (And.intro hT1 (And.intro hPr (And.intro hm1 (And.intro hn1 hz1))))
      clear hT1 hPr hm1 hn1 hz1 hnd1 hzd1 h hP hids hn he hp hq hz hzp hD HC hk1 hk2 hze hzc hst hst2)
    all_goals
      by_cases hk0 : k1 = 0 ∧ k2 = 0
      · obtain ⟨rfl, rfl⟩ := hk0
        go_wp2_with fail
        have hncd := hnc.mod ((Gr.refl w3).drew.mod []) (by simp)
        have c3 : w3.cell? ⟨n.b, 1, none⟩ = some (.map (some n.cm)) := CN 1
        clear hnc CN CZ hl1 hl2
        go_still_tail 7, (by kernel_rfl)
        change wpList _ _ _ _ _ w3.drew
        go_wp2_with (
          at_delete
          refine wpList_delete_L (T := sK) _ rfl _ _ rfl Tryz.underlying69 rfl hncd (key := x) hxs rfl ?_
          intro w5 q1 q2
          rw [← segOf_bytes x] at q1
          have q := HST.out.1 w5 q1 q2 trivial trivial
          clear hncd c3 q1 q2)
        go_end0
        exact q
      · by_cases hk1 : k1 = 0
        · subst hk1
          have b2 : ((k2 : Int) == 0) = false := by simp; omega
          have HK0 := hide hk0
          clear hk0
          go_wp2_with fail
          go_end0
          exact HST.out.2 HK0.out
        · have b2 : ((k1 : Int) == 0) = false := by simp; omega
          have HK0 := hide hk0
          clear hk0 hk1
          go_wp2_with fail
          go_end0
          exact HST.out.2 HK0.out
end Go.Proofs.YthkcbennfochmaaGreatDoor
