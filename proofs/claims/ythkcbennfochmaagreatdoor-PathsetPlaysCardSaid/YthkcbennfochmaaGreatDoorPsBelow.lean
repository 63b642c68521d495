/-
  WALK: layer 5: below.
-/
import Derived.Test.YthkcbennfochmaaGreatDoorPsRow
import Derived.Deep.LoopGhost
namespace Go.Proofs.YthkcbennfochmaaGreatDoor
open Go.RowKit Go.Maps

/-- slices.Collect(maps.Values(m)): the map boxed, its entries in a new row -/
theorem coll_gen {w : World} {b : Nat} {L : List Ent} (hL : L.Pairwise fun a b => a.id ≠ b.id) (hsm : L.length ≤ 64) (hown : MapL iK w b (L.map entV)) :
    Calls Tryz.prog 34 #[.func (.func 52) #[] #[.pointer (some ⟨w.heap.size, 0, none⟩)]] (w.alloc (.cells #[.map (some b)] 68)) fun e w' =>
      ∃ (v : Value) (xs : List Ent), e = .returned v ∧ xs.Perm L ∧ RowE w' (w.heap.size + 1) v xs ∧ Mod [] w w' := by
  refine (collect_any hL hsm (b := b) (by rw [blk_cell (heap_alloc_new w (.cells #[.map (some b)] 68))]; rfl) (hown.mod (((Gr.refl w).alloc _).mod []) (by simp))).mono ?_
  rintro e w' ⟨v, xs, h1, h2, h3, h4⟩
  rw [World.size_alloc] at h3
  exact ⟨v, xs, h1, h2, h3, (((Gr.refl w).alloc _).mod []).then h4⟩
theorem ents_le (l : List Ent) (p : List Seg) : (entsOf l p).length ≤ l.length := List.length_filter_le _ _
theorem ents_ids {l : List Ent} (h : l.Pairwise fun a b => a.id ≠ b.id) (p : List Seg) : (entsOf l p).Pairwise fun a b => a.id ≠ b.id := h.filter _
theorem pickN {lr : List Nd} (h : lr.Pairwise fun a b => (kidV a).1 ≠ (kidV b).1) {e : Nd} (he : e ∈ lr) : lr.Perm (e :: lr.filter fun y => decide ((kidV y).1 ≠ (kidV e).1)) := by
  induction lr with
  | nil => cases he
  | cons z r ih =>
    have h' := List.pairwise_cons.1 h
    rw [List.filter_cons]
    rcases List.mem_cons.1 he with x | x
    · subst x
      rw [if_neg (by simp)]
      rw [List.filter_eq_self.2 (fun q hq => decide_eq_true (h'.1 q hq).symm)]
    · rw [if_pos (decide_eq_true (h'.1 e x))]
      exact (List.Perm.cons z (ih h'.2 x)).trans (List.Perm.swap e z _)
theorem del_kidV (lr : List Nd) (x : ByteArray) : delM (lr.map kidV) x = (lr.filter fun y => decide ((kidV y).1 ≠ x)).map kidV := by
  unfold delM
  rw [List.filter_map]
  rfl
theorem range_apart {κ : Type} {T : TypeId} {K : KeyT Tryz.prog T κ} {w : World} {b r base : Nat} {L lf : List (κ × Value)} {u : Value} {xs : List Ent} (hR : RangeL K w b r L lf) (hu : RowE w base u xs) : u.ownBlock ≠ some r := by
  obtain ⟨n, left, cnt, h1, -⟩ := hR.rep
  obtain ⟨o, ho, hw⟩ := h1.iter_walk
  obtain ⟨q, c, rfl, -, h2⟩ := row_form hu
  rcases h2 with ⟨rfl, -⟩ | ⟨g, cur, rfl, -, hg, -⟩
  · simp [Value.ownBlock]
  · intro e
    have : g = r := by simpa [Value.ownBlock] using e
    subst this
    rw [hg] at ho
    cases ho
    cases hw
theorem below_le (l : List Ent) (p : List Seg) : (belowL l p).length ≤ l.length := List.length_filter_le _ _
/-- all entries below a place, in a new row -/
def BelTo (w : World) (l : List Ent) (p : List Seg) (e : Ending) (w' : World) : Prop := ∃ (v : Value) (xs : List Ent), e = .returned v ∧ xs.Perm (belowL l p) ∧ RowE w' w.heap.size v xs ∧ Mod [] w w'
def BelRel (w : World) (l : List Ent) (n : Nd) (K : List Nd) (r : Nat) (g : Nat) (u : Value) (wr : World) : Prop :=
  ∃ (lf : List (ByteArray × Value)) (lr : List Nd) (xs : List Ent), lf = lr.map kidV ∧ lr.length = g ∧ lr.Sublist K ∧ RangeL sK wr n.cm r (K.map kidV) lf ∧ (xs ++ lr.flatMap fun m => belowL l m.pre).Perm (belowL l n.pre) ∧ RowE wr w.heap.size u xs ∧ Mod [] w wr
set_option maxHeartbeats 2000000 in
set_option maxRecDepth 100000 in
theorem below_any (d : Nat) : ∀ (w : World) (N : List Nd) (l : List Ent) (_ : TreeM w N l) (_ : l.Pairwise fun a b => a.id ≠ b.id) (_ : l.length ≤ 64) (_ : ∀ m, m ∈ N → m.pre.length ≤ 4) (n : Nd) (_ : n ∈ N) (_ : n.pre.length + d = 5),
    Calls Tryz.prog 24 #[.pointer (some ⟨n.b, 0, none⟩)] w fun en w' => BelTo w l n.pre en w' := by
  induction d with
  | zero =>
    intro w N l h hids hsm hmax n hn hd
    have := hmax n hn
    omega
  | succ d ih =>
    intro w N l h hids hsm hmax n hn hd
    obtain ⟨i0, hi, hz0, hz1, hz2⟩ := info_parts info_ent
    have hnd := h.nd n hn
    have CB := blk_cell hnd.blk
    have hem := hnd.em
    have hcol := fun (W : World) (m : Mod [] w W) => coll_gen (ents_ids hids n.pre) (Nat.le_trans (ents_le l n.pre) hsm) (hem.mod m (by simp))
    have HC := hide hcol
    have HX := hide (And.intro h (And.intro hids (And.intro hsm (And.intro hmax (And.intro hn hd)))))
    have HIH := hide ih
    have HI := hide (And.intro hi (And.intro hz0 (And.intro hz1 hz2)))
    clear h hids hsm hmax hn hd hem hcol ih hnd hi hz0 hz1 hz2
    go_enter Tryz.func24, Tryz.ntmps24
    go_wp2_with (first
      | (go_at_call 35
         refine (values_any _ _).mono ?_
         rintro e w' ⟨rfl, rfl⟩)
      | (go_at_call 34
         refine (HC.out w (Mod.refl _ _)).mono ?_
         rintro e w1 ⟨v1, xs1, rfl, hp1, hr1, hm1⟩
         obtain ⟨h, hids, hsm, hmax, hn, hd⟩ := HX.out
         have h1 := h.mod hm1 (by simp)
         have hnd1 := h1.nd n hn
         have CB1 := blk_cell hnd1.blk
         have hcm1 := hnd1.cm
         have HR := hide (And.intro hp1 (And.intro hr1 (And.intro hm1 h1)))
         clear hp1 hr1 hm1 h1 hnd1 h hids hsm hmax hn hd HC CB)
      | (at_range
         refine wpList_range_L (T := sK) _ rfl _ rfl Tryz.underlying69 rfl hcm1 ?_
         intro w2 hR0 hm2 hs2)
      | fail)
    go_frame
    go_loopg [3] (kidsOf N n.pre).length (fun g u wr => BelRel w l n (kidsOf N n.pre) w1.heap.size g u wr)
    case atStart =>
      obtain ⟨hp1, hr1, hm1, h1⟩ := HR.out
      refine ⟨_, kidsOf N n.pre, xs1, rfl, rfl, List.Sublist.refl _, hR0, ?_, (hr1.mod hm2 (by simp)).mono (Nat.le_succ _), hm1.then hm2⟩
      exact (List.Perm.append_right _ hp1).trans (below_perm h1.tr n.pre).symm
    case round =>
      clear hR0 hm2 hs2 CB1
      obtain ⟨lf, lr, xs, hlf, hg, hsub, hR, hpm, hrow, hmw⟩ := hrel
      have HG := hide (And.intro hlf (And.intro hg (And.intro hsub hpm)))
      have HW := hide (And.intro hrow hmw)
      clear hlf hg hsub hpm hrow hmw
      go_wp2_with (
        at_next
        refine wpList_next_L (T := sK) _ rfl _ rfl rfl hR ?_ ?_)
      · intro h0
        go_wp2_with fail
        go_ret
        obtain ⟨hlf, hg, hsub, hpm⟩ := HG.out
        obtain ⟨hrow, hmw⟩ := HW.out
        have hlr : lr = [] := List.map_eq_nil_iff.1 (hlf.symm.trans h0)
        rw [hlr] at hpm
        exact ⟨_, xs, rfl, by simpa using hpm, hrow, hmw⟩
      · intro x v w3 hx hR3 hm3 hen
        obtain ⟨hlf, hg, hsub, hpm⟩ := HG.out
        obtain ⟨hrow, hmw⟩ := HW.out
        obtain ⟨h, hids, hsm, hmax, hn, hd⟩ := HX.out
        rw [hlf] at hx hR3
        obtain ⟨z, hz, ez⟩ := List.mem_map.1 hx
        have hzk := hsub.subset hz
        obtain ⟨y, hy⟩ := kid_pre hzk
        have hone := hcm1.one
        rw [List.pairwise_map] at hone
        have hpk := pickN (hone.sublist hsub) hz
        obtain ⟨rfl, rfl⟩ := Prod.mk.inj ez
        have hrl := hR.lt
        have hap := range_apart hR hrow
        have hr1b : w.heap.size ≤ w1.heap.size := HR.out.2.2.1.size
        have hm3w : Mod [] w w3 := hmw.trans hm3 (by simp) (fun k hk hlt => by rw [List.mem_singleton.1 hk] at hlt; omega)
        have h3 := h.mod hm3w (by simp)
        have hbl := HIH.out w3 N l h3 hids hsm hmax z (mem_kids.1 hzk).1 (by rw [hy]; simp; omega)
        have hrow3 : RowE w3 w.heap.size u3 xs := hrow.mod hm3 (fun k hk => by simp; exact fun e => hap (by rw [hk, e]))
        have hlen : xs.length + (belowL l z.pre).length ≤ 64 := by
          have h1 := hpm.length_eq
          have h2 := (hpk.flatMap_right (fun m => belowL l m.pre)).length_eq
          have h3 := below_le l n.pre
          simp only [List.length_append, List.flatMap_cons] at h1 h2
          omega
        have HB := hide hbl
        have HN := hide (And.intro hpk (And.intro hR3 (And.intro hm3w (And.intro hlen hrow3))))
        simp only [sK] at hen
        clear hlf hg hsub hpm hrow hmw h hids hsm hmax hn hd hx hz hzk hy hone hpk hrl hap h3 hbl hrow3 hlen hR hR3 hm3 hm3w hr1b
        go_wp2_with (first
          | (go_at_call 24
             refine HB.out.mono ?_
             rintro e w4 ⟨v4, ys, rfl, hp4, hr4, hm4⟩
             obtain ⟨hi, hz0, hz1, hz2⟩ := HI.out
             obtain ⟨hpk, hR3, hm3w, hlen, hrow3⟩ := HN.out
             have hrow4 := hrow3.mod hm4 (by simp)
             have hR4 := hR3.mod _ hm4 (by simp) (by simp)
             have hlen4 : xs.length + ys.length ≤ 64 := by rw [hp4.length_eq]; exact hlen
             have q6 : xs.length + ys.length ≤ maxLen := by unfold maxLen; omega
             have q7 : (xs.length + ys.length) * 40 ≤ 140737488355328 := by omega
             have q8 : w.heap.size ≤ w4.heap.size := (hm3w.then hm4).size
             have H4 := hide (And.intro hp4 (And.intro hR4 (And.intro hm4 (And.intro hpk hm3w))))
             clear hp4 hR4 hm4 hpk hR3 hm3w hlen hrow3 HN HB)
          | (at_builtin
             refine wpList_append_row _ rfl _ _ 26 rfl 29 i0 _ 4 40 Tryz.underlying26 hi hz0 hz1 hz2 rfl (by decide) rfl hrow4 rfl hr4 (encEs_one ys) q6 q7 q8 ?_
             intro u5 w5 hown5 hgr5
             have hu5 : RowE w5 w.heap.size u5 (xs ++ ys) := by
               unfold RowE
               rw [List.length_append, List.flatMap_append]
               exact hown5
             obtain ⟨hp4, hR4, hm4, hpk, hm3w⟩ := H4.out
             have hap := range_apart hR4 hrow4
             have hown4 := fun k (hk : u3.ownBlock = some k) => hrow4.own hk
             have hm5 : Mod (obl u3) w4 w5 := (Mod.refl (obl u3) w4).grown hgr5 (fun k e _ => mem_obl.2 e)
             have hR5 := hR4.mod _ hm5 (fun e => by
               have h1 := hown4 n.cm (mem_obl.1 e)
               have h2 := (HX.out.1.nd n HX.out.2.2.2.2.1).cm.lt
               omega) (fun e => hap (mem_obl.1 e))
             have hmw5 : Mod [] w w5 := (hm3w.then hm4).trans hm5 (by simp) (fun k hk hlt => by
               have h1 := hown4 k (mem_obl.1 hk)
               omega)
             have H5 := hide (And.intro hp4 (And.intro hR5 (And.intro hu5 (And.intro hmw5 hpk))))
             clear hp4 hR4 hm4 hpk hm3w hap hown4 hm5 hR5 hmw5 hu5 hown5 hgr5 hrow4 hr4 H4 hi hz0 hz1 hz2)
          | fail)
        go_roundg (lr.filter fun y => decide ((kidV y).1 ≠ (kidV z).1)).length
        case measure =>
          have h1 := H5.out.2.2.2.2.length_eq
          have h2 := HG.out.2.1
          rw [List.length_cons] at h1
          omega
        case rel =>
          obtain ⟨hp4, hR5, hu5, hmw5, hpk⟩ := H5.out
          obtain ⟨hlf, hg, hsub, hpm⟩ := HG.out
          refine ⟨_, _, xs ++ ys, rfl, rfl, List.filter_sublist.trans hsub, by rw [← del_kidV]; exact hR5, ?_, hu5, hmw5⟩
          refine List.Perm.trans ?_ hpm
          rw [List.append_assoc]
          refine List.Perm.append_left xs ?_
          refine List.Perm.trans ?_ (hpk.flatMap_right (fun m => belowL l m.pre)).symm
          rw [List.flatMap_cons]
          exact List.Perm.append_right _ hp4
end Go.Proofs.YthkcbennfochmaaGreatDoor
