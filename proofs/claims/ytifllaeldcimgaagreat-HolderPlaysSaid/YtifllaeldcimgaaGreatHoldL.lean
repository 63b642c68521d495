/-
  WALKS: layer 17: List.
-/
import Derived.Test.YtifllaeldcimgaaGreatHoldS
namespace Go.Proofs.YtifllaeldcimgaaGreat
open Go.RowKit Go.Sort Go.Shelf

/-- what List answers: a new row of leases, with stamps of their own -/
def NewLs (w : World) (l : List Lease) (e : Ending) (w' : World) : Prop :=
  ∃ (v : Value) (sl : List SL) (f : List Nat), e = .returned v ∧ w'.ownsRow w.heap.size 36 9 v sl.length (sl.flatMap encS) ∧ sl.map Prod.fst = l ∧ (∀ s, s ∈ sl → LsV w' f (pr s)) ∧
    (∀ k, k ∈ f → w.heap.size ≤ k ∧ k < w'.heap.size ∧ k ∉ ob v) ∧ Mod [] w w'
theorem info_lease : (Tryz.prog.info? 36).map (fun i => (i.zero, i.size, i.bytes)) = some (some (aggL Lease.zero (.slice none 0 0)), 9, 96) := by kernel_rfl
theorem hlist_nil (w : World) : Calls Tryz.prog 26 #[.pointer none] w fun e w' => e = .returned (.slice none 0 0) ∧ w = w' := by
  go_enter Tryz.func26, Tryz.ntmps26
  go_wp2
  go_ret
  exact ⟨rfl, rfl⟩
def ListRel (w : World) (pm r : Nat) (lv : List (Lease × Value)) (g : Nat) (u : Value) (wr : World) : Prop :=
  ∃ (lf : List (Key × Value)) (lr : List (Lease × Value)) (sl : List SL) (f : List Nat), lf = lr.map ent ∧ lr.length = g ∧ lr.Sublist lv ∧ RangeL nameT wr pm r (lv.map ent) lf ∧ (sl.map Prod.fst ++ lr.map Prod.fst).Perm (lv.map Prod.fst) ∧
    wr.ownsRow (w.heap.size + 1) 36 9 u sl.length (sl.flatMap encS) ∧ (∀ s, s ∈ sl → LsV wr f (pr s)) ∧ (∀ k, k ∈ f → w.heap.size < k ∧ k < wr.heap.size ∧ k ∉ ob u) ∧ Mod [] w wr
theorem pick_perm {lr : List (Lease × Value)} (h : lr.Pairwise fun p q => (ent p).1 ≠ (ent q).1) {p : Lease × Value} (hp : p ∈ lr) : lr.Perm (p :: lr.filter fun q => decide ((ent q).1 ≠ (ent p).1)) := by
  induction lr with
  | nil => cases hp
  | cons z r ih =>
    have h' := List.pairwise_cons.1 h
    rw [List.filter_cons]
    rcases List.mem_cons.1 hp with e | e
    · subst e
      rw [if_neg (by simp)]
      rw [List.filter_eq_self.2 (fun q hq => decide_eq_true (h'.1 q hq).symm)]
    · rw [if_pos (decide_eq_true (h'.1 p e))]
      exact (List.Perm.cons z (ih h'.2 e)).trans (List.Perm.swap p z _)
set_option maxHeartbeats 2000000 in
set_option maxRecDepth 100000 in
theorem hlist_any {w : World} {ph pm : Nat} {fs : List Nat} {rho : Int} {l : List Lease} (h : Hd w ph pm fs rho l) :
    Calls Tryz.prog 26 #[.pointer (some ⟨ph, 0, none⟩)] w fun e w' => NewLs w l e w' := by
  obtain ⟨lv, hm, hp, hr⟩ := h.rep
  obtain ⟨i0, hi0, hz0, hs0, hb0⟩ := info_parts info_lease
  have hc := h.cell1
  have hsm := h.small
  have hlen : lv.length = l.length := by have := hp.length_eq; simpa using this
  have hlt := h.lt
  have HD := hide (And.intro h (And.intro hp hr))
  have HI := hide (And.intro hi0 (And.intro hz0 (And.intro hs0 hb0)))
  clear hi0 hz0 hs0 hb0 h hp hr
  go_enter Tryz.func26, Tryz.ntmps26
  go_wp2_with (
    at_range
    refine wpList_range_L (T := nameT) _ rfl _ rfl Tryz.underlying62 rfl hm ?_
    intro w1 hR0 hm1 hs1)
  go_frame
  go_loopg [3] lv.length (fun g u wr => ListRel w pm w.heap.size lv g u wr)
  case atStart => exact ⟨lv.map ent, lv, [], [], rfl, rfl, List.Sublist.refl _, hR0, .refl _, World.ownsRow_nil _ _ _ _, by simp, by simp, hm1⟩
  case round =>
    clear hR0 hm1 hs1 hc
    obtain ⟨lf, lr, sl, f, hlf, hg, hsub, hR, hpm, hown, hsl, hf, hmw⟩ := hrel
    have HLF := hide hlf
    have HG := hide hg
    have HF := hide (And.intro hsl hf)
    clear hlf hg hsl hf
    go_wp2_with (
      at_next
      refine wpList_next_L (T := nameT) _ rfl _ rfl rfl hR ?_ ?_)
    · intro h0
      have hlr : lr = [] := by
        have := HLF.out
        rw [h0] at this
        exact List.map_eq_nil_iff.1 this.symm
      obtain ⟨hH, hP, hr⟩ := HD.out
      have hpl : (sl.map Prod.fst).Perm l := by
        rw [hlr] at hpm
        simp only [List.map_nil, List.append_nil] at hpm
        exact hpm.trans hP
      have hle : sl.length ≤ 100000 := by have := hpl.length_eq; simp at this; omega
      have HPL := hide (And.intro hpl hH)
      obtain ⟨p3, c3, hu⟩ := (RdLs.of_row (f := ob u3 ++ f) (lv := sl.map pr) (by rw [flat_pr, List.length_map]; exact hown) (fun p hp => by
        obtain ⟨s, hs, rfl⟩ := List.mem_map.1 hp
        exact (HF.out.1 s hs).mono (fun k hk => List.mem_append_right _ hk)) (fun k hk => List.mem_append_left _ hk)).len
      rw [List.length_map, List.length_map] at hu
      subst hu
      clear hR h0 hpm hpl hH hP hr hlr
      go_wp2_with fail
      refine (sortS_any hown hle).mono ?_
      rintro e w2 ⟨rfl, sl', hp2, hs2, hown2, hm2⟩
      obtain ⟨hsl, hf⟩ := HF.out
      have hu3 := ob_row hown
      have hszw := hmw.size
      have HE := hide (And.intro hp2 (And.intro hs2 (And.intro hown2 (And.intro hm2 hown))))
      clear hp2 hs2 hown2 hm2 hown
      go_wp2_with fail
      go_ret
      obtain ⟨hp2, hs2, hown2, hm2, hown⟩ := HE.out
      obtain ⟨hpl, hH⟩ := HPL.out
      refine ⟨_, sl', f, rfl, row_base hown2 (Nat.le_succ _), ?_, ?_, ?_, ?_⟩
      · refine srt_unique ?_ hH.srt ((hp2.map _).trans hpl)
        refine List.pairwise_map.2 ?_
        have hnd := (srt_ne hH.srt)
        have hnd2 : (sl'.map Prod.fst).Pairwise fun x y => keyL x ≠ keyL y := (((hp2.map Prod.fst).trans hpl).pairwise_iff (fun {_ _} q => Ne.symm q)).2 hnd
        rw [List.pairwise_map] at hnd2
        exact (List.Pairwise.and hs2 hnd2).imp (fun {a b} q => Classical.byContradiction fun x => q.1 (ltK_tot x q.2))
      · exact fun s hs => (hsl s (hp2.mem_iff.1 hs)).mod hm2 (fun k hk e => (hf k hk).2.2 e)
      · intro k hk
        have h2 := hf k hk
        have h3 := hm2.size
        exact ⟨by omega, by omega, h2.2.2⟩
      · exact hmw.trans hm2 (by simp) (fun x hx hlt => by have := hu3 x hx; omega)
    · intro k1 k2 v w2 hx hR2 hm2 hen
      rw [HLF.out] at hx hR2
      obtain ⟨p, hp, ep⟩ := List.mem_map.1 hx
      have hpl := hsub.subset hp
      obtain ⟨hH, hP, hr⟩ := HD.out
      have hLsV := hr p hpl
      have hokL := hH.ok p.1 (hP.mem_iff.1 (List.mem_map.2 ⟨p, hpl, rfl⟩))
      have h1 := hm.one
      rw [List.pairwise_map] at h1
      have hpk := pick_perm (List.Pairwise.sublist hsub h1) hp
      clear h1
      obtain ⟨q0, c0, hv0⟩ := hLsV.rd.len
      obtain ⟨⟨xf, xi, xp, xm, xa, xt, xs, xe, xr⟩, v0⟩ := p
      simp only at hv0
      subst hv0
      have ek : (k1, k2) = (xf, xi) := (congrArg Prod.fst ep).symm
      have ev : v = .agg #[.int .i64 xf, .int .i64 xi, .string xp, .int .i64 xm, .slice q0 xa.length c0, .int .i64 xt, .int .i64 xs, .int .i64 xe, .bool xr] := (congrArg Prod.snd ep).symm
      simp only [Prod.mk.injEq] at ek
      obtain ⟨rfl, rfl⟩ := ek
      subst ev
      have hm02 := hmw.trans hm2 (U := []) (by simp) (fun x hx hlt => by simp at hx; omega)
      have hrd2 := (hLsV.mod hm02 (by simp)).rd.gr ((Gr.refl w2).alloc (objL k1 k2 xp xm (.slice q0 xa.length c0) xt xs xe xr))
      have hown2 := hm2.row hown (fun k hk => by have := (hown.lt k hk).1; simp; omega)
      have hst := okL_stamp hokL
      have HX := hide (And.intro hpk hokL)
      have HR := hide hR2
      simp only [nameT] at hen
      simp only at hrd2 hst
      clear hx ep hpl hH hP hr hLsV hokL hpk hown hR hR2 hp
      go_wp2_with fail
      refine (twin_any hrd2 (by omega) _ _ _ _ _ _ _ _).mono ?_
      rintro e w3 ⟨v', rfl, hr3, hm3⟩
      have hm3' := ((((Gr.refl w2).alloc (objL k1 k2 xp xm (.slice q0 xa.length c0) xt xs xe xr))).mod []).then hm3
      obtain ⟨q', c', hv'⟩ := (RdN.of_row hr3).len
      subst hv'
      have hob3 := ob_row hr3
      have hrd3 := RowI.of hr3
      have hown3 := hm3'.row hown2 (by simp)
      have hcap : (sl.length + 1) * 96 ≤ 140737488355328 ∧ sl.length ≤ 8 := by
        have := hpm.length_eq
        simp only [List.length_append, List.length_map] at this
        omega
      have HW := hide (And.intro hm3' (And.intro hob3 hrd3))
      simp only [aggL, cellsL]
      have hrow : ∀ g cap w5, w5.ownsRow (w.heap.size + 1) 36 9 (.slice (some ⟨g, 0, none⟩) (sl.length + 1) cap) (sl.length + 1) (sl.flatMap encS ++ [.int .i64 k1, .int .i64 k2, .string xp, .int .i64 xm, .slice q' xa.length c', .int .i64 xt, .int .i64 xs, .int .i64 xe, .bool xr]) →
          (w3.alloc (objL k1 k2 xp xm (.slice q' xa.length c') xt xs xe xr)).grownBy w5 u3.ownBlock → (u3.ownBlock = some g ∨ g = (w3.alloc (objL k1 k2 xp xm (.slice q' xa.length c') xt xs xe xr)).heap.size) →
          ListRel w pm w.heap.size lv (gk - 1) (.slice (some ⟨g, 0, none⟩) (sl.length + 1) cap) w5 := by
        intro g cap w5 ho hgr hat
        obtain ⟨hsl, hf⟩ := HF.out
        obtain ⟨hpk, hokL⟩ := HX.out
        have hu3 : ∀ k, k ∈ ob u3 → w.heap.size + 1 ≤ k ∧ k < w2.heap.size := fun k hk => ob_row hown2 k hk
        have md35 : Mod (ob u3) w3 w5 := (((Gr.refl w3).alloc _).mod (ob u3)).grown hgr (fun k e _ => by simp [ob, e])
        have md25 : Mod (ob u3) w2 w5 := (hm3'.mono (by simp)).then md35
        have hsz3 : w2.heap.size < w3.heap.size := by have := hm3.size; simp at this; omega
        have hsz5 := md35.size
        have hfresh : ∀ k, k ∈ ob (.slice q' xa.length c') → w2.heap.size < k ∧ k < w3.heap.size := fun k hk => by have := hob3 k hk; simp at this; omega
        have hszr := hm2.size
        have hszw := hmw.size
        refine ⟨delM lf (k1, k2), _, sl ++ [(⟨k1, k2, xp, xm, xa, xt, xs, xe, xr⟩, q', c')], f ++ ob (.slice q' xa.length c'), ?_, ?_, (List.filter_sublist (p := fun q => decide ((ent q).1 ≠ (k1, k2)))).trans hsub, ?_, ?_, ?_, ?_, ?_, ?_⟩
        · rw [HLF.out]
          unfold delM
          rw [List.filter_map]
          rfl
        · have := hpk.length_eq
          simp only [List.length_cons] at this
          rw [← HG.out, this]
          rfl
        · have := HR.out.mod _ md25 (fun e => by have := hu3 _ e; omega) (fun e => by have := hu3 _ e; omega)
          rw [HLF.out]; exact this
        · rw [List.map_append, List.append_assoc]
          refine List.Perm.trans (List.Perm.append_left _ ?_) hpm
          exact (hpk.map Prod.fst).symm
        · rw [List.length_append, List.flatMap_append]
          exact ho
        · intro s hs
          rcases List.mem_append.1 hs with hs | hs
          · have h1 := hsl s hs
            have md : Mod (w.heap.size :: ob u3) wr w5 := hm2.trans md25 (fun x hx _ => by simp at hx; simp [hx]) (fun x hx _ => List.mem_cons_of_mem _ hx)
            exact (h1.mod md (fun k hk e => by
              have h2 := hf k hk
              rcases List.mem_cons.1 e with e | e
              · omega
              · exact h2.2.2 e)).mono (fun k hk => List.mem_append_left _ hk)
          · obtain rfl : s = _ := List.mem_singleton.1 hs
            exact ⟨hrd3.mod md35 (fun k hk e => by have := hu3 k e; have := hfresh k hk; omega), fun k hk => List.mem_append_right _ hk⟩
        · intro k hk
          have hg : ∀ x, x ∈ ob (.slice (some ⟨g, 0, none⟩) (sl.length + 1) cap) → x = g := fun x hx => by simpa [ob, Value.ownBlock] using hx
          have hge : (w3.alloc (objL k1 k2 xp xm (.slice q' xa.length c') xt xs xe xr)).heap.size = w3.heap.size + 1 := by simp
          rw [hge] at hat
          rcases List.mem_append.1 hk with hk | hk
          · have h2 := hf k hk
            refine ⟨h2.1, by omega, fun e => ?_⟩
            rcases hat with e2 | e2
            · exact h2.2.2 (by rw [hg k e]; simp [ob, e2])
            · have := hg k e; omega
          · have h2 := hfresh k hk
            refine ⟨by omega, by omega, fun e => ?_⟩
            rcases hat with e2 | e2
            · have := hu3 k (by rw [hg k e]; simp [ob, e2]); omega
            · have := hg k e; omega
        · exact (hm02.trans md25 (by simp) (fun x hx hlt => by have := hu3 x hx; omega))
      have HROW := hide hrow
      have hszb : w.heap.size + 1 ≤ (w3.alloc (objL k1 k2 xp xm (.slice q' xa.length c') xt xs xe xr)).heap.size := by
        have h1 := hm02.size
        have h2 := hm3.size
        simp at h2 ⊢
        omega
      have hgk : gk - 1 < gk := by
        have h1 := HX.out.1.length_eq
        have h2 := HG.out
        simp only [List.length_cons] at h1
        omega
      clear hr3 hm3 hm3' hob3 hrd3 hown2 hrow hrd2 hen
      go_wp2_with (
        at_builtin
        refine wpList_append_lies _ rfl _ _ 28 rfl (w.heap.size + 1) 36 i0 _ 9 96 Tryz.underlying28 HI.out.1 HI.out.2.1 HI.out.2.2.1 HI.out.2.2.2 rfl (by decide) _ _ _ rfl (hown3.alloc _) ⟨w3.heap.size, 0, none⟩ 1 1 [.int .i64 k1, .int .i64 k2, .string xp, .int .i64 xm, .slice q' xa.length c', .int .i64 xt, .int .i64 xs, .int .i64 xe, .bool xr] rfl rfl (World.news_of_block (heap_alloc_new w3 (objL k1 k2 xp xm (.slice q' xa.length c') xt xs xe xr))) (by simp [Value.oneCell']) (by decide) (by unfold maxLen; omega) hcap.1 hszb ?_
        intro g cap w5 ho hgr hat
        have q := HROW.out g cap w5 ho hgr hat
        clear hown3 ho hgr hat)
      go_roundg (gk - 1)
      case measure => exact hgk
      case rel => exact q
end Go.Proofs.YtifllaeldcimgaaGreat
