/-
  WALKS: layer 17: Recall, Drop.
-/
import Derived.Test.YtifllaeldcimgaaGreatHoldW2
import Derived.StillTailTactics
namespace Go.Proofs.YtifllaeldcimgaaGreat
open Go.RowKit

section
variable {w : World} {ph pm : Nat} {fs : List Nat} {rho : Int} {l : List Lease}
theorem Hd.store (h : Hd w ph pm fs rho l) (x : Lease) (v : Value) (hx : okL x) (hl : (putL x l).length ≤ 8) (hv : RowI w v x.stamp) (hb : ∀ k, k ∈ ob v → k ≠ pm ∧ k ≠ ph ∧ k < w.heap.size) :
    ∃ L, MapL nameT w pm L ∧ L.length < maxLen ∧ nameT.ok (keyL x) ∧ ∀ w', MapL nameT w' pm (setM L (keyL x) (aggL x v)) → w.grownBy w' (some pm) → Hd w' ph pm (fs ++ ob v) rho (putL x l) ∧ Mod [pm] w w' := by
  obtain ⟨lv, hm, hp, hr⟩ := h.rep
  have hlen : lv.length = l.length := by have := hp.length_eq; simpa using this
  refine ⟨lv.map ent, hm, by have := h.small; simp; unfold maxLen; omega, lease_wf hx, fun w' hm' hg => ?_⟩
  have md : Mod [pm] w w' := (Mod.refl [pm] w).grown hg (fun k e _ => by cases e; simp)
  obtain ⟨o1, o2, o3⟩ := h.off
  have hfil : delM (lv.map ent) (keyL x) = (lv.filter fun p => decide (keyL p.1 ≠ keyL x)).map ent := by
    unfold delM
    rw [List.filter_map]
    rfl
  refine ⟨⟨⟨(x, v) :: lv.filter (fun p => decide (keyL p.1 ≠ keyL x)), ?_, ?_, ?_⟩, md.at_ h.blk (by simp; exact o3), ⟨?_, ?_, o3⟩, ?_, putL_srt h.srt x, ?_, h.rhoOk, hl⟩, md⟩
  · have e : setM (lv.map ent) (keyL x) (aggL x v) = ((x, v) :: lv.filter (fun p => decide (keyL p.1 ≠ keyL x))).map ent := by
      unfold setM
      rw [hfil]
      rfl
    rw [← e]; exact hm'
  · rw [List.map_cons]
    refine (List.Perm.cons _ ?_).trans (putL_perm h.srt x).symm
    have e : (lv.filter fun p => decide (keyL p.1 ≠ keyL x)).map Prod.fst = (lv.map Prod.fst).filter fun y => decide (keyL y ≠ keyL x) := by
      rw [List.filter_map]
      rfl
    rw [e]
    exact hp.filter _
  · intro p hp'
    rcases List.mem_cons.1 hp' with rfl | hp'
    · exact ⟨hv.mod md (fun k hk => by have := (hb k hk).1; simp; exact this), fun k hk => List.mem_append_right _ hk⟩
    · exact ((hr p (List.mem_filter.1 hp').1).mod md (fun k hk => by simp; exact fun e => o1 (e ▸ hk))).mono (fun k hk => List.mem_append_left _ hk)
  · intro e
    rcases List.mem_append.1 e with e | e
    · exact o1 e
    · exact (hb _ e).1 rfl
  · intro e
    rcases List.mem_append.1 e with e | e
    · exact o2 e
    · exact (hb _ e).2.1 rfl
  · intro k hk
    have := md.size
    rcases List.mem_append.1 hk with e | e
    · have := h.lts k e; omega
    · have := (hb _ e).2.2; omega
  · intro y hy
    rcases (mem_putL h.srt).1 hy with rfl | ⟨hy, _⟩
    · exact hx
    · exact h.ok y hy
theorem Hd.del (h : Hd w ph pm fs rho l) (k : Key) :
    ∃ L, MapL nameT w pm L ∧ ∀ w', MapL nameT w' pm (delM L k) → w.grownBy w' (some pm) → Hd w' ph pm fs rho (delL l k) ∧ Mod [pm] w w' := by
  obtain ⟨lv, hm, hp, hr⟩ := h.rep
  refine ⟨lv.map ent, hm, fun w' hm' hg => ?_⟩
  have md : Mod [pm] w w' := (Mod.refl [pm] w).grown hg (fun k e _ => by cases e; simp)
  obtain ⟨o1, o2, o3⟩ := h.off
  have hfil : delM (lv.map ent) k = (lv.filter fun p => decide (keyL p.1 ≠ k)).map ent := by
    unfold delM
    rw [List.filter_map]
    rfl
  rw [hfil] at hm'
  refine ⟨⟨⟨_, hm', ?_, fun p hp' => (hr p (List.mem_filter.1 hp').1).mod md (fun k hk => by simp; exact fun e => o1 (e ▸ hk))⟩, md.at_ h.blk (by simp; exact o3), ⟨o1, o2, o3⟩, fun k hk => Nat.lt_of_lt_of_le (h.lts k hk) md.size, delL_srt h.srt k, fun y hy => h.ok y (mem_delL.1 hy).1, h.rhoOk, Nat.le_trans (delL_le l k) h.small⟩, md⟩
  have e : (lv.filter fun p => decide (keyL p.1 ≠ k)).map Prod.fst = (lv.map Prod.fst).filter fun y => decide (keyL y ≠ k) := by
    rw [List.filter_map]
    rfl
  rw [e]
  exact hp.filter _
end
def dropS (l : List Lease) (k : Key) : List Lease × Bool := (delL l k, (getL l k).isSome)
def recallS (l : List Lease) (k : Key) : List Lease × Bool :=
  match getL l k with
  | some x => if x.recd then (l, false) else (putL { x with recd := true } l, true)
  | none => (l, false)
/-- what a call leaves: the holder's new list, and a bool -/
def HdB (w : World) (ph pm : Nat) (fs : List Nat) (rho : Int) (s : List Lease × Bool) (e : Ending) (w' : World) : Prop :=
  e = .returned (.bool s.2) ∧ ∃ fs', Hd w' ph pm fs' rho s.1 ∧ HdTo w pm fs w' fs'
theorem hdrop_nil (f i : Int) (w : World) : Calls Tryz.prog 12 #[.pointer none, .int .i64 f, .int .i64 i] w fun e w' => e = .returned (.bool false) ∧ Mod [] w w' := by
  go_enter Tryz.func12, Tryz.ntmps12
  go_wp2_with fail
  refine (hget_nil _ _ _).mono ?_
  rintro e w1 ⟨v, rfl, hr, hm⟩
  obtain ⟨p, c, hv⟩ := (RdN.of_row hr).len
  subst hv
  clear hr
  simp only [aggL, cellsL, Option.getD_none, Lease.zero, Option.isSome]
  go_wp2_with fail
  go_ret
  exact ⟨rfl, hm.alloc _⟩
set_option maxHeartbeats 400000 in
set_option maxRecDepth 100000 in
theorem hdrop_any {w : World} {ph pm : Nat} {fs : List Nat} {rho : Int} {l : List Lease} (h : Hd w ph pm fs rho l) (f i : Int) (hf : i64w f) (hi : i64w i) :
    Calls Tryz.prog 12 #[.pointer (some ⟨ph, 0, none⟩), .int .i64 f, .int .i64 i] w fun e w' => HdB w ph pm fs rho (dropS l (f, i)) e w' := by
  have hok : nameT.ok (f, i) := ⟨hf, hi⟩
  go_enter Tryz.func12, Tryz.ntmps12
  go_wp2_with fail
  refine (hget_any h f i hf hi).mono ?_
  rintro e w1 ⟨v, rfl, hr, hm⟩
  obtain ⟨p, c, hv⟩ := (RdN.of_row hr).len
  subst hv
  have h1 := (h.same hm).gr ((Gr.refl w1).alloc (.cells #[.int .i64 ((getL l (f, i)).getD Lease.zero).frm, .int .i64 ((getL l (f, i)).getD Lease.zero).id, .string ((getL l (f, i)).getD Lease.zero).path, .int .i64 ((getL l (f, i)).getD Lease.zero).mode, .slice p ((getL l (f, i)).getD Lease.zero).stamp.length c, .int .i64 ((getL l (f, i)).getD Lease.zero).term, .int .i64 ((getL l (f, i)).getD Lease.zero).sent, .int .i64 ((getL l (f, i)).getD Lease.zero).expiry, .bool ((getL l (f, i)).getD Lease.zero).recd] 36))
  have hm1 := hm.alloc (.cells #[.int .i64 ((getL l (f, i)).getD Lease.zero).frm, .int .i64 ((getL l (f, i)).getD Lease.zero).id, .string ((getL l (f, i)).getD Lease.zero).path, .int .i64 ((getL l (f, i)).getD Lease.zero).mode, .slice p ((getL l (f, i)).getD Lease.zero).stamp.length c, .int .i64 ((getL l (f, i)).getD Lease.zero).term, .int .i64 ((getL l (f, i)).getD Lease.zero).sent, .int .i64 ((getL l (f, i)).getD Lease.zero).expiry, .bool ((getL l (f, i)).getD Lease.zero).recd] 36)
  simp only [aggL, cellsL]
  clear hr h hm hf hi
  generalize (getL l (f, i)).getD Lease.zero = x at *
  obtain ⟨L, hL, hdel⟩ := h1.del (f, i)
  have hc := h1.cell1
  cases hb : (getL l (f, i)).isSome
  · have e0 : delL l (f, i) = l := delL_none (getL_none (by simpa using hb))
    have HB := hide hb
    clear hb hc hL hdel
    go_wp2_with fail
    go_ret
    exact ⟨by simp [dropS, HB.out], fs, by simp only [dropS, e0]; exact h1, HdTo.same hm1⟩
  · have HB := hide hb
    clear hb
    go_wp2_with (
      at_delete
      refine wpList_delete_L (T := nameT) _ rfl _ _ rfl Tryz.underlying62 rfl hL hok rfl ?_
      intro w2 q1 q2
      have q := hdel w2 q1 q2
      clear hL hdel q1 q2 hc)
    go_ret
    exact ⟨by simp [dropS, HB.out], fs, q.1, HdTo.of (hm1.mono (by simp) |>.then q.2)⟩
theorem hrecall_nil (f i : Int) (w : World) : Calls Tryz.prog 10 #[.pointer none, .int .i64 f, .int .i64 i] w fun e w' => e = .returned (.bool false) ∧ Mod [] w w' := by
  go_enter Tryz.func10, Tryz.ntmps10
  go_wp2_with fail
  refine (hget_nil _ _ _).mono ?_
  rintro e w1 ⟨v, rfl, hr, hm⟩
  obtain ⟨p, c, hv⟩ := (RdN.of_row hr).len
  subst hv
  clear hr
  simp only [aggL, cellsL, Option.getD_none, Lease.zero, Option.isSome]
  go_wp2_with fail
  go_ret
  exact ⟨rfl, hm.alloc _⟩
abbrev objL (f i : Int) (p : ByteArray) (m : Int) (v : Value) (t s e : Int) (r : Bool) : Obj := .cells #[.int .i64 f, .int .i64 i, .string p, .int .i64 m, v, .int .i64 t, .int .i64 s, .int .i64 e, .bool r] 36 (0, 0)
set_option maxHeartbeats 1000000 in
set_option maxRecDepth 100000 in
theorem hrecall_any {w : World} {ph pm : Nat} {fs : List Nat} {rho : Int} {l : List Lease} (h : Hd w ph pm fs rho l) (f i : Int) (hf : i64w f) (hi : i64w i) :
    Calls Tryz.prog 10 #[.pointer (some ⟨ph, 0, none⟩), .int .i64 f, .int .i64 i] w fun e w' => HdB w ph pm fs rho (recallS l (f, i)) e w' := by
  have hok : nameT.ok (f, i) := ⟨hf, hi⟩
  go_enter Tryz.func10, Tryz.ntmps10
  go_wp2_with fail
  refine (hget_any h f i hf hi).mono ?_
  rintro e w1 ⟨v, rfl, hr, hm⟩
  obtain ⟨p, c, hv⟩ := (RdN.of_row hr).len
  subst hv
  have hob := ob_row hr
  have hrd := RowI.of hr
  simp only [aggL, cellsL]
  cases hg : getL l (f, i) with
  | none =>
    have e0 : recallS l (f, i) = (l, false) := by simp [recallS, hg]
    have E0 := hide e0
    simp only [Option.getD_none, Lease.zero, Option.isSome]
    clear hr hg e0 hob hrd
    go_wp2_with fail
    go_ret
    rw [E0.out]
    exact ⟨rfl, fs, (h.same hm).gr ((Gr.refl w1).alloc _), HdTo.same (hm.alloc _)⟩
  | some x =>
    obtain ⟨hx, hkx⟩ := getL_some hg
    have hxok := h.ok x hx
    obtain ⟨xf, xi, xp, xm, xa, xt, xs, xe, xr⟩ := x
    simp only [hg, Option.getD_some, Option.isSome] at hr hob hrd ⊢
    cases xr
    · have e0 : recallS l (f, i) = (putL ⟨xf, xi, xp, xm, xa, xt, xs, xe, true⟩ l, true) := by simp [recallS, hg]
      have E0 := hide e0
      have h0 := h.same hm
      have h1 := h0.gr ((Gr.refl w1).alloc (objL xf xi xp xm (.slice p xa.length c) xt xs xe true)).drew
      have hm1 := (hm.alloc (objL xf xi xp xm (.slice p xa.length c) xt xs xe true)).drew
      have hrd1 := hrd.gr ((Gr.refl w1).alloc (objL xf xi xp xm (.slice p xa.length c) xt xs xe true)).drew
      have hB := heap_alloc_new w1 (objL xf xi xp xm (.slice p xa.length c) xt xs xe true)
      have hlen : (putL ⟨xf, xi, xp, xm, xa, xt, xs, xe, true⟩ l).length ≤ 8 := by
        have h2 := putL_len h.srt ⟨xf, xi, xp, xm, xa, xt, xs, xe, true⟩
        have h3 := delL_lt hx
        have h4 := h.small
        simp only [keyL] at h2 h3
        omega
      obtain ⟨L, hL, hL2, hL3, hst⟩ := h1.store ⟨xf, xi, xp, xm, xa, xt, xs, xe, true⟩ (.slice p xa.length c) hxok hlen hrd1 (fun k hk => by
        have h2 := hob k hk
        have h3 := h.lt
        have h4 := hm1.size
        simp at h4 ⊢
        omega)
      have hkx' : (xf, xi) = (f, i) := hkx
      simp only [keyL, aggL, cellsL, hkx'] at hL3 hst
      have HOB := hide hob
      clear hr hg e0 hob hrd hrd1 hm h hlen hx hkx hkx' hxok
      go_wp2_with fail
      obtain ⟨W, hW⟩ : ∃ W, W = w1.alloc (objL xf xi xp xm (.slice p xa.length c) xt xs xe true) := ⟨_, rfl⟩
      rw [← hW] at h1 hm1 hB hL hst ⊢
      clear hW
      have hc : W.cell? ⟨ph, 1, none⟩ = _ := h1.cell1
      have hC := blk_cell hB
      clear hB h0
      go_still_tail 8, (by kernel_rfl)
      change wpList _ _ _ _ _ W.drew
      go_wp2_with (
        at_mapUpdate
        refine wpList_store_L (T := nameT) _ rfl _ _ _ rfl Tryz.underlying62 rfl hL hL2 hok rfl _ rfl ?_
        intro w2 q1 q2
        have q := hst w2 q1 q2
        clear hL hst q1 q2 hc hC)
      go_ret
      rw [E0.out]
      refine ⟨rfl, _, q.1, (hm1.mono (by simp)).then q.2, fun k hk => ?_⟩
      rcases List.mem_append.1 hk with e | e
      · exact .inl e
      · exact .inr (HOB.out k e).1
    · have e0 : recallS l (f, i) = (l, false) := by simp [recallS, hg]
      have E0 := hide e0
      clear hr hg e0 hob hrd
      go_wp2_with fail
      go_ret
      rw [E0.out]
      exact ⟨rfl, fs, (h.same hm).gr ((Gr.refl w1).alloc _), HdTo.same (hm.alloc _)⟩
end Go.Proofs.YtifllaeldcimgaaGreat
