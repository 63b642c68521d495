/-
  MEMORY LAWS: a holder and the document's list side by side (HolderPlays). (The great seat alone.)
-/
import Derived.Test.YtifllaeldcimgaaGreatRefHold5
import Derived.Test.YtifllaeldcimgaaGreatRefHold7
namespace Go.Proofs.YtifllaeldcimgaaGreat
open Go.RowKit

/-- the holder stands for lh, the document's box at mb holds the list ld; all new since W -/
structure DS (W w : World) (mb ph pm : Nat) (fs f : List Nat) (rho : Int) (lh ld : List Lease) (v : Value) : Prop where
  hs : HS W w ph pm fs rho lh
  dc : Dc w v f ld
  bx : w.heap[mb]? = some (objD rho v)
  nmb : W.heap.size ≤ mb
  ne : mb ≠ ph ∧ mb ≠ pm ∧ mb ∉ fs ∧ mb ∉ f ∧ pm ∉ f
section
variable {W w w' : World} {mb ph pm : Nat} {fs fs' f : List Nat} {rho : Int} {lh lh' ld ld' : List Lease} {v v' : Value}
theorem DS.same (s : DS W w mb ph pm fs f rho lh ld v) (m : Mod [] w w') : DS W w' mb ph pm fs f rho lh ld v :=
  ⟨s.hs.same m, s.dc.same m, m.at_ s.bx (by simp), s.nmb, s.ne⟩
theorem DS.gr (s : DS W w mb ph pm fs f rho lh ld v) (g : Gr w w') : DS W w' mb ph pm fs f rho lh ld v := s.same (g.mod [])
theorem DS.lt (s : DS W w mb ph pm fs f rho lh ld v) : mb < w.heap.size ∧ ph < w.heap.size ∧ pm < w.heap.size := ⟨lt_of_block s.bx, s.hs.hd.lt.1, s.hs.hd.lt.2⟩
/-- a call on the holder -/
theorem DS.hold (s : DS W w mb ph pm fs f rho lh ld v) (h : Hd w' ph pm fs' rho lh') (t : HdTo w pm fs w' fs') : DS W w' mb ph pm fs' f rho lh' ld v :=
  ⟨s.hs.to h t, s.dc.mod t.mod (fun k hk e => s.ne.2.2.2.2 (List.mem_singleton.1 e ▸ hk)), t.mod.at_ s.bx (by simpa using s.ne.2.1), s.nmb,
    s.ne.1, s.ne.2.1, fun e => by
      rcases t.own _ e with x | x
      · exact s.ne.2.2.1 x
      · have := s.lt.1; omega, s.ne.2.2.2.1, s.ne.2.2.2.2⟩
/-- the document's answer, stored into its box -/
theorem DS.doc {w1 w2 : World} (s : DS W w mb ph pm fs f rho lh ld v) (d : DocL w f ld' v' w1) (m : Mod [] w1 w2) :
    ∃ f', DS W ((w2.setCell ⟨mb, 0, none⟩ (.int .i64 rho)).setCell ⟨mb, 1, none⟩ v') mb ph pm fs f' rho lh ld' v' ∧ Mod [mb] w ((w2.setCell ⟨mb, 0, none⟩ (.int .i64 rho)).setCell ⟨mb, 1, none⟩ v') := by
  obtain ⟨f', a, b, c⟩ := d
  have hlt := s.lt
  have m2 : Mod [mb] w2 ((w2.setCell ⟨mb, 0, none⟩ (.int .i64 rho)).setCell ⟨mb, 1, none⟩ v') := ((Mod.refl [mb] w2).setCell (fun _ => by simp) _).setCell (fun _ => by simp) _
  have mw : Mod [mb] w ((w2.setCell ⟨mb, 0, none⟩ (.int .i64 rho)).setCell ⟨mb, 1, none⟩ v') := ((c.then m).mono (by simp)).then m2
  have hf : mb ∉ f' ∧ pm ∉ f' := ⟨fun e => by
    rcases b _ e with x | x
    · exact s.ne.2.2.2.1 x
    · omega, fun e => by
    rcases b _ e with x | x
    · exact s.ne.2.2.2.2 x
    · omega⟩
  refine ⟨f', ⟨⟨s.hs.hd.mod mw (by simpa using Ne.symm s.ne.1) (by simpa using Ne.symm s.ne.2.1) (fun k hk e => s.ne.2.2.1 (List.mem_singleton.1 e ▸ hk)), s.hs.mod.trans mw (by simp) (fun x hx hl => by have := s.nmb; simp at hx; omega), s.hs.nph, s.hs.npm⟩,
    (a.same m).mod m2 (fun k hk e => hf.1 (List.mem_singleton.1 e ▸ hk)), blk_set (blk_set ((c.then m).at_ s.bx (by simp)) 0 (.int .i64 rho)) 1 v', s.nmb, s.ne.1, s.ne.2.1, s.ne.2.2.1, hf.1, hf.2⟩, mw⟩
end
theorem list_rd' {w w' : World} {l : List Lease} {e : Ending} (h : NewLs w l e w') : ∃ v f, e = .returned v ∧ RdLs w' v f l ∧ Mod [] w w' := by
  obtain ⟨v, sl, f, he, hown, hl, hs, hf, hm⟩ := h
  refine ⟨v, ob v ++ f, he, ?_, hm⟩
  have := RdLs.of_row (f := ob v ++ f) (lv := sl.map pr) (by rw [flat_pr, List.length_map]; exact hown) (fun p hp => by
    obtain ⟨s, hs', rfl⟩ := List.mem_map.1 hp
    exact (hs s hs').mono (fun k hk => List.mem_append_right _ hk)) (fun k hk => List.mem_append_left _ hk)
  have e : (sl.map pr).map Prod.fst = l := by rw [← hl, List.map_map]; rfl
  rwa [e] at this
/-- append([]int{}, s...) at a step of a region that draws -/
theorem step_append_empty {P : Program} {ops : Array Oper} {o : Oper} {a : Act} {K : Act → World → Prop} {Q : Exit → Act → World → Prop} {E : Prop} (w : World) (hgd : o.guard = none) (s x : Operand) (t : TypeId)
    (ho : o.op = .call { callee := .builtin .append, args := #[s, x], argTypes := #[t, t] })
    (e : TypeId) (i : TypeInfo) (ht : P.underlying t = some (.slice e)) (hi : P.info? e = some i) (hz : i.zero = some (.int .i64 0)) (hsize : i.size = 1) (hby : i.bytes = 8)
    {g : Nat} (hs : a.eval s = .slice (some ⟨g, 0, none⟩) 0 0) (hg : w.heap[g]? = some (.cells #[] e (0, 0))) {v : Value} {m : List Int} (hx : a.eval x = v) (hv : RdN w v m) (hsm : m.length * 8 ≤ 140737488355328)
    (h : ∀ q c w', RdN w' (.slice q m.length c) m → (∀ k, k ∈ ob (.slice q m.length c) → g ≤ k ∧ k < w'.heap.size) → Mod [g] w w' → K (a.put o.dst (.slice q m.length c)) w') :
    if Region.wanted o (yielded ops a.tmps) = true then Oper.wp P o a w K Q else E := by
  have hw : Region.wanted o (yielded ops a.tmps) = true := by simp [Region.wanted, hgd]
  rw [if_pos hw]
  by_cases hm : m = []
  · subst hm
    obtain ⟨p, c, rfl⟩ := hv.len
    have src : Src P i.size t (.slice p 0 c) 0 [] w := by
      cases p with
      | none => exact Src.ofNil w ht c
      | some ad => exact Src.ofSlice w ht ad 0 c [] (by simp) (fun _ _ h => by simp at h) (fun _ h => by cases h)
    have hr := run_append_nothing w t t o.type e i ht hi (some ⟨g, 0, none⟩) 0 0 (Nat.le_refl _) _ src
    unfold Oper.wp execOp
    simp only [List.length_nil] at hx
    simp only [ho, resolve, invoke, builtin, Sem.run_bind, Sem.run_pure, Result.andThen_ok, List.map_toArray, List.map_cons, List.map_nil, hs, hx, hr]
    refine h _ _ _ ⟨by simp, .inl ⟨_, _, rfl, rfl⟩⟩ ?_ (Mod.refl _ _)
    intro k hk
    have : k = g := by simpa [ob, Value.ownBlock] using hk
    have := lt_of_block hg
    omega
  · have hpos : 0 < m.length := List.length_pos_iff.2 hm
    rcases hv.2 with ⟨p, c, _, rfl⟩ | ⟨b, off, cap, rfl, hb, hc⟩
    · exact absurd rfl hm
    · have hown : w.ownsRow g e 1 (.slice (some ⟨g, 0, none⟩) 0 0) 0 [] := ⟨by simp, .inr ⟨g, 0, #[], rfl, Nat.le_refl _, hg, by omega, by unfold maxLen; omega, by simp, by simp⟩⟩
      refine wp_append_lies w s x t ho g e i (.int .i64 0) 1 8 ht hi hz hsize hby rfl (by decide) (.slice (some ⟨g, 0, none⟩) 0 0) 0 [] hs hown ⟨b, off, none⟩ m.length cap (m.map (Value.int .i64)) hx (by simp) ?_ (by simp [Value.oneCell']) hpos (by unfold maxLen; omega) (by omega) (Nat.le_of_lt (lt_of_block hg)) _ rfl ?_
      · intro j u hu
        obtain ⟨hj, rfl⟩ := List.getElem?_eq_some_iff.1 hu
        rw [List.length_map] at hj
        have := hc j hj
        rw [Addr.add_lit, this]
        simp [hj]
      · intro g' cap' w' hown hgr hat _
        simp only [Nat.zero_add, List.nil_append] at hown ⊢
        exact h _ _ _ (RdN.of_row hown) (ob_row hown) ((Mod.refl [g] w).grown hgr (fun k e _ => by simp [Value.ownBlock] at e; simp [e]))
end Go.Proofs.YtifllaeldcimgaaGreat
