/-
  WALK: the laws of layer 17: played: one call on a holder.
-/
import Derived.Test.YtifllaeldcimgaaOpenLO
namespace Go.Proofs.Ytifllaeldcimgaa
open Go.RowKit

def playS (rho : Int) (l : List Lease) (o : OpL) : List Lease :=
  if o.kind = 1 then (renewedS rho l o.now o.sent (keyL o.l) o.l.stamp o.l.term).1 else if o.kind = 2 then (recallS l (keyL o.l)).1 else if o.kind = 3 then (dropS l (keyL o.l)).1
  else if o.kind = 4 then l else if o.kind = 5 then l else if o.kind = 6 then sweepL o.now l else (addS rho l o.now o.sent o.l).1
abbrev objO (kd nw st f i : Int) (p : ByteArray) (m : Int) (v : Value) (t s e : Int) (r : Bool) : Obj := .cells #[.int .i64 kd, .int .i64 nw, .int .i64 st, .int .i64 f, .int .i64 i, .string p, .int .i64 m, v, .int .i64 t, .int .i64 s, .int .i64 e, .bool r] 37 (0, 0)
def PlayTo (w : World) (ph pm : Nat) (fs : List Nat) (rho : Int) (l' : List Lease) (e : Ending) (w' : World) : Prop :=
  e = .returned (.tuple #[]) ∧ ∃ fs', Hd w' ph pm fs' rho l' ∧ HdTo w pm fs w' fs'
set_option maxHeartbeats 2000000 in
set_option maxRecDepth 100000 in
theorem played_any {w : World} {ph pm : Nat} {fs : List Nat} {rho : Int} {l : List Lease} (h : Hd w ph pm fs rho l) (kd nw st f i m t s e : Int) (p : ByteArray) (a : List Int) (r : Bool) (q : Option Addr) (c : Nat)
    (hv : RdN w (.slice q a.length c) a) (hi : inO ⟨kd, nw, st, ⟨f, i, p, m, a, t, s, e, r⟩⟩) :
    Calls Try.prog 13 #[.pointer (some ⟨ph, 0, none⟩), .agg #[.int .i64 kd, .int .i64 nw, .int .i64 st, .int .i64 f, .int .i64 i, .string p, .int .i64 m, .slice q a.length c, .int .i64 t, .int .i64 s, .int .i64 e, .bool r]] w
      fun en w' => PlayTo w ph pm fs rho (playS rho l ⟨kd, nw, st, ⟨f, i, p, m, a, t, s, e, r⟩⟩) en w' := by
  obtain ⟨_, _, _, ⟨wf, wi, _, _, _, _⟩, hp, hs⟩ := hi
  simp only at wf wi hp hs
  have h1 := h.gr ((Gr.refl w).alloc (objO kd nw st f i p m (.slice q a.length c) t s e r))
  have hv1 := hv.gr ((Gr.refl w).alloc (objO kd nw st f i p m (.slice q a.length c) t s e r))
  have hb1 := heap_alloc_new w (objO kd nw st f i p m (.slice q a.length c) t s e r)
  have hm1 := ((Gr.refl w).alloc (objO kd nw st f i p m (.slice q a.length c) t s e r)).mod []
  have HB := hide (And.intro h1 (And.intro hb1 hm1))
  clear hv h1 hb1 hm1
  go_enter Try.func13, Try.ntmps13
  go_wp2_with fail
  refine (own_any hv1 hs _ _ _ _ _ _ _ _).mono ?_
  rintro en w2 ⟨q', c', rfl, hr, hob, hm2⟩
  obtain ⟨h1, hb1, hm1⟩ := HB.out
  have h3 := (h1.same hm2).gr ((Gr.refl w2).alloc (objL f i p m (.slice q' a.length c') t s e r))
  have hr3 := hr.gr ((Gr.refl w2).alloc (objL f i p m (.slice q' a.length c') t s e r))
  have hm3 := (hm1.then hm2).alloc (objL f i p m (.slice q' a.length c') t s e r)
  have hoff : pm ∉ ob (.slice q' a.length c') := fun x => by have := hob _ x; have := h1.lt.2; omega
  have hb2 := hm2.at_ hb1 (by simp)
  have C2 := blk_cell hb2
  have hl2 := lt_of_block hb2
  have HX := hide (And.intro h3 hm3)
  clear HB h1 hb1 hm1 hr hob hm2 hb2 hv1
  by_cases k1 : kd = 1
  · subst k1
    have HE := hide (show playS rho l ⟨1, nw, st, ⟨f, i, p, m, a, t, s, e, r⟩⟩ = (renewedS rho l nw st (f, i) a t).1 from rfl)
    go_wp2_with fail
    refine (hrenewed_any h3 nw st f i t a q' c' wf wi hr3).mono ?_
    rintro en w4 ⟨rfl, fs', h4, ht⟩
    clear h3 hr3 C2
    go_wp2_with fail
    go_end0
    rw [HE.out]
    exact ⟨rfl, fs', h4, (HdTo.same HX.out.2).trans ht⟩
  · have b1 : (kd == 1) = false := by simpa using k1
    by_cases k2 : kd = 2
    · subst k2
      have HE := hide (show playS rho l ⟨2, nw, st, ⟨f, i, p, m, a, t, s, e, r⟩⟩ = (recallS l (f, i)).1 from rfl)
      clear k1
      go_wp2_with fail
      refine (hrecall_any h3 f i wf wi).mono ?_
      rintro en w4 ⟨rfl, fs', h4, ht⟩
      clear h3 hr3 C2
      go_wp2_with fail
      go_end0
      rw [HE.out]
      exact ⟨rfl, fs', h4, (HdTo.same HX.out.2).trans ht⟩
    · have b2 : (kd == 2) = false := by simpa using k2
      by_cases k3 : kd = 3
      · subst k3
        have HE := hide (show playS rho l ⟨3, nw, st, ⟨f, i, p, m, a, t, s, e, r⟩⟩ = (dropS l (f, i)).1 from rfl)
        clear k1 k2
        go_wp2_with fail
        refine (hdrop_any h3 f i wf wi).mono ?_
        rintro en w4 ⟨rfl, fs', h4, ht⟩
        clear h3 hr3 C2
        go_wp2_with fail
        go_end0
        rw [HE.out]
        exact ⟨rfl, fs', h4, (HdTo.same HX.out.2).trans ht⟩
      · have b3 : (kd == 3) = false := by simpa using k3
        by_cases k4 : kd = 4
        · subst k4
          have HE := hide (show playS rho l ⟨4, nw, st, ⟨f, i, p, m, a, t, s, e, r⟩⟩ = l from rfl)
          clear k1 k2 k3 h3 hr3
          go_wp2_with fail
          go_end0
          rw [HE.out]
          exact ⟨rfl, fs, HX.out.1, HdTo.same HX.out.2⟩
        · have b4 : (kd == 4) = false := by simpa using k4
          by_cases k5 : kd = 5
          · subst k5
            have HE := hide (show playS rho l ⟨5, nw, st, ⟨f, i, p, m, a, t, s, e, r⟩⟩ = l from rfl)
            clear k1 k2 k3 k4 h3 hr3
            go_wp2_with fail
            go_end0
            rw [HE.out]
            exact ⟨rfl, fs, HX.out.1, HdTo.same HX.out.2⟩
          · have b5 : (kd == 5) = false := by simpa using k5
            by_cases k6 : kd = 6
            · subst k6
              have HE := hide (show playS rho l ⟨6, nw, st, ⟨f, i, p, m, a, t, s, e, r⟩⟩ = sweepL nw l from rfl)
              clear k1 k2 k3 k4 k5
              go_wp2_with fail
              refine (hsweep_any h3 nw).mono ?_
              rintro en w4 ⟨rfl, h4, ht⟩
              clear h3 hr3 C2
              go_wp2_with fail
              go_end0
              rw [HE.out]
              exact ⟨rfl, fs, h4, (HdTo.same HX.out.2).trans (HdTo.of ht)⟩
            · have b6 : (kd == 6) = false := by simpa using k6
              have HE := hide (show playS rho l ⟨kd, nw, st, ⟨f, i, p, m, a, t, s, e, r⟩⟩ = (addS rho l nw st ⟨f, i, p, m, a, t, s, e, r⟩).1 by
                unfold playS
                rw [if_neg k1, if_neg k2, if_neg k3, if_neg k4, if_neg k5, if_neg k6])
              clear k1 k2 k3 k4 k5 k6
              go_wp2_with fail
              refine (hadd_any h3 f i m t s e p a r q' c' nw st hp hr3 hoff).mono ?_
              rintro en w4 ⟨rfl, fs', h4, ht⟩
              clear h3 hr3 C2
              go_wp2_with fail
              go_end0
              rw [HE.out]
              exact ⟨rfl, fs', h4, (HdTo.same HX.out.2).trans ht⟩
end Go.Proofs.Ytifllaeldcimgaa
