/-
  WALK: the law HolderRecalled.
-/
import Derived.Test.YtifllaeldcimgaaHUses
namespace Go.Proofs.Ytifllaeldcimgaa
open Go.RowKit

theorem putL_len_same {l : List Lease} (h : SrtL l) {x y : Lease} (hy : y ∈ l) (e : keyL y = keyL x) : (putL x l).length = l.length := by
  induction l with
  | nil => cases hy
  | cons z r ih =>
    have h' := List.pairwise_cons.1 h
    unfold putL
    by_cases h1 : keyL z = keyL x
    · rw [if_pos h1]; rfl
    · rw [if_neg h1]
      rcases List.mem_cons.1 hy with e' | hy'
      · subst e'; exact absurd e h1
      · have hz := h'.1 y hy'
        rw [e] at hz
        have : ¬ ltK (keyL x) (keyL z) := fun q => ltK_irr _ (ltK_tr q hz)
        rw [if_neg this, List.length_cons, List.length_cons, ih h'.2 hy']
theorem rec_keep {M : List Lease} (hs : SrtL M) {k : Key} {x y z : Lease} (hx : getL M k = some x) (hz : getL M (keyL z) = some y) (hne : keyL z ≠ k) : getL (putL z M) k = some x ∧ (putL z M).length = M.length := by
  obtain ⟨h1, h2⟩ := getL_some hx
  obtain ⟨h3, h4⟩ := getL_some hz
  subst h2
  exact ⟨getL_of (putL_srt hs z) ((mem_putL hs).2 (.inr ⟨h1, fun e => hne e.symm⟩)), putL_len_same hs h3 h4⟩
theorem renewed_keep (rho now sent t : Int) (st : List Int) {M : List Lease} (hs : SrtL M) {k : Key} {x : Lease} (hx : getL M k = some x) (hr : x.recd = true) (k' : Key) :
    getL (renewedS rho M now sent k' st t).1 k = some x ∧ (renewedS rho M now sent k' st t).1.length = M.length := by
  unfold renewedS
  cases hg : getL M k' with
  | none => exact ⟨hx, by trivial⟩
  | some y =>
    by_cases ho : renewOk y now sent st t
    · simp only [if_pos ho]
      have hk' := (getL_some hg).2
      have hkz : keyL (renewL rho sent st t y) = k' := hk'
      refine rec_keep hs hx (y := y) (by rw [hkz]; exact hg) (fun e => ?_)
      rw [hkz] at e
      rw [e, hx] at hg
      have := Option.some.inj hg
      rw [← this] at ho
      have := ho.1
      rw [hr] at this
      cases this
    · simp only [if_neg ho]
      exact ⟨hx, by trivial⟩
theorem recall_keep {M : List Lease} (hs : SrtL M) {k : Key} {x : Lease} (hx : getL M k = some x) (hr : x.recd = true) (k' : Key) :
    getL (recallS M k').1 k = some x ∧ (recallS M k').1.length = M.length := by
  unfold recallS
  cases hg : getL M k' with
  | none => exact ⟨hx, by trivial⟩
  | some y =>
    cases hy : y.recd with
    | true => simp only [hy, if_true]; exact ⟨hx, by trivial⟩
    | false =>
      simp only [hy, Bool.false_eq_true, if_false]
      have hkz : keyL { y with recd := true } = k' := (getL_some hg).2
      refine rec_keep hs hx (y := y) (by rw [hkz]; exact hg) (fun e => ?_)
      rw [hkz] at e
      rw [e, hx] at hg
      have := Option.some.inj hg
      rw [← this, hr] at hy
      cases hy
theorem play_keep (rho : Int) {M : List Lease} (hs : SrtL M) {k : Key} {x : Lease} (hx : getL M k = some x) (hr : x.recd = true) (o : OpL) (ho : o.kind = 1 ∨ o.kind = 2) :
    getL (playS rho M o) k = some x ∧ (playS rho M o).length = M.length := by
  unfold playS
  rcases ho with h | h
  · rw [if_pos h]; exact renewed_keep rho _ _ _ _ hs hx hr _
  · rw [if_neg (by omega), if_pos h]; exact recall_keep hs hx hr _
/-- what a recall leaves -/
theorem recall_law {L : List Lease} (hs : SrtL L) (k : Key) :
    (getL L k = none ∧ recallS L k = (L, false)) ∨ ∃ x L1 b, recallS L k = (L1, b) ∧ SrtL L1 ∧ getL L1 k = some x ∧ x.recd = true ∧ L1.length = L.length ∧ recallS L1 k = (L1, false) := by
  cases hg : getL L k with
  | none => exact .inl ⟨rfl, by unfold recallS; rw [hg]⟩
  | some y =>
    right
    obtain ⟨h1, h2⟩ := getL_some hg
    cases hy : y.recd with
    | true => exact ⟨y, L, false, by unfold recallS; simp only [hg, hy, if_true], hs, hg, hy, rfl, by unfold recallS; simp only [hg, hy, if_true]⟩
    | false =>
      have e1 : recallS L k = (putL { y with recd := true } L, true) := by unfold recallS; simp only [hg, hy, Bool.false_eq_true, if_false]
      have hk : keyL { y with recd := true } = k := h2
      have hg2 : getL (putL { y with recd := true } L) k = some { y with recd := true } := by
        have := getL_of (putL_srt hs { y with recd := true }) ((mem_putL hs).2 (.inl rfl))
        rw [hk] at this
        exact this
      exact ⟨{ y with recd := true }, _, true, e1, putL_srt hs _, hg2, rfl, putL_len_same hs h1 rfl, by unfold recallS; simp only [hg2, if_true]⟩
theorem renewed_rec (rho now sent t : Int) (st : List Int) {M : List Lease} {k : Key} {x : Lease} (hx : getL M k = some x) (hr : x.recd = true) : renewedS rho M now sent k st t = (M, false) := by
  unfold renewedS
  simp only [hx]
  rw [if_neg (fun h => by have := h.1; rw [hr] at this; cases this)]
theorem use_rec {M : List Lease} (hs : SrtL M) {k : Key} {x : Lease} (hx : getL M k = some x) (hr : x.recd = true) {now : Int} {path : List UInt8} {md : Int} {z : Lease} {c : Int} (h : UseOut M now path md z c) :
    c ≠ 0 ∨ z.frm ≠ x.frm ∨ (z.frm = x.frm ∧ z.id ≠ x.id) := by
  rcases h with ⟨h1, h2, h3, _⟩ | ⟨h1, _⟩
  · by_cases e1 : z.frm = x.frm
    · by_cases e2 : z.id = x.id
      · have hz := getL_of hs h2
        obtain ⟨_, h5⟩ := getL_some hx
        have : keyL z = k := by rw [← h5]; exact Prod.ext e1 e2
        rw [this, hx] at hz
        have hb := (bears_parts h3).1
        rw [← Option.some.inj hz, hr] at hb
        cases hb
      · exact .inr (.inr ⟨e1, e2⟩)
    · exact .inr (.inl e1)
  · exact .inl h1
abbrev objC (f i : Int) (p : ByteArray) (m : Int) (v : Value) (t s e : Int) (r : Bool) (u : Value) : Obj := .cells #[.int .i64 f, .int .i64 i, .string p, .int .i64 m, v, .int .i64 t, .int .i64 s, .int .i64 e, .bool r, u] 50 (0, 0)
def RecRel (w0 w6 : World) (ph pm : Nat) (rho : Int) (n m : Nat) (k0 : Key) (ox : Option Lease) (s : Value) (wr : World) : Prop :=
  ∃ (k : Nat) (fs : List Nat) (M : List Lease), k ≤ m ∧ s = .int .i64 (k : Int) ∧ HS w0 wr ph pm fs rho M ∧ M.length = n ∧ getL M k0 = ox ∧ Mod [pm] w6 wr
def IdleRel (w6 : World) (m : Nat) (s : Value) (wr : World) : Prop := ∃ k : Nat, k ≤ m ∧ s = .int .i64 (k : Int) ∧ Mod [] w6 wr
end Go.Proofs.Ytifllaeldcimgaa
