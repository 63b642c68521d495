/-
  PLAIN LAWS, NO WALK: the list of leases that a holder stands for, in order of (From, Id); what the calls make of it.
-/
import Derived.Test.YtifllaeldcimgaaGreatHoldW1
import Derived.Test.YtifllaeldcimgaaGreatKeyN
namespace Go.Proofs.YtifllaeldcimgaaGreat
open Go.RowKit

abbrev Key := Int × Int
def keyL (x : Lease) : Key := (x.frm, x.id)
def ltK (a b : Key) : Prop := a.1 < b.1 ∨ (a.1 = b.1 ∧ a.2 < b.2)
instance (a b : Key) : Decidable (ltK a b) := by unfold ltK; exact inferInstance
theorem ltK_irr (a : Key) : ¬ ltK a a := by unfold ltK; omega
theorem ltK_tr {a b c : Key} (h : ltK a b) (k : ltK b c) : ltK a c := by unfold ltK at *; omega
theorem ltK_tot {a b : Key} (h : ¬ ltK a b) (k : a ≠ b) : ltK b a := by
  unfold ltK at *
  have : ¬ (a.1 = b.1 ∧ a.2 = b.2) := fun e => k (Prod.ext e.1 e.2)
  omega
def SrtL (l : List Lease) : Prop := l.Pairwise fun x y => ltK (keyL x) (keyL y)
def getL (l : List Lease) (k : Key) : Option Lease := l.find? fun x => decide (keyL x = k)
def delL (l : List Lease) (k : Key) : List Lease := l.filter fun x => decide (keyL x ≠ k)
def putL (x : Lease) : List Lease → List Lease
  | [] => [x]
  | y :: r => if keyL y = keyL x then x :: r else if ltK (keyL x) (keyL y) then x :: y :: r else y :: putL x r
def sweepL (now : Int) (l : List Lease) : List Lease := l.filter fun x => decide (now < x.expiry)

theorem srt_ne {l : List Lease} (h : SrtL l) : l.Pairwise fun x y => keyL x ≠ keyL y := h.imp fun {a b} (hab : ltK (keyL a) (keyL b)) (e : keyL a = keyL b) => ltK_irr (keyL b) (by rw [e] at hab; exact hab)
theorem srt_mem_eq {l : List Lease} (h : SrtL l) {x y : Lease} (hx : x ∈ l) (hy : y ∈ l) (e : keyL x = keyL y) : x = y := by
  induction l with
  | nil => cases hx
  | cons z r ih =>
    have h' := List.pairwise_cons.1 h
    rcases List.mem_cons.1 hx with ex | hx' <;> rcases List.mem_cons.1 hy with ey | hy'
    · rw [ex, ey]
    · exact absurd (h'.1 y hy') (by rw [← ex, e]; exact ltK_irr _)
    · exact absurd (h'.1 x hx') (by rw [← ey, ← e]; exact ltK_irr _)
    · exact ih h'.2 hx' hy'
theorem srt_unique {l m : List Lease} (hl : SrtL l) (hm : SrtL m) (p : l.Perm m) : l = m := by
  induction l generalizing m with
  | nil => exact (List.nil_perm.1 p).symm
  | cons x r ih =>
    cases m with
    | nil => exact absurd p.length_eq (by simp)
    | cons y s =>
      have e : x = y := by
        have hx := p.mem_iff.1 (List.mem_cons_self (a := x) (l := r))
        have hy := p.mem_iff.2 (List.mem_cons_self (a := y) (l := s))
        rcases List.mem_cons.1 hx with e | e
        · exact e
        · rcases List.mem_cons.1 hy with e2 | e2
          · exact e2.symm
          · exact absurd (ltK_tr ((List.pairwise_cons.1 hl).1 _ e2) ((List.pairwise_cons.1 hm).1 _ e)) (ltK_irr _)
      subst e
      rw [ih (List.pairwise_cons.1 hl).2 (List.pairwise_cons.1 hm).2 ((List.perm_cons _).1 p)]
theorem getL_some {l : List Lease} {k : Key} {x : Lease} (h : getL l k = some x) : x ∈ l ∧ keyL x = k := by
  have h2 := List.find?_some h
  exact ⟨List.mem_of_find?_eq_some h, by simpa using h2⟩
theorem getL_none {l : List Lease} {k : Key} (h : getL l k = none) : ∀ x, x ∈ l → keyL x ≠ k := fun x hx => by
  have := List.find?_eq_none.1 h x hx
  simpa using this
theorem getL_of {l : List Lease} (hs : SrtL l) {x : Lease} (hx : x ∈ l) : getL l (keyL x) = some x := by
  cases h : getL l (keyL x) with
  | none => exact absurd rfl (getL_none h x hx)
  | some y =>
    obtain ⟨h1, h2⟩ := getL_some h
    rw [srt_mem_eq hs h1 hx h2]
theorem delL_srt {l : List Lease} (h : SrtL l) (k : Key) : SrtL (delL l k) := h.filter _
theorem sweepL_srt {l : List Lease} (h : SrtL l) (now : Int) : SrtL (sweepL now l) := h.filter _
theorem mem_delL {l : List Lease} {k : Key} {x : Lease} : x ∈ delL l k ↔ x ∈ l ∧ keyL x ≠ k := by simp [delL]
theorem mem_sweepL {l : List Lease} {now : Int} {x : Lease} : x ∈ sweepL now l ↔ x ∈ l ∧ now < x.expiry := by simp [sweepL]
theorem delL_none {l : List Lease} {k : Key} (h : ∀ x, x ∈ l → keyL x ≠ k) : delL l k = l := List.filter_eq_self.2 fun x hx => by simpa using h x hx
theorem putL_perm {l : List Lease} (h : SrtL l) (x : Lease) : (putL x l).Perm (x :: delL l (keyL x)) := by
  induction l with
  | nil => exact .refl _
  | cons y r ih =>
    have h' := List.pairwise_cons.1 h
    unfold putL
    by_cases e : keyL y = keyL x
    · rw [if_pos e]
      have : delL (y :: r) (keyL x) = r := by
        unfold delL
        rw [List.filter_cons, if_neg (by simp [e])]
        exact delL_none fun z hz q => ltK_irr (keyL y) (by have := h'.1 z hz; rw [q, ← e] at this; exact this)
      rw [this]
    · rw [if_neg e]
      have hd : delL (y :: r) (keyL x) = y :: delL r (keyL x) := by
        unfold delL
        rw [List.filter_cons, if_pos (by simp [e])]
      rw [hd]
      by_cases e2 : ltK (keyL x) (keyL y)
      · rw [if_pos e2]
        have : delL r (keyL x) = r := delL_none fun z hz q => ltK_irr (keyL x) (ltK_tr e2 (by have := h'.1 z hz; rw [q] at this; exact this))
        rw [this]
      · rw [if_neg e2]
        exact (List.Perm.cons y (ih h'.2)).trans (List.Perm.swap x y _)
theorem mem_putL {l : List Lease} (h : SrtL l) {x y : Lease} : y ∈ putL x l ↔ y = x ∨ (y ∈ l ∧ keyL y ≠ keyL x) := by
  rw [(putL_perm h x).mem_iff, List.mem_cons, mem_delL]
theorem putL_srt {l : List Lease} (h : SrtL l) (x : Lease) : SrtL (putL x l) := by
  induction l with
  | nil => exact List.pairwise_cons.2 ⟨by simp, List.Pairwise.nil⟩
  | cons y r ih =>
    have h' := List.pairwise_cons.1 h
    unfold putL
    by_cases e : keyL y = keyL x
    · rw [if_pos e]
      exact List.pairwise_cons.2 ⟨fun z hz => by rw [← e]; exact h'.1 z hz, h'.2⟩
    · rw [if_neg e]
      by_cases e2 : ltK (keyL x) (keyL y)
      · rw [if_pos e2]
        refine List.pairwise_cons.2 ⟨fun z hz => ?_, h⟩
        rcases List.mem_cons.1 hz with rfl | hz
        · exact e2
        · exact ltK_tr e2 (h'.1 z hz)
      · rw [if_neg e2]
        refine List.pairwise_cons.2 ⟨fun z hz => ?_, ih h'.2⟩
        rcases (mem_putL h'.2).1 hz with rfl | ⟨hz, _⟩
        · exact ltK_tot e2 (fun q => e q.symm)
        · exact h'.1 z hz
theorem putL_len {l : List Lease} (h : SrtL l) (x : Lease) : (putL x l).length = (delL l (keyL x)).length + 1 := (putL_perm h x).length_eq
theorem delL_le (l : List Lease) (k : Key) : (delL l k).length ≤ l.length := List.length_filter_le _ _
theorem delL_lt {l : List Lease} {x : Lease} (hx : x ∈ l) : (delL l (keyL x)).length < l.length := by
  unfold delL
  refine Nat.lt_of_le_of_ne (List.length_filter_le _ _) fun e => ?_
  have := List.filter_eq_self.1 (List.length_filter_eq_length_iff.1 e |> List.filter_eq_self.2) x hx
  simp at this

/-! ### the holder in memory -/
def okL (x : Lease) : Prop := (0 ≤ x.frm ∧ x.frm < 8 ∧ 1 ≤ x.id ∧ x.id ≤ 1099511627776) ∧ pathOk x.path.data.toList = true ∧ modeOk x.mode ∧ (x.stamp ≠ [] ∧ stampOk x.stamp) ∧ (4 ≤ x.term ∧ x.term ≤ 1048576) ∧
  0 ≤ x.sent ∧ x.sent ≤ 1152921504606846976 ∧ x.sent ≤ x.expiry ∧ x.expiry ≤ 1152921504606846976 + 1048576
theorem okL_stamp {x : Lease} (h : okL x) : x.stamp.length ≤ 4 := h.2.2.2.1.2.1
theorem okL_path {x : Lease} (h : okL x) : x.path.size ≤ 27 := by
  have := pathOk_len h.2.1
  rw [Lib.size_eq]; exact this
def ent (p : Lease × Value) : Key × Value := (keyL p.1, aggL p.1 p.2)
/-- the holder at ph, its map at pm, the stamps of its leases in the blocks of fs -/
structure Hd (w : World) (ph pm : Nat) (fs : List Nat) (rho : Int) (l : List Lease) : Prop where
  rep : ∃ lv : List (Lease × Value), MapL nameT w pm (lv.map ent) ∧ (lv.map Prod.fst).Perm l ∧ ∀ p, p ∈ lv → LsV w fs p
  blk : w.heap[ph]? = some (.cells #[.int .i64 rho, .map (some pm)] 64 (0, 0))
  off : pm ∉ fs ∧ ph ∉ fs ∧ ph ≠ pm
  lts : ∀ k, k ∈ fs → k < w.heap.size
  srt : SrtL l
  ok : ∀ x, x ∈ l → okL x
  rhoOk : 0 ≤ rho ∧ rho ≤ 999
  small : l.length ≤ 8
structure HdTo (w : World) (pm : Nat) (fs : List Nat) (w' : World) (fs' : List Nat) : Prop where
  mod : Mod [pm] w w'
  own : ∀ k, k ∈ fs' → k ∈ fs ∨ w.heap.size ≤ k
section
variable {w w' : World} {ph pm : Nat} {fs fs' : List Nat} {rho : Int} {l l' : List Lease}
theorem HdTo.same (h : Mod [] w w') : HdTo w pm fs w' fs := ⟨h.mono (by simp), fun _ h => .inl h⟩
theorem HdTo.of (h : Mod [pm] w w') : HdTo w pm fs w' fs := ⟨h, fun _ h => .inl h⟩
theorem HdTo.trans {w'' : World} {fs'' : List Nat} (h : HdTo w pm fs w' fs') (k : HdTo w' pm fs' w'' fs'') : HdTo w pm fs w'' fs'' :=
  ⟨h.mod.then k.mod, fun x hx => by
    rcases k.own x hx with e | e
    · exact h.own x e
    · have := h.mod.size; exact .inr (by omega)⟩
theorem Hd.lt (h : Hd w ph pm fs rho l) : ph < w.heap.size ∧ pm < w.heap.size := by
  obtain ⟨lv, h1, _⟩ := h.rep
  exact ⟨lt_of_block h.blk, h1.lt⟩
theorem Hd.mod (h : Hd w ph pm fs rho l) {S : List Nat} (m : Mod S w w') (h1 : ph ∉ S) (h2 : pm ∉ S) (h3 : ∀ k, k ∈ fs → k ∉ S) : Hd w' ph pm fs rho l := by
  obtain ⟨lv, a, b, c⟩ := h.rep
  exact ⟨⟨lv, a.mod m h2, b, fun p hp => (c p hp).mod m h3⟩, m.at_ h.blk h1, h.off, fun k hk => Nat.lt_of_lt_of_le (h.lts k hk) m.size, h.srt, h.ok, h.rhoOk, h.small⟩
theorem Hd.same (h : Hd w ph pm fs rho l) (m : Mod [] w w') : Hd w' ph pm fs rho l := h.mod m (by simp) (by simp) (by simp)
theorem Hd.gr (h : Hd w ph pm fs rho l) (g : Gr w w') : Hd w' ph pm fs rho l := h.same (g.mod [])
/-- the holder stays while blocks that are new since a world W are written -/
theorem Hd.newer (h : Hd w ph pm fs rho l) {S : List Nat} (m : Mod S w w') (hS : ∀ k, k ∈ S → w.heap.size ≤ k) : Hd w' ph pm fs rho l :=
  h.mod m (fun e => by have := hS _ e; have := h.lt.1; omega) (fun e => by have := hS _ e; have := h.lt.2; omega) (fun k hk e => by have := hS _ e; have := h.lts k hk; omega)
theorem Hd.cell0 (h : Hd w ph pm fs rho l) : w.cell? ⟨ph, 0, none⟩ = some (.int .i64 rho) := blk_cell h.blk 0
theorem Hd.cell1 (h : Hd w ph pm fs rho l) : w.cell? ⟨ph, 1, none⟩ = some (.map (some pm)) := blk_cell h.blk 1
theorem getM_ent {lv : List (Lease × Value)} (hp : (lv.map Prod.fst).Perm l) (hm : MapL nameT w pm (lv.map ent)) (k : Key) :
    (getM (lv.map ent) k = none ∧ getL l k = none) ∨ ∃ p, p ∈ lv ∧ getM (lv.map ent) k = some (aggL p.1 p.2) ∧ getL l k = some p.1 ∧ keyL p.1 = k := by
  cases h : getL l k with
  | none =>
    refine .inl ⟨getM_none fun q hq e => ?_, rfl⟩
    obtain ⟨p, hp', rfl⟩ := List.mem_map.1 hq
    exact getL_none h p.1 (hp.mem_iff.1 (List.mem_map.2 ⟨p, hp', rfl⟩)) e
  | some x =>
    obtain ⟨h1, h2⟩ := getL_some h
    obtain ⟨p, hp', e⟩ := List.mem_map.1 (hp.mem_iff.2 h1)
    subst e
    refine .inr ⟨p, hp', ?_, rfl, h2⟩
    rw [← h2]
    exact getM_some hm.one (List.mem_map.2 ⟨p, hp', rfl⟩)
theorem lease_wf {x : Lease} (h : okL x) : nameT.ok (keyL x) := by
  obtain ⟨⟨a, b, c, d⟩, _⟩ := h
  exact ⟨i64w_of (by simp only [keyL]; omega) (by simp only [keyL]; omega), i64w_of (by simp only [keyL]; omega) (by simp only [keyL]; omega)⟩
end
end Go.Proofs.YtifllaeldcimgaaGreat
