/-
  PLAIN LAWS, NO WALK: the list that an agenda stands for: in order, no two of one kind and key; what Put, Drop, Take make of it.
-/
import Derived.Test.YtbaphdaipacihaaAgPlace
namespace Go.Proofs.Ytbaphdaipacihaa
open Go.RowKit

def Srt (l : List Item) : Prop := l.Pairwise fun a b => ltI a b = true
def Keyed1 (l : List Item) : Prop := l.Pairwise fun a b => ¬ (a.2.1 = b.2.1 ∧ a.2.2 = b.2.2)
def dropI (l : List Item) (kd key : Int) : List Item := l.filter fun y => !isB kd key y
def insI (x : Item) : List Item → List Item
  | [] => [x]
  | y :: r => if ltI y x = true then y :: insI x r else x :: y :: r
def okI (x : Item) : Prop := 0 ≤ x.1 ∧ x.1 ≤ 4611686018427387904 ∧ 1 ≤ x.2.1 ∧ x.2.1 ≤ 4
instance (x : Item) : Decidable (okI x) := by unfold okI; exact inferInstance
def putI (l : List Item) (x : Item) : List Item × Int :=
  if ¬ okI x then (l, 2) else if (dropI l x.2.1 x.2.2).length = l.length ∧ l.length = 32 then (l, 51) else (insI x (dropI l x.2.1 x.2.2), 0)
def takeI (l : List Item) (now : Int) : List Item × Option Item :=
  match l with
  | [] => ([], none)
  | x :: r => if x.1 ≤ now then (r, some x) else (x :: r, none)

theorem isB_iff (kd key : Int) (y : Item) : isB kd key y = true ↔ y.2.1 = kd ∧ y.2.2 = key := by simp [isB]
theorem isB_false (kd key : Int) (y : Item) : isB kd key y = false ↔ ¬ (y.2.1 = kd ∧ y.2.2 = key) := by
  rw [← isB_iff]; cases isB kd key y <;> simp

theorem insI_perm (x : Item) (l : List Item) : (insI x l).Perm (x :: l) := by
  induction l with
  | nil => exact .refl _
  | cons y r ih =>
    unfold insI
    split
    · exact (List.Perm.cons y ih).trans (List.Perm.swap x y r)
    · exact .refl _
theorem insI_len (x : Item) (l : List Item) : (insI x l).length = l.length + 1 := (insI_perm x l).length_eq
theorem insI_srt (x : Item) (l : List Item) (h : Srt l) (hx : ∀ y, y ∈ l → y ≠ x) : Srt (insI x l) := by
  induction l with
  | nil => simp [insI, Srt]
  | cons y r ih =>
    have h' := List.pairwise_cons.1 h
    unfold insI
    split
    · rename_i e
      refine List.pairwise_cons.2 ⟨fun z hz => ?_, ih h'.2 (fun z hz => hx z (List.mem_cons_of_mem _ hz))⟩
      rcases List.mem_cons.1 ((insI_perm x r).mem_iff.1 hz) with rfl | hz
      · exact e
      · exact h'.1 z hz
    · rename_i e
      have e' : ltI x y = true := by
        cases e2 : ltI x y
        · exact absurd (lo.tot y x (by simpa using e) e2) (hx y List.mem_cons_self)
        · rfl
      refine List.pairwise_cons.2 ⟨fun z hz => ?_, h⟩
      rcases List.mem_cons.1 hz with rfl | hz
      · exact e'
      · exact lo.tr _ _ _ e' (h'.1 z hz)
theorem dropI_sub (l : List Item) (kd key : Int) : (dropI l kd key).Sublist l := List.filter_sublist
theorem dropI_srt {l : List Item} (h : Srt l) (kd key : Int) : Srt (dropI l kd key) := List.Pairwise.sublist (dropI_sub l kd key) h
theorem dropI_keyed {l : List Item} (h : Keyed1 l) (kd key : Int) : Keyed1 (dropI l kd key) := List.Pairwise.sublist (dropI_sub l kd key) h
theorem mem_dropI {l : List Item} {kd key : Int} {y : Item} : y ∈ dropI l kd key ↔ y ∈ l ∧ ¬ (y.2.1 = kd ∧ y.2.2 = key) := by
  unfold dropI
  rw [List.mem_filter]
  constructor
  · rintro ⟨a, b⟩; exact ⟨a, (isB_false kd key y).1 (by simpa using b)⟩
  · rintro ⟨a, b⟩; exact ⟨a, by rw [(isB_false kd key y).2 b]; rfl⟩
theorem keyed_perm {l m : List Item} (h : Keyed1 l) (p : l.Perm m) : Keyed1 m :=
  (p.pairwise_iff (fun {_ _} hab hba => hab ⟨hba.1.symm, hba.2.symm⟩)).1 h
theorem insI_keyed (x : Item) (l : List Item) (h : Keyed1 l) : Keyed1 (insI x (dropI l x.2.1 x.2.2)) := by
  refine keyed_perm ?_ (insI_perm _ _).symm
  refine List.pairwise_cons.2 ⟨fun y hy e => ?_, dropI_keyed h _ _⟩
  exact (mem_dropI.1 hy).2 ⟨e.1.symm, e.2.symm⟩
theorem insI_drop_srt (x : Item) (l : List Item) (h : Srt l) : Srt (insI x (dropI l x.2.1 x.2.2)) :=
  insI_srt x _ (dropI_srt h _ _) (fun y hy e => (mem_dropI.1 hy).2 (by rw [e]; exact ⟨rfl, rfl⟩))
theorem dropI_none {l : List Item} {kd key : Int} (h : ∀ y, y ∈ l → isB kd key y = false) : dropI l kd key = l :=
  List.filter_eq_self.2 fun y hy => by rw [h y hy]; rfl
theorem dropI_perm {l m : List Item} (p : l.Perm m) (kd key : Int) : (dropI l kd key).Perm (dropI m kd key) := p.filter _
/-- where one of that kind and key stands, the others are what is left -/
theorem dropI_at {d : List Item} (h : Keyed1 d) {kd key : Int} {i : Nat} (hi : i < d.length) (hb : isB kd key (get d i) = true) :
    ∃ a b, d = a ++ get d i :: b ∧ a.length = i ∧ dropI d kd key = a ++ b := by
  obtain ⟨a, b, h1, _, ha⟩ := set_split d i default hi
  refine ⟨a, b, h1, ha, ?_⟩
  have hk := (isB_iff _ _ _).1 hb
  have h' := h
  unfold Keyed1 at h'
  rw [h1] at h'
  obtain ⟨_, q2, q3⟩ := List.pairwise_append.1 h'
  have q2' := List.pairwise_cons.1 q2
  unfold dropI
  rw [h1, List.filter_append, List.filter_cons]
  have e0 : (!isB kd key (d.getD i default)) = false := by rw [show isB kd key (d.getD i default) = true from hb]; rfl
  rw [if_neg (by rw [e0]; decide)]
  congr 1
  · refine List.filter_eq_self.2 fun y hy => ?_
    rw [(isB_false kd key y).2 (fun e => q3 y hy _ List.mem_cons_self ⟨e.1.trans hk.1.symm, e.2.trans hk.2.symm⟩)]; rfl
  · refine List.filter_eq_self.2 fun y hy => ?_
    rw [(isB_false kd key y).2 (fun e => q2'.1 y hy ⟨hk.1.trans e.1.symm, hk.2.trans e.2.symm⟩)]; rfl
theorem dropI_len_lt {d : List Item} (h : Keyed1 d) {kd key : Int} {i : Nat} (hi : i < d.length) (hb : isB kd key (get d i) = true) : (dropI d kd key).length + 1 = d.length := by
  obtain ⟨a, b, h1, _, h2⟩ := dropI_at h hi hb
  rw [h2]
  have := congrArg List.length h1
  simp at this ⊢
  omega
theorem find_at {d l : List Item} (h : Keyed1 l) (p : d.Perm l) {kd key : Int} {i : Nat} (hi : i < d.length) (hb : isB kd key (get d i) = true) : l.find? (isB kd key) = some (get d i) := by
  have hm : get d i ∈ l := p.mem_iff.1 (by simp [get, hi])
  cases hf : l.find? (isB kd key) with
  | none => have := List.find?_eq_none.1 hf _ hm; exact absurd hb this
  | some y =>
    have hy := List.find?_some hf
    have hyl := List.mem_of_find?_eq_some hf
    congr 1
    have k1 := (isB_iff _ _ _).1 hb
    have k2 := (isB_iff _ _ _).1 hy
    obtain ⟨j, hj, rfl⟩ := List.getElem_of_mem hyl
    obtain ⟨k, hk, e⟩ := List.getElem_of_mem hm
    rw [← e] at k1 ⊢
    have hp := List.pairwise_iff_getElem.1 h
    rcases Nat.lt_trichotomy j k with hlt | rfl | hlt
    · exact absurd ⟨k2.1.trans k1.1.symm, k2.2.trans k1.2.symm⟩ (hp j k hj hk hlt)
    · rfl
    · exact absurd ⟨k1.1.trans k2.1.symm, k1.2.trans k2.2.symm⟩ (hp k j hk hj hlt)
theorem find_none {d l : List Item} (p : d.Perm l) {kd key : Int} (hn : ∀ y, y ∈ d → isB kd key y = false) : l.find? (isB kd key) = none :=
  List.find?_eq_none.2 fun y hy => by rw [hn y (p.mem_iff.2 hy)]; decide
/-- the first of the heap is the first in order -/
theorem head_at {d : List Item} {y : Item} {r : List Item} (hh : HeapLaw.Heap ltI (get d) d.length) (p : d.Perm (y :: r)) (hs : Srt (y :: r)) : get d 0 = y := by
  have hl := p.length_eq
  have h0 : 0 < d.length := by rw [hl]; simp
  have hm : get d 0 ∈ y :: r := p.mem_iff.1 (by simp [get, h0])
  rcases List.mem_cons.1 hm with e | e
  · exact e
  · have a := (List.pairwise_cons.1 hs).1 _ e
    have hy : y ∈ d := p.mem_iff.2 List.mem_cons_self
    obtain ⟨j, hj, ej⟩ := List.getElem_of_mem hy
    have := hh.least lo j hj
    have e2 : get d j = y := by simp [get, hj, ej]
    rw [e2] at this
    rw [this] at a; cases a
theorem srt_unique {l m : List Item} (hl : Srt l) (hm : Srt m) (p : l.Perm m) : l = m := by
  induction l generalizing m with
  | nil => exact (List.nil_perm.1 p).symm
  | cons x r ih =>
    cases m with
    | nil => exact absurd p.length_eq (by simp)
    | cons y s =>
      have e : x = y := by
        have hx := p.mem_iff.1 (List.mem_cons_self (a := x) (l := r))
        have hy := p.mem_iff.2 (List.mem_cons_self (a := y) (l := s))
        rcases List.mem_cons.1 hx with e | e
        · exact e
        · rcases List.mem_cons.1 hy with e2 | e2
          · exact e2.symm
          · have a := (List.pairwise_cons.1 hl).1 _ e2
            have b := (List.pairwise_cons.1 hm).1 _ e
            have := lo.asym a
            rw [this] at b; cases b
      subst e
      rw [ih (List.pairwise_cons.1 hl).2 (List.pairwise_cons.1 hm).2 ((List.perm_cons _).1 p)]

/-- the agenda at pa stands for the list l; its row lies in the blocks of own -/
structure Ag (w : World) (pa : Nat) (own : List Nat) (l : List Item) : Prop where
  rep : ∃ v d, AgR w pa v d ∧ d.Perm l ∧ own = ob v
  srt : Srt l
  keyed : Keyed1 l
  small : l.length ≤ 32
/-- what a call may do to memory: write in the agenda's own blocks; the new row is the old one or new -/
structure AgTo (w : World) (pa : Nat) (own : List Nat) (w' : World) (own' : List Nat) : Prop where
  mod : Mod (pa :: own) w w'
  own : ∀ k, k ∈ own' → k ∈ own ∨ w.heap.size ≤ k
theorem AgTo.same {w w' : World} {pa : Nat} {own : List Nat} (h : Mod [] w w') : AgTo w pa own w' own := ⟨h.mono (by simp), fun _ h => .inl h⟩
theorem AgTo.of {w w' : World} {pa : Nat} {own : List Nat} (h : Mod (pa :: own) w w') : AgTo w pa own w' own := ⟨h, fun _ h => .inl h⟩
theorem Ag.mod {w w' : World} {pa : Nat} {own : List Nat} {l : List Item} (h : Ag w pa own l) {S : List Nat} (m : Mod S w w') (h1 : pa ∉ S) (h2 : ∀ k, k ∈ own → k ∉ S) : Ag w' pa own l := by
  obtain ⟨v, d, hr, hp, rfl⟩ := h.rep
  exact ⟨⟨v, d, ⟨hr.ag.mod m h1 h2, hr.heap⟩, hp, rfl⟩, h.srt, h.keyed, h.small⟩
theorem Ag.lt {w : World} {pa : Nat} {own : List Nat} {l : List Item} (h : Ag w pa own l) : pa < w.heap.size ∧ ∀ k, k ∈ own → k < w.heap.size := by
  obtain ⟨v, d, hr, hp, rfl⟩ := h.rep
  exact ⟨hr.ag.lt, ob_lt hr.ag⟩
end Go.Proofs.Ytbaphdaipacihaa
