/-
  PLAIN LAWS, NO WALK: entries by segments: what lies at a place of the tree and below it.
-/
import Derived.Test.YthkcbennfochmaaGreatDoorPsSegs
namespace Go.Proofs.YthkcbennfochmaaGreatDoor
open Go.RowKit

structure Ent where
  id : Int
  path : ByteArray
  mode : Int
  who : Int
deriving DecidableEq
def Ent.sg (e : Ent) : List Seg := segsOf e.path.data.toList
/-- a place of the tree: its segments, the branch's block, its map of entries, its map of children -/
structure Nd where
  pre : List Seg
  b : Nat
  em : Nat
  cm : Nat
def kidsOf (N : List Nd) (p : List Seg) : List Nd := N.filter fun m => decide (m.pre ≠ [] ∧ m.pre.dropLast = p)
def entsOf (l : List Ent) (p : List Seg) : List Ent := l.filter fun e => decide (e.sg = p)
def belowL (l : List Ent) (p : List Seg) : List Ent := l.filter fun e => decide (p <+: e.sg)
/-- the tree's form: places apart, closed towards the root, each entry has its place -/
structure TrP (N : List Nd) (l : List Ent) : Prop where
  one : N.Pairwise fun m n => m.pre ≠ n.pre
  root : ∃ n, n ∈ N ∧ n.pre = []
  closed : ∀ n, n ∈ N → n.pre ≠ [] → ∃ m, m ∈ N ∧ m.pre = n.pre.dropLast
  home : ∀ e, e ∈ l → ∃ n, n ∈ N ∧ n.pre = e.sg
theorem TrP.up {N : List Nd} {l : List Ent} (h : TrP N l) : ∀ (k : Nat) (n : Nd), n ∈ N → n.pre.length = k → ∀ p, p <+: n.pre → ∃ m, m ∈ N ∧ m.pre = p := by
  intro k
  induction k with
  | zero =>
    intro n hn hk p hp
    have : n.pre = [] := List.length_eq_zero_iff.1 hk
    rw [this] at hp
    exact ⟨n, hn, by rw [this, List.prefix_nil.1 hp]⟩
  | succ k ih =>
    intro n hn hk p hp
    by_cases e : p = n.pre
    · exact ⟨n, hn, e.symm⟩
    · have hne : n.pre ≠ [] := fun q => by rw [q] at hk; simp at hk
      obtain ⟨m, hm, hmp⟩ := h.closed n hn hne
      refine ih m hm (by rw [hmp, List.length_dropLast]; omega) p ?_
      rw [hmp]
      obtain ⟨t, ht⟩ := hp
      rcases List.eq_nil_or_concat t with rfl | ⟨u, x, rfl⟩
      · exact absurd (by simpa using ht) e
      · exact ⟨u, by rw [← ht, List.concat_eq_append, ← List.append_assoc, List.dropLast_concat]⟩
theorem TrP.at_ {N : List Nd} {l : List Ent} (h : TrP N l) {e : Ent} (he : e ∈ l) {p : List Seg} (hp : p <+: e.sg) : ∃ m, m ∈ N ∧ m.pre = p := by
  obtain ⟨n, hn, hp'⟩ := h.home e he
  exact h.up _ n hn rfl p (by rw [hp']; exact hp)
theorem mem_kids {N : List Nd} {p : List Seg} {m : Nd} : m ∈ kidsOf N p ↔ m ∈ N ∧ m.pre ≠ [] ∧ m.pre.dropLast = p := by simp [kidsOf]
theorem kid_pre {N : List Nd} {p : List Seg} {m : Nd} (h : m ∈ kidsOf N p) : ∃ x, m.pre = p ++ [x] := by
  obtain ⟨_, h1, h2⟩ := mem_kids.1 h
  exact ⟨m.pre.getLast h1, by rw [← h2, List.dropLast_concat_getLast]⟩
theorem pre_one {N : List Nd} (h : N.Pairwise fun m n => m.pre ≠ n.pre) {m n : Nd} (hm : m ∈ N) (hn : n ∈ N) (e : m.pre = n.pre) : m = n := by
  induction N with
  | nil => cases hm
  | cons z r ih =>
    have h' := List.pairwise_cons.1 h
    rcases List.mem_cons.1 hm with rfl | hm' <;> rcases List.mem_cons.1 hn with rfl | hn'
    · rfl
    · exact absurd e (h'.1 n hn')
    · exact absurd e.symm (h'.1 m hm')
    · exact ih h'.2 hm' hn'
theorem count_one {α : Type} (f : α → Bool) : ∀ (L : List α), L.Pairwise (fun a b => ¬ (f a = true ∧ f b = true)) → L.countP f = if L.any f then 1 else 0 := by
  intro L
  induction L with
  | nil => intro _; rfl
  | cons a r ih =>
    intro h
    have h' := List.pairwise_cons.1 h
    rw [List.countP_cons, ih h'.2, List.any_cons]
    cases hf : f a
    · simp
    · have : r.any f = false := by
        rw [List.any_eq_false]
        intro b hb hfb
        exact h'.1 b hb ⟨hf, hfb⟩
      simp [this]
theorem filter_flat_perm {α β : Type} [DecidableEq α] {l : List α} {ms : List β} {p q : α → Bool} {r : β → α → Bool}
    (h : ∀ e, e ∈ l → (if p e then 1 else 0) = (if q e then 1 else 0) + ms.countP (fun m => r m e)) : (l.filter p).Perm (l.filter q ++ ms.flatMap fun m => l.filter (r m)) := by
  rw [List.perm_iff_count]
  intro a
  rw [List.count_append, List.count_flatMap]
  have cf : ∀ f : α → Bool, List.count a (l.filter f) = if f a then List.count a l else 0 := by
    intro f
    by_cases hf : f a = true
    · rw [List.count_filter hf, if_pos hf]
    · rw [if_neg hf, List.count_eq_zero]
      intro hm
      exact hf (List.mem_filter.1 hm).2
  have hs : (ms.map (List.count a ∘ fun m => l.filter (r m))).sum = ms.countP (fun m => r m a) * List.count a l := by
    induction ms with
    | nil => simp
    | cons m t ih =>
      rw [List.map_cons, List.sum_cons, List.countP_cons]
      have ih' : (t.map (List.count a ∘ fun m => l.filter (r m))).sum = t.countP (fun m => r m a) * List.count a l := by
        clear h ih
        induction t with
        | nil => simp
        | cons m2 t2 ih2 =>
          rw [List.map_cons, List.sum_cons, List.countP_cons, ih2]
          simp only [Function.comp, cf]
          split <;> simp [Nat.add_mul] <;> omega
      rw [ih']
      simp only [Function.comp, cf]
      split <;> simp [Nat.add_mul] <;> omega
  rw [hs, cf, cf]
  by_cases ha : a ∈ l
  · have := h a ha
    cases hp : p a <;> cases hq : q a <;> simp only [hp, hq, if_true, if_false, Bool.false_eq_true] at this ⊢
    · rw [show ms.countP (fun m => r m a) = 0 by omega]; simp
    · omega
    · rw [show ms.countP (fun m => r m a) = 1 by omega]; simp
    · rw [show ms.countP (fun m => r m a) = 0 by omega]; simp
  · have : List.count a l = 0 := List.count_eq_zero.2 ha
    rw [this]; simp
/-- what lies below a place: what lies at it, and what lies below its children -/
theorem below_perm {N : List Nd} {l : List Ent} (h : TrP N l) (p : List Seg) : (belowL l p).Perm (entsOf l p ++ (kidsOf N p).flatMap fun m => belowL l m.pre) := by
  unfold belowL entsOf
  refine filter_flat_perm fun e he => ?_
  rw [count_one]
  · by_cases h1 : e.sg = p
    · have hany : (kidsOf N p).any (fun m => decide (m.pre <+: e.sg)) = false := by
        rw [List.any_eq_false]
        intro m hm hd
        obtain ⟨x, hx⟩ := kid_pre hm
        have := (of_decide_eq_true hd).length_le
        rw [hx, h1] at this
        simp at this
        omega
      rw [hany, h1]
      simp
    · by_cases h2 : p <+: e.sg
      · have hany : (kidsOf N p).any (fun m => decide (m.pre <+: e.sg)) = true := by
          obtain ⟨t, ht⟩ := h2
          cases t with
          | nil => exact absurd (by simpa using ht.symm) h1
          | cons x u =>
            have hpx : p ++ [x] <+: e.sg := ⟨u, by rw [← ht]; simp⟩
            obtain ⟨m, hm, hmp⟩ := h.at_ he hpx
            rw [List.any_eq_true]
            exact ⟨m, mem_kids.2 ⟨hm, by rw [hmp]; simp, by rw [hmp, List.dropLast_concat]⟩, by rw [hmp]; simpa using hpx⟩
        rw [hany]
        simp [h1, h2]
      · have hany : (kidsOf N p).any (fun m => decide (m.pre <+: e.sg)) = false := by
          rw [List.any_eq_false]
          intro m hm hd
          obtain ⟨x, hx⟩ := kid_pre hm
          exact h2 ((by rw [hx]; exact List.prefix_append _ _ : p <+: m.pre).trans (of_decide_eq_true hd))
        rw [hany]
        simp [h1, h2]
  · have hk : (kidsOf N p).Pairwise fun m n => m.pre ≠ n.pre := h.one.filter _
    refine hk.imp_of_mem fun {m n} hm hn hne hb => hne ?_
    obtain ⟨x, hx⟩ := kid_pre hm
    obtain ⟨y, hy⟩ := kid_pre hn
    have h1 := of_decide_eq_true hb.1
    have h2 := of_decide_eq_true hb.2
    rw [hx] at h1 ⊢
    rw [hy] at h2 ⊢
    exact List.IsPrefix.eq_of_length (List.prefix_of_prefix_length_le h1 h2 (by simp)) (by simp)
/-! ### the tree grows and is pruned -/
theorem TrP.grow {N : List Nd} {l : List Ent} (h : TrP N l) {m : Nd} (hm : ∀ n, n ∈ N → n.pre ≠ m.pre) (hp : ∃ q, q ∈ N ∧ q.pre = m.pre.dropLast) : TrP (m :: N) l := by
  refine ⟨List.pairwise_cons.2 ⟨fun n hn => (hm n hn).symm, h.one⟩, ?_, fun n hn hne => ?_, fun e he => ?_⟩
  · obtain ⟨n, hn, e⟩ := h.root
    exact ⟨n, List.mem_cons_of_mem _ hn, e⟩
  · rcases List.mem_cons.1 hn with rfl | hn
    · obtain ⟨q, hq, e⟩ := hp
      exact ⟨q, List.mem_cons_of_mem _ hq, e⟩
    · obtain ⟨q, hq, e⟩ := h.closed n hn hne
      exact ⟨q, List.mem_cons_of_mem _ hq, e⟩
  · obtain ⟨n, hn, e⟩ := h.home e he
    exact ⟨n, List.mem_cons_of_mem _ hn, e⟩
theorem TrP.put {N : List Nd} {l l' : List Ent} (h : TrP N l) {e : Ent} (he : ∃ n, n ∈ N ∧ n.pre = e.sg) (hl : ∀ x, x ∈ l' → x = e ∨ x ∈ l) : TrP N l' :=
  ⟨h.one, h.root, h.closed, fun x hx => by
    rcases hl x hx with rfl | hx
    · exact he
    · exact h.home x hx⟩
theorem TrP.sub {N : List Nd} {l l' : List Ent} (h : TrP N l) (hl : ∀ x, x ∈ l' → x ∈ l) : TrP N l' := ⟨h.one, h.root, h.closed, fun x hx => h.home x (hl x hx)⟩
def cutN (N : List Nd) (p : List Seg) : List Nd := N.filter fun n => decide (n.pre ≠ p)
theorem mem_cutN {N : List Nd} {p : List Seg} {n : Nd} : n ∈ cutN N p ↔ n ∈ N ∧ n.pre ≠ p := by simp [cutN]
theorem TrP.cut {N : List Nd} {l : List Ent} (h : TrP N l) {p : List Seg} (hne : p ≠ []) (h1 : entsOf l p = []) (h2 : kidsOf N p = []) : TrP (cutN N p) l := by
  refine ⟨h.one.filter _, ?_, fun n hn hn0 => ?_, fun e he => ?_⟩
  · obtain ⟨n, hn, e⟩ := h.root
    exact ⟨n, mem_cutN.2 ⟨hn, fun q => hne (by rw [← q, e])⟩, e⟩
  · obtain ⟨q, hq, e⟩ := h.closed n (mem_cutN.1 hn).1 hn0
    refine ⟨q, mem_cutN.2 ⟨hq, fun x => ?_⟩, e⟩
    have : n ∈ kidsOf N p := mem_kids.2 ⟨(mem_cutN.1 hn).1, hn0, by rw [← e, x]⟩
    rw [h2] at this
    cases this
  · obtain ⟨n, hn, q⟩ := h.home e he
    refine ⟨n, mem_cutN.2 ⟨hn, fun x => ?_⟩, q⟩
    have : e ∈ entsOf l p := List.mem_filter.2 ⟨he, by rw [← x, q]; simp⟩
    rw [h1] at this
    cases this
theorem kids_cut (N : List Nd) (p q : List Seg) : kidsOf (cutN N p) q = (kidsOf N q).filter fun n => decide (n.pre ≠ p) := by
  unfold kidsOf cutN
  rw [List.filter_filter, List.filter_filter]
  exact List.filter_congr fun x _ => Bool.and_comm _ _
theorem kids_cons (m : Nd) (N : List Nd) (q : List Seg) : kidsOf (m :: N) q = if m.pre ≠ [] ∧ m.pre.dropLast = q then m :: kidsOf N q else kidsOf N q := by
  unfold kidsOf
  rw [List.filter_cons]
  by_cases h : m.pre ≠ [] ∧ m.pre.dropLast = q
  · rw [if_pos (by simpa using h), if_pos h]
  · rw [if_neg (by simpa using h), if_neg h]
/-- a new place has no children yet -/
theorem kids_fresh {N : List Nd} {l : List Ent} (h : TrP N l) {p : List Seg} (hp : ∀ n, n ∈ N → n.pre ≠ p) : kidsOf N p = [] := by
  refine List.filter_eq_nil_iff.2 fun m hm hd => ?_
  obtain ⟨h0, h1⟩ := of_decide_eq_true hd
  obtain ⟨q, hq, e⟩ := h.closed m hm h0
  exact hp q hq (by rw [e, h1])
theorem ents_fresh {N : List Nd} {l : List Ent} (h : TrP N l) {p : List Seg} (hp : ∀ n, n ∈ N → n.pre ≠ p) : entsOf l p = [] := by
  refine List.filter_eq_nil_iff.2 fun e he hd => ?_
  obtain ⟨n, hn, q⟩ := h.home e he
  exact hp n hn (by rw [q, of_decide_eq_true hd])
/-- no place but the root without an entry at it or below it -/
def Pruned (N : List Nd) (l : List Ent) : Prop := ∀ n, n ∈ N → n.pre ≠ [] → ∃ e, e ∈ l ∧ n.pre <+: e.sg
/-- what prune leaves, called at the place p: all that does not lie below p; below p only what has entries -/
structure Prn (N : List Nd) (l : List Ent) (p : List Seg) (N' : List Nd) : Prop where
  tr : TrP N' l
  sub : ∀ n, n ∈ N' → n ∈ N
  keep : ∀ n, n ∈ N → ¬ (p <+: n.pre ∧ n.pre ≠ p) → n ∈ N'
  has : ∀ n, n ∈ N' → p <+: n.pre → n.pre ≠ p → ∃ e, e ∈ l ∧ n.pre <+: e.sg
theorem Prn.base {N : List Nd} {l l' : List Ent} {p : List Seg} (hT : TrP N l) (hP : Pruned N l) (hs : ∀ x, x ∈ l' → x ∈ l) (hl : ∀ x, x ∈ l → x ∈ l' ∨ x.sg = p) : Prn N l' p N := by
  refine ⟨hT.sub hs, fun _ h => h, fun _ h _ => h, fun n hn hp hne => ?_⟩
  have hn0 : n.pre ≠ [] := fun e => hne (by rw [e] at hp ⊢; exact (List.prefix_nil.1 hp).symm)
  obtain ⟨e, he, q⟩ := hP n hn hn0
  refine ⟨e, (hl e he).resolve_right fun h => ?_, q⟩
  rw [h] at q
  exact hne (List.IsPrefix.eq_of_length q (Nat.le_antisymm q.length_le hp.length_le))
theorem Prn.step {N N1 : List Nd} {l l' : List Ent} {p s : List Seg} {x : Seg} (hP : Pruned N l) (hl : ∀ y, y ∈ l → y ∈ l' ∨ y.sg = s) (hs : p ++ [x] <+: s) (h : Prn N l' (p ++ [x]) N1) :
    ((entsOf l' (p ++ [x]) = [] ∧ kidsOf N1 (p ++ [x]) = []) → Prn N l' p (cutN N1 (p ++ [x]))) ∧ (¬ (entsOf l' (p ++ [x]) = [] ∧ kidsOf N1 (p ++ [x]) = []) → Prn N l' p N1) := by
  have hpx : p <+: p ++ [x] := List.prefix_append _ _
  have hne : p ++ [x] ≠ p := fun e => by have := congrArg List.length e; simp at this
  -- below p, but neither at p ++ [x] nor below it
  have aside : ∀ n, n ∈ N1 → p <+: n.pre → n.pre ≠ p → n.pre ≠ p ++ [x] → ∃ e, e ∈ l' ∧ n.pre <+: e.sg := by
    intro n hn hp h0 h1
    by_cases q : p ++ [x] <+: n.pre
    · exact h.has n hn q h1
    · have hn0 : n.pre ≠ [] := fun e => h0 (by rw [e] at hp ⊢; exact (List.prefix_nil.1 hp).symm)
      obtain ⟨e, he, q2⟩ := hP n (h.sub n hn) hn0
      refine ⟨e, (hl e he).resolve_right fun h2 => ?_, q2⟩
      rw [h2] at q2
      rcases List.prefix_or_prefix_of_prefix q2 hs with q3 | q3
      · rcases List.prefix_concat_iff.1 q3 with e | q4
        · exact h1 e
        · exact h0 (List.IsPrefix.eq_of_length q4 (Nat.le_antisymm q4.length_le hp.length_le))
      · exact q q3
  have keep : ∀ n, n ∈ N → ¬ (p <+: n.pre ∧ n.pre ≠ p) → n ∈ N1 ∧ n.pre ≠ p ++ [x] := by
    intro n hn hno
    exact ⟨h.keep n hn fun hx => hno ⟨hpx.trans hx.1, fun e => by
      have := hx.1.length_le
      rw [e] at this
      simp at this
      omega⟩, fun e => hno ⟨by rw [e]; exact hpx, by rw [e]; exact hne⟩⟩
  constructor
  · rintro ⟨h1, h2⟩
    refine ⟨h.tr.cut (by simp) h1 h2, fun n hn => h.sub n (mem_cutN.1 hn).1, fun n hn hno => mem_cutN.2 (keep n hn hno), fun n hn hp h0 => ?_⟩
    obtain ⟨hn1, hn2⟩ := mem_cutN.1 hn
    exact aside n hn1 hp h0 hn2
  · intro hno
    refine ⟨h.tr, h.sub, fun n hn q => (keep n hn q).1, fun n hn hp h0 => ?_⟩
    by_cases e : n.pre = p ++ [x]
    · by_cases h1 : entsOf l' (p ++ [x]) = []
      · have h2 : kidsOf N1 (p ++ [x]) ≠ [] := fun h2 => hno ⟨h1, h2⟩
        obtain ⟨m, hm⟩ := List.exists_mem_of_ne_nil _ h2
        obtain ⟨y, hy⟩ := kid_pre hm
        obtain ⟨e1, he1, q⟩ := h.has m (mem_kids.1 hm).1 (by rw [hy]; exact List.prefix_append _ _) (fun e => by rw [hy] at e; have := congrArg List.length e; simp at this)
        exact ⟨e1, he1, (by rw [e, hy]; exact List.prefix_append _ _ : n.pre <+: m.pre).trans q⟩
      · obtain ⟨e1, he1⟩ := List.exists_mem_of_ne_nil _ h1
        have := List.mem_filter.1 he1
        exact ⟨e1, this.1, by rw [e, of_decide_eq_true this.2]; exact List.prefix_refl _⟩
    · exact aside n hn hp h0 e
end Go.Proofs.YthkcbennfochmaaGreatDoor
