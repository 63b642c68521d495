/-
  PLAIN LAW: two agendas that got the same items in different orders hold the same list.
-/
import Derived.Test.YtbaphdaipacihaaTwo
namespace Go.Proofs.Ytbaphdaipacihaa
open Go.RowKit Go.Sort Go.Shelf

/-- items within bounds, each key once, no more than an agenda holds -/
structure Valid (l : List Item) : Prop where
  small : l.length ≤ 32
  ok : AllOk l
  nodup : (l.map (·.2)).Nodup
theorem dropI_fresh {l : List Item} {x : Int × Int} (h : x ∉ l.map (·.2)) : dropI l x.1 x.2 = l := by
  unfold dropI
  exact List.filter_eq_self.2 fun y hy => by
    rw [(isB_false _ _ _).2 (fun e => h (List.mem_map.2 ⟨y, hy, Prod.ext e.1 e.2⟩))]; rfl
theorem put_fresh {l : List Item} {x : Item} (hk : okI x) (hn : x.2 ∉ l.map (·.2)) (hl : l.length < 32) : ∃ l', putI l x = (l', 0) ∧ l'.Perm (x :: l) := by
  refine ⟨insI x l, ?_, insI_perm x l⟩
  unfold putI
  rw [if_neg (by simpa using hk), dropI_fresh hn, if_neg (by omega)]
theorem dropI_map (M : List Item) (x : Int × Int) : (dropI M x.1 x.2).map (·.2) = (M.map (·.2)).filter (· ≠ x) := by
  unfold dropI
  rw [List.filter_map]
  congr 1
  refine List.filter_congr fun y _ => ?_
  simp only [Function.comp]
  by_cases e : y.2 = x
  · rw [(isB_iff _ _ _).2 ⟨by rw [e], by rw [e]⟩]; simp [e]
  · rw [(isB_false _ _ _).2 (fun h => e (Prod.ext h.1 h.2))]; simp [e]
theorem put_swap {l a M : List Item} {ks : List (Int × Int)} {x : Item} (hk : okI x) (p : l.Perm (a ++ M)) (q : (M.map (·.2)).Perm (x.2 :: ks)) (ha : x.2 ∉ a.map (·.2)) (hks : x.2 ∉ ks) :
    ∃ l' M', putI l x = (l', 0) ∧ l'.Perm (a ++ [x] ++ M') ∧ (M'.map (·.2)).Perm ks := by
  have hp : (dropI l x.2.1 x.2.2).Perm (a ++ dropI M x.2.1 x.2.2) := by
    have := p.filter fun y => !isB x.2.1 x.2.2 y
    rw [List.filter_append] at this
    have ea := dropI_fresh ha
    unfold dropI at ea ⊢
    rwa [ea] at this
  have hm : ((dropI M x.2.1 x.2.2).map (·.2)).Perm ks := by
    rw [dropI_map M x.2]
    have := q.filter (· ≠ x.2)
    have e : ks.filter (· ≠ x.2) = ks := List.filter_eq_self.2 (fun y hy => by simp; intro e; exact hks (e ▸ hy))
    rw [List.filter_cons_of_neg (by simp), e] at this
    exact this
  refine ⟨insI x (dropI l x.2.1 x.2.2), dropI M x.2.1 x.2.2, ?_, ?_, hm⟩
  · unfold putI
    have h1 := hp.length_eq
    have h2 := p.length_eq
    have h3 := hm.length_eq
    have h4 := q.length_eq
    simp only [List.length_append, List.length_map, List.length_cons] at h1 h2 h3 h4
    rw [if_neg (by simpa using hk), if_neg (by omega)]
  · refine (insI_perm x _).trans ((hp.cons x).trans ?_)
    have : (x :: (a ++ dropI M x.2.1 x.2.2)) = (x :: a) ++ dropI M x.2.1 x.2.2 := rfl
    rw [this]
    exact List.Perm.append_right _ (List.perm_append_comm (l₁ := [x]))

theorem Valid.at_ {l : List Item} (h : Valid l) {i : Nat} (hi : i < l.length) : okI (get l i) := h.ok _ (by simp [get, hi])
theorem Valid.fresh {l : List Item} (h : Valid l) {i : Nat} (hi : i < l.length) : (get l i).2 ∉ (l.take i).map (·.2) ∧ (get l i).2 ∉ (l.drop (i + 1)).map (·.2) := by
  have hn := h.nodup
  have e : l = l.take i ++ get l i :: l.drop (i + 1) := by
    simp [get, hi]
  generalize get l i = x at e ⊢
  generalize l.take i = a at e ⊢
  generalize l.drop (i + 1) = b at e ⊢
  subst e
  rw [List.map_append, List.map_cons, List.nodup_append] at hn
  obtain ⟨_, h2, h3⟩ := hn
  exact ⟨fun hx => h3 _ hx _ List.mem_cons_self rfl, (List.nodup_cons.1 h2).1⟩
theorem Valid.reverse {l : List Item} (h : Valid l) : Valid l.reverse := ⟨by simpa using h.small, fun y hy => h.ok y (by simpa using hy), by rw [List.map_reverse]; exact (List.reverse_perm _).nodup_iff.2 h.nodup⟩

theorem turn_a {l A : List Item} (h : Valid l) {i : Nat} (hi : i < l.length) (p : A.Perm (l.take i)) : ∃ A', putI A (get l i) = (A', 0) ∧ A'.Perm (l.take (i + 1)) := by
  have hs := h.small
  obtain ⟨A', e, q⟩ := put_fresh (h.at_ hi) (fun hx => (h.fresh hi).1 ((p.map (·.2)).mem_iff.1 hx)) (by rw [p.length_eq, List.length_take]; omega)
  refine ⟨A', e, q.trans ?_⟩
  rw [take_snoc' l i hi]
  exact (p.cons _).trans (List.perm_append_comm (l₁ := [get l i]))
theorem turn_b {l B : List Item} (h : Valid l) {i : Nat} (hi : i < l.length) (p : (B.map (·.2)).Perm ((l.take i).map (·.2))) {x : Item} (hk : okI x) (hx : x.2 = (get l i).2) :
    ∃ B', putI B x = (B', 0) ∧ (B'.map (·.2)).Perm ((l.take (i + 1)).map (·.2)) := by
  have hs := h.small
  obtain ⟨B', e, q⟩ := put_fresh (l := B) hk (fun hm => (h.fresh hi).1 (p.mem_iff.1 (hx ▸ hm))) (by
    have := p.length_eq
    simp only [List.length_map, List.length_take] at this
    omega)
  refine ⟨B', e, (q.map (·.2)).trans ?_⟩
  rw [take_snoc' l i hi, List.map_append, List.map_cons, List.map_cons, List.map_nil, hx]
  exact (p.cons _).trans (List.perm_append_comm (l₁ := [(get l i).2]))
/-- the second agenda holds the first i items, and something of each further key -/
def Swap (l B : List Item) (i : Nat) : Prop := ∃ M, B.Perm (l.take i ++ M) ∧ (M.map (·.2)).Perm ((l.drop i).map (·.2))
theorem Swap.start {l B : List Item} (p : (B.map (·.2)).Perm ((l.reverse.take l.length).map (·.2))) : Swap l B 0 := by
  refine ⟨B, .refl _, ?_⟩
  rw [List.take_of_length_le (by simp), List.map_reverse] at p
  exact p.trans (List.reverse_perm _)
theorem Swap.put {l B : List Item} (h : Valid l) {i : Nat} (hi : i < l.length) (s : Swap l B i) : ∃ B', putI B (get l i) = (B', 0) ∧ Swap l B' (i + 1) := by
  obtain ⟨M, p, q⟩ := s
  have ed : l.drop i = get l i :: l.drop (i + 1) := by rw [List.drop_eq_getElem_cons hi]; simp [get, hi]
  rw [ed] at q
  obtain ⟨B', M', e, p', q'⟩ := put_swap (h.at_ hi) p q (h.fresh hi).1 (h.fresh hi).2
  exact ⟨B', e, M', by rw [take_snoc' l i hi]; exact p', q'⟩
theorem Swap.done {l B : List Item} (s : Swap l B l.length) : B.Perm l := by
  obtain ⟨M, p, q⟩ := s
  rw [List.drop_length] at q
  have : M = [] := by simpa using q.eq_nil
  subst this
  simpa using p
theorem get_rev (l : List Item) {i : Nat} (hi : i < l.length) : get l.reverse i = get l (l.length - 1 - i) := by
  simp [get, hi, show l.length - 1 - i < l.length by omega]
end Go.Proofs.Ytbaphdaipacihaa
