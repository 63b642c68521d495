/-
  PLAIN LAWS: what a set holds does not hang on the order in which its entries came.
-/
import Derived.Test.YthkcbennfochmaaDoorPsFill
namespace Go.Proofs.YthkcbennfochmaaDoor
open Go.RowKit Go.Maps

/-- is an entry one that may be put in? -/
def okE (e : Ent) : Bool := pathOk e.bs && modE e.mode
theorem put_fresh {l : List Ent} {e : Ent} (hid : ∀ x, x ∈ l → x.id ≠ e.id) (hlen : l.length < 64) : (putS5 l e).1.Perm (if okE e then e :: l else l) ∧ (decide ((putS5 l e).2 = 0)) = okE e := by
  have h3 : hasId l e.id = false := by
    unfold hasId
    rw [List.any_eq_false]
    exact fun x hx hd => hid x hx (of_decide_eq_true hd)
  unfold putS5 okE
  cases h1 : pathOk e.bs
  · simp
  · cases h2 : modE e.mode
    · simp
    · rw [if_neg (by simp), if_neg (by simp), if_neg (by rw [h3]; simp), if_neg (by omega)]
      exact ⟨insE_perm e l, rfl⟩
theorem fold_put : ∀ (m acc : List Ent), (acc ++ m).Pairwise (fun a b => a.id ≠ b.id) → (acc ++ m).length ≤ 64 → (m.foldl (fun a e => (putS5 a e).1) acc).Perm (acc ++ m.filter okE)
  | [], acc, _, _ => by simp
  | e :: r, acc, h, hl => by
    have hp := List.pairwise_append.1 h
    have hc := List.pairwise_cons.1 hp.2.1
    have hlen : acc.length < 64 := by rw [List.length_append, List.length_cons] at hl; omega
    obtain ⟨q1, q2⟩ := put_fresh (l := acc) (e := e) (fun x hx => hp.2.2 x hx e List.mem_cons_self) hlen
    rw [List.foldl_cons]
    have key : ((if okE e then e :: acc else acc) ++ r).Pairwise (fun a b => a.id ≠ b.id) ∧ ((if okE e then e :: acc else acc) ++ r).length ≤ 64 := by
      have hs : List.Sublist ((if okE e then e :: acc else acc) ++ r) (e :: acc ++ r) := by
        cases okE e
        · exact List.sublist_cons_self _ _
        · exact List.Sublist.refl _
      have hpm : (e :: acc ++ r).Perm (acc ++ e :: r) := List.perm_middle.symm
      refine ⟨List.Pairwise.sublist hs ((hpm.pairwise_iff (fun {_ _} q => Ne.symm q)).2 h), ?_⟩
      have := hs.length_le
      have h2 := hpm.length_eq
      omega
    have hP : ((putS5 acc e).1 ++ r).Perm ((if okE e then e :: acc else acc) ++ r) := q1.append_right r
    have h1 := fold_put r (putS5 acc e).1 ((hP.pairwise_iff (fun {_ _} q => Ne.symm q)).2 key.1) (by rw [hP.length_eq]; exact key.2)
    refine h1.trans ?_
    refine (q1.append_right _).trans ?_
    rw [List.filter_cons]
    cases okE e
    · exact List.Perm.refl _
    · exact List.perm_middle.symm
theorem fill_perm {l : List Ent} (h : l.Pairwise (fun a b => a.id ≠ b.id)) (hl : l.length ≤ 64) : (fillS l).Perm (l.filter okE) := fold_put l [] h hl
theorem fill_srt (l : List Ent) : SrtE (fillS l) := by
  have key : ∀ (m acc : List Ent), SrtE acc → SrtE (m.foldl (fun a e => (putS5 a e).1) acc) := by
    intro m
    induction m with
    | nil => exact fun acc h => h
    | cons e r ih => exact fun acc h => ih _ (put_srt h e)
  exact key l [] List.Pairwise.nil
/-- what the law asks of the entries -/
structure TurnOk (l : List Ent) (x : Ent) : Prop where
  ids : l.Pairwise (fun a b => a.id ≠ b.id)
  off : ∀ e, e ∈ l → e.id ≠ x.id
  len : l.length ≤ 60
theorem TurnOk.all {l : List Ent} {x : Ent} (h : TurnOk l x) : (x :: l.reverse).Pairwise (fun a b => a.id ≠ b.id) :=
  List.pairwise_cons.2 ⟨fun e he => (h.off e (List.mem_reverse.1 he)).symm, List.pairwise_reverse.2 (h.ids.imp fun q => Ne.symm q)⟩
theorem turn_perm {l : List Ent} {x : Ent} (h : TurnOk l x) : (fillS (x :: l.reverse)).Perm ((x :: l.reverse).filter okE) := fill_perm h.all (by rw [List.length_cons, List.length_reverse]; have := h.len; omega)
theorem turn_fits {l : List Ent} {x : Ent} (h : TurnOk l x) : hasId (fillS (x :: l.reverse)) x.id = okE x := by
  rw [Bool.eq_iff_iff]
  unfold hasId
  rw [List.any_eq_true]
  refine ⟨fun ⟨e, he, hd⟩ => ?_, fun hx => ⟨x, (turn_perm h).mem_iff.2 (List.mem_filter.2 ⟨List.mem_cons_self, hx⟩), decide_eq_true rfl⟩⟩
  have h2 := List.mem_filter.1 ((turn_perm h).mem_iff.1 he)
  rcases List.mem_cons.1 h2.1 with e1 | e1
  · rw [← e1]; exact h2.2
  · exact absurd (of_decide_eq_true hd) (h.off e (List.mem_reverse.1 e1))
theorem turn_same {l : List Ent} {x : Ent} (h : TurnOk l x) : dropS5 (fillS (x :: l.reverse)) x.id = fillS l := by
  refine srtE_unique (drop_srt (fill_srt _) _) (fill_srt _) ?_
  have h1 : (dropS5 (fillS (x :: l.reverse)) x.id).Perm (dropS5 ((x :: l.reverse).filter okE) x.id) := (turn_perm h).filter _
  have h2 : dropS5 ((x :: l.reverse).filter okE) x.id = l.reverse.filter okE := by
    have h3 : dropS5 (l.reverse.filter okE) x.id = l.reverse.filter okE := List.filter_eq_self.2 fun e he => decide_eq_true (h.off e (List.mem_reverse.1 (List.mem_filter.1 he).1))
    rw [List.filter_cons]
    split
    · unfold dropS5
      rw [List.filter_cons, if_neg (by simp)]
      exact h3
    · exact h3
  rw [h2] at h1
  refine h1.trans (List.Perm.trans ?_ (fill_perm h.ids (by have := h.len; omega)).symm)
  exact (List.reverse_perm l).filter _
theorem turn_first {l : List Ent} {x : Ent} : fillS ((x :: l.reverse).take 1) = (putS5 [] x).1 := rfl
theorem turn_step {l : List Ent} {x : Ent} {k : Nat} (hk : k < l.length) : fillS ((x :: l.reverse).take (k + 2)) = (putS5 (fillS ((x :: l.reverse).take (k + 1))) (l.getD (l.length - 1 - k) default)).1 := by
  rw [fill_take _ (by rw [List.length_cons, List.length_reverse]; omega)]
  congr 2
  rw [List.getD_cons_succ]
  simp [List.getD_eq_getElem?_getD, List.getElem?_reverse hk]
end Go.Proofs.YthkcbennfochmaaDoor
