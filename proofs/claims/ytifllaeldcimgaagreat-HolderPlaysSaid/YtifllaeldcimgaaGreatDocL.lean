/-
  PLAIN LAWS, NO WALK: what the document's holder does to a list of leases, against the holder's own lists. (The great seat alone.)
-/
import Derived.Test.YtifllaeldcimgaaGreatHSame
namespace Go.Proofs.YtifllaeldcimgaaGreat
open Go.RowKit

/-- where a lease stands -/
def findN (l : List Lease) (k : Key) : Nat := l.findIdx fun x => decide (keyL x = k)
def findI (l : List Lease) (k : Key) : Int := if findN l k < l.length then (findN l k : Int) else -1
theorem findN_hit {l : List Lease} {k : Key} {i : Nat} (hi : i < l.length) (h : keyL (l.getD i default) = k) (hn : ∀ j, j < i → keyL (l.getD j default) ≠ k) : findN l k = i := by
  unfold findN
  rw [List.findIdx_eq hi]
  refine ⟨by simpa [hi] using h, fun j hj => ?_⟩
  have := hn j hj
  have hjl : j < l.length := by omega
  simpa [hjl] using this
theorem findN_miss {l : List Lease} {k : Key} (hn : ∀ j, j < l.length → keyL (l.getD j default) ≠ k) : findN l k = l.length := by
  unfold findN
  rw [List.findIdx_eq_length]
  intro x hx
  obtain ⟨i, hi, rfl⟩ := List.getElem_of_mem hx
  have := hn i hi
  simpa [hi] using this
theorem findI_hit {l : List Lease} {k : Key} {i : Nat} (hi : i < l.length) (h : keyL (l.getD i default) = k) (hn : ∀ j, j < i → keyL (l.getD j default) ≠ k) : findI l k = i := by
  unfold findI
  rw [findN_hit hi h hn, if_pos hi]
theorem findI_miss {l : List Lease} {k : Key} (hn : ∀ j, j < l.length → keyL (l.getD j default) ≠ k) : findI l k = -1 := by
  unfold findI
  rw [findN_miss hn, if_neg (by omega)]
theorem find_get (l : List Lease) (k : Key) : (getL l k = none ∧ findI l k = -1) ∨ (∃ i, i < l.length ∧ getL l k = some (l.getD i default) ∧ findI l k = (i : Int) ∧ keyL (l.getD i default) = k) := by
  cases h : getL l k with
  | none =>
    refine .inl ⟨rfl, findI_miss fun j hj => ?_⟩
    have := getL_none h (l.getD j default) (by simp [hj])
    exact this
  | some x =>
    right
    have hlt : findN l k < l.length := by
      unfold findN
      rw [List.findIdx_lt_length]
      obtain ⟨h1, h2⟩ := getL_some h
      exact ⟨x, h1, decide_eq_true h2⟩
    have hp : keyL (l.getD (findN l k) default) = k := by
      have := List.findIdx_getElem (w := hlt)
      simp only [decide_eq_true_eq] at this
      have e : l.getD (findN l k) default = l[findN l k] := by simp [hlt]
      rw [e]
      exact this
    refine ⟨findN l k, hlt, ?_, by unfold findI; rw [if_pos hlt], hp⟩
    have e : getL l k = l.find? fun x => decide (keyL x = k) := rfl
    rw [← h, e, List.find?_eq_some_iff_getElem]
    refine ⟨decide_eq_true hp, findN l k, hlt, by simp [hlt], fun j hj => ?_⟩
    have := List.not_of_lt_findIdx (p := fun x => decide (keyL x = k)) (xs := l) (i := j) hj
    simpa using this
def aheadB (y x : Lease) : Bool := decide (ltK (keyL y) (keyL x))
/-- the document's put, from a place on -/
def putGo (x : Lease) : List Lease → Bool → List Lease
  | [], d => if d then [] else [x]
  | y :: r, d => (if aheadB y x = false ∧ d = false then [x] else []) ++ (if keyL y ≠ keyL x then [y] else []) ++ putGo x r (d || !aheadB y x)
theorem putGo_true (x : Lease) (l : List Lease) : putGo x l true = delL l (keyL x) := by
  induction l with
  | nil => rfl
  | cons y r ih =>
    unfold putGo
    rw [Bool.true_or, ih]
    unfold delL
    rw [List.filter_cons]
    by_cases h : keyL y = keyL x <;> simp [h]
theorem putGo_eq {x : Lease} {l : List Lease} (h : SrtL l) : putGo x l false = putL x l := by
  induction l with
  | nil => rfl
  | cons y r ih =>
    have h' := List.pairwise_cons.1 h
    unfold putGo putL
    rw [Bool.false_or]
    by_cases e : keyL y = keyL x
    · have ha : aheadB y x = false := decide_eq_false (by rw [e]; exact ltK_irr _)
      rw [ha, if_pos ⟨rfl, rfl⟩, if_neg (fun q => q e), if_pos e, Bool.not_false, putGo_true]
      rw [delL_none fun z hz q => ltK_irr (keyL y) (by have := h'.1 z hz; rw [q, ← e] at this; exact this)]
      rfl
    · rw [if_pos e, if_neg e]
      by_cases e2 : ltK (keyL x) (keyL y)
      · have ha : aheadB y x = false := decide_eq_false fun q => ltK_irr _ (ltK_tr q e2)
        rw [ha, if_pos ⟨rfl, rfl⟩, if_pos e2, Bool.not_false, putGo_true]
        rw [delL_none fun z hz q => ltK_irr (keyL x) (ltK_tr e2 (by have := h'.1 z hz; rw [q] at this; exact this))]
        rfl
      · have ha : aheadB y x = true := decide_eq_true (ltK_tot e2 (fun q => e q.symm))
        rw [ha, if_neg (by simp), if_neg e2, Bool.not_true, ih h'.2]
        rfl
theorem putGo_step (x : Lease) (l : List Lease) (d : Bool) (k : Nat) (hk : k < l.length) : putGo x (l.drop k) d =
    (if aheadB (l.getD k default) x = false ∧ d = false then [x] else []) ++ (if keyL (l.getD k default) ≠ keyL x then [l.getD k default] else []) ++ putGo x (l.drop (k + 1)) (d || !aheadB (l.getD k default) x) := by
  rw [List.drop_eq_getElem_cons hk]
  have e : l.getD k default = l[k] := by simp [hk]
  rw [e]
  rfl
theorem take_snoc {α : Type} [Inhabited α] (l : List α) (k : Nat) (hk : k < l.length) : l.take (k + 1) = l.take k ++ [l.getD k default] := by
  rw [List.take_succ_eq_append_getElem hk]
  simp [hk]
theorem sweep_take (now : Int) (l : List Lease) (k : Nat) (hk : k < l.length) : sweepL now (l.take (k + 1)) = if now < (l.getD k default).expiry then sweepL now (l.take k) ++ [l.getD k default] else sweepL now (l.take k) := by
  rw [take_snoc l k hk]
  unfold sweepL
  rw [List.filter_append]
  generalize l.getD k default = x
  by_cases h : now < x.expiry <;> simp [h]
theorem del_take (key : Key) (l : List Lease) (k : Nat) (hk : k < l.length) : delL (l.take (k + 1)) key = if keyL (l.getD k default) ≠ key then delL (l.take k) key ++ [l.getD k default] else delL (l.take k) key := by
  rw [take_snoc l k hk]
  unfold delL
  rw [List.filter_append]
  generalize l.getD k default = x
  by_cases h : keyL x = key <;> simp [h]
theorem del_isSome (l : List Lease) (k : Key) : (getL l k).isSome = decide ((delL l k).length < l.length) := by
  cases h : getL l k with
  | none =>
    rw [delL_none (getL_none h)]
    simp
  | some x =>
    obtain ⟨h1, h2⟩ := getL_some h
    have := delL_lt h1
    rw [h2] at this
    simp [this]
/-! ### use -/
theorem cmpL_neg : ∀ (a b : List Int), cmpL b a = - cmpL a b
  | [], [] => rfl
  | [], _ :: _ => rfl
  | _ :: _, [] => rfl
  | x :: a, y :: b => by
    simp only [cmpL]
    rcases Int.lt_trichotomy x y with h | h | h
    · simp only [if_pos h, if_neg (show ¬ y < x by omega)]; rfl
    · subst h
      simp only [if_neg (show ¬ x < x by omega)]
      exact cmpL_neg a b
    · simp only [if_pos h, if_neg (show ¬ x < y by omega)]
/-- is x preferred to one that stands ahead of it? -/
def betterB (x b : Lease) : Bool := if x.expiry ≠ b.expiry then decide (b.expiry < x.expiry) else decide (0 < cmpL x.stamp b.stamp)
theorem better_pref {x b : Lease} (h : ltK (keyL b) (keyL x)) : betterB x b = decide (prefI x b < 0) := by
  unfold betterB prefI orInt
  rcases cmpInt_cases b.expiry x.expiry with ⟨h1, e⟩ | ⟨h1, e⟩ | ⟨h1, e⟩
  · rw [e, if_pos (by omega)]; simp [h1]
  · rw [e, if_pos (by omega)]; simp; omega
  · rw [e, if_neg (by omega)]
    have hn := cmpL_neg x.stamp b.stamp
    have hk : ¬ orInt [cmpInt x.frm b.frm, cmpInt x.id b.id] < 0 := by
      unfold ltK keyL at h
      simp only at h
      rcases cmpInt_cases x.frm b.frm with ⟨h3, e3⟩ | ⟨h3, e3⟩ | ⟨h3, e3⟩
      · omega
      · rw [e3]; simp [orInt]
      · rw [e3]
        rcases cmpInt_cases x.id b.id with ⟨h4, e4⟩ | ⟨h4, e4⟩ | ⟨h4, e4⟩
        · omega
        · rw [e4]; simp [orInt]
        · omega
    rw [if_pos rfl]
    show decide (0 < cmpL x.stamp b.stamp) = decide (orInt [cmpL b.stamp x.stamp, cmpInt x.frm b.frm, cmpInt x.id b.id] < 0)
    have hu : orInt [cmpL b.stamp x.stamp, cmpInt x.frm b.frm, cmpInt x.id b.id] = if cmpL b.stamp x.stamp = 0 then orInt [cmpInt x.frm b.frm, cmpInt x.id b.id] else cmpL b.stamp x.stamp := rfl
    rw [hu]
    by_cases h2 : cmpL b.stamp x.stamp = 0
    · rw [if_pos h2]
      rw [decide_eq_false hk]
      exact decide_eq_false (by omega)
    · rw [if_neg h2]
      exact decide_eq_decide.2 (by omega)
theorem minL_snoc (r : List Lease) : ∀ (b x : Lease), minL b (r ++ [x]) = if prefI x (minL b r) < 0 then x else minL b r := by
  induction r with
  | nil => intro b x; rfl
  | cons y r ih => intro b x; exact ih _ x
theorem bestL_snoc (m : List Lease) (x : Lease) : bestL (m ++ [x]) = match bestL m with | none => some x | some b => some (if prefI x b < 0 then x else b) := by
  cases m with
  | nil => rfl
  | cons y r => show some (minL y (r ++ [x])) = _; rw [minL_snoc]; rfl
theorem bestL_mem {m : List Lease} {b : Lease} (h : bestL m = some b) : b ∈ m := by
  cases m with
  | nil => cases h
  | cons y r =>
    have e : minL y r = b := Option.some.inj h
    rw [← e]
    exact (minL_max r y).1
theorem bestL_none {m : List Lease} (h : bestL m = none) : m = [] := by
  cases m with
  | nil => rfl
  | cons y r => cases h
theorem best_step {l : List Lease} (hs : SrtL l) (p : Lease → Bool) (k : Nat) (hk : k < l.length) : bestL ((l.take (k + 1)).filter p) =
    if p (l.getD k default) = true then (match bestL ((l.take k).filter p) with | none => some (l.getD k default) | some b => some (if betterB (l.getD k default) b = true then l.getD k default else b)) else bestL ((l.take k).filter p) := by
  rw [take_snoc l k hk, List.filter_append]
  have hlast : ∀ b, b ∈ l.take k → ltK (keyL b) (keyL (l.getD k default)) := fun b hm => by
    have h2 : SrtL (l.take k ++ [l.getD k default]) := by rw [← take_snoc l k hk]; exact hs.sublist (List.take_sublist _ _)
    exact (List.pairwise_append.1 h2).2.2 b hm _ (by simp)
  generalize l.getD k default = x at hlast
  by_cases hp : p x = true
  · rw [if_pos hp]
    have e : [x].filter p = [x] := by simp [hp]
    rw [e, bestL_snoc]
    cases hb : bestL ((l.take k).filter p) with
    | none => rfl
    | some b =>
      have hm := (List.mem_filter.1 (bestL_mem hb)).1
      show some (if prefI x b < 0 then x else b) = some (if betterB x b = true then x else b)
      rw [better_pref (hlast b hm)]
      simp
  · rw [if_neg hp]
    have e : [x].filter p = [] := by simp [hp]
    rw [e, List.append_nil]
end Go.Proofs.YtifllaeldcimgaaGreat
