/-
  PLAIN LAWS, NO WALK: what the walks down the tree collect is what the document's lists say.
-/
import Derived.Test.YthkcbennfochmaaGreatDoorPsSpec
namespace Go.Proofs.YthkcbennfochmaaGreatDoor
open Go.RowKit

theorem take_inj {s : List Seg} {i j : Nat} (hi : i ≤ s.length) (hj : j ≤ s.length) (e : s.take i = s.take j) : i = j := by
  have := congrArg List.length e
  rw [List.length_take, List.length_take] at this
  omega
theorem range_one {s : List Seg} (e : Ent) (n : Nat) (hn : n ≤ s.length + 1) : (List.range n).Pairwise fun i j => ¬ ((decide (e.sg = s.take i)) = true ∧ (decide (e.sg = s.take j)) = true) := by
  refine (List.pairwise_lt_range (n := n)).imp_of_mem fun {i j} hi hj hlt h => ?_
  have h1 := of_decide_eq_true h.1
  have h2 := of_decide_eq_true h.2
  have := List.mem_range.1 hi
  have := List.mem_range.1 hj
  have := take_inj (s := s) (by omega) (by omega) (h1.symm.trans h2)
  omega
/-- the entries that cover a path lie at its prefixes -/
theorem over_perm (l : List Ent) (s : List Seg) : (l.filter fun e => decide (e.sg <+: s)).Perm ((List.range (s.length + 1)).flatMap fun i => entsOf l (s.take i)) := by
  have h := filter_flat_perm (l := l) (ms := List.range (s.length + 1)) (p := fun e => decide (e.sg <+: s)) (q := fun _ => false) (r := fun i e => decide (e.sg = s.take i)) (fun e _ => by
    rw [count_one _ _ (range_one e _ (Nat.le_refl _))]
    by_cases hp : e.sg <+: s
    · have : (List.range (s.length + 1)).any (fun i => decide (e.sg = s.take i)) = true := by
        rw [List.any_eq_true]
        exact ⟨e.sg.length, List.mem_range.2 (by have := hp.length_le; omega), by rw [decide_eq_true_eq]; exact List.prefix_iff_eq_take.1 hp⟩
      simp [hp, this]
    · have : (List.range (s.length + 1)).any (fun i => decide (e.sg = s.take i)) = false := by
        rw [List.any_eq_false]
        intro i _ hd
        exact hp (by rw [of_decide_eq_true hd]; exact List.take_prefix _ _)
      simp [hp, this])
  rw [List.filter_eq_nil_iff.2 (fun _ _ => Bool.false_ne_true), List.nil_append] at h
  exact h
/-- the entries that overlap a path: at its proper prefixes, or below it -/
theorem lap_perm (l : List Ent) (s : List Seg) : (l.filter fun e => decide (e.sg <+: s ∨ s <+: e.sg)).Perm (((List.range s.length).flatMap fun i => entsOf l (s.take i)) ++ belowL l s) := by
  have h := filter_flat_perm (l := l) (ms := List.range s.length) (p := fun e => decide (e.sg <+: s ∨ s <+: e.sg)) (q := fun e => decide (s <+: e.sg)) (r := fun i e => decide (e.sg = s.take i)) (fun e _ => by
    rw [count_one _ _ (range_one e _ (Nat.le_succ _))]
    by_cases hq : s <+: e.sg
    · have : (List.range s.length).any (fun i => decide (e.sg = s.take i)) = false := by
        rw [List.any_eq_false]
        intro i hi hd
        have h1 := hq.length_le
        rw [of_decide_eq_true hd, List.length_take] at h1
        have := List.mem_range.1 hi
        omega
      simp [hq, this]
    · by_cases hp : e.sg <+: s
      · have : (List.range s.length).any (fun i => decide (e.sg = s.take i)) = true := by
          rw [List.any_eq_true]
          refine ⟨e.sg.length, List.mem_range.2 (Nat.lt_of_le_of_ne hp.length_le fun h => hq ?_), by rw [decide_eq_true_eq]; exact List.prefix_iff_eq_take.1 hp⟩
          rw [List.IsPrefix.eq_of_length hp h]
          exact List.prefix_refl _
        simp [hq, hp, this]
      · have : (List.range s.length).any (fun i => decide (e.sg = s.take i)) = false := by
          rw [List.any_eq_false]
          intro i _ hd
          exact hp (by rw [of_decide_eq_true hd]; exact List.take_prefix _ _)
        simp [hq, hp, this])
  exact h.trans List.perm_append_comm
/-- where a place is missing, nothing lies at it or below it -/
theorem TrP.miss {N : List Nd} {l : List Ent} (h : TrP N l) {p : List Seg} (hp : ∀ n, n ∈ N → n.pre ≠ p) {q : List Seg} (hq : p <+: q) : entsOf l q = [] ∧ belowL l q = [] := by
  have key : ∀ e, e ∈ l → ¬ q <+: e.sg := fun e he hqe => by
    obtain ⟨m, hm, hmp⟩ := h.at_ he (hq.trans hqe)
    exact hp m hm hmp
  refine ⟨List.filter_eq_nil_iff.2 fun e he hd => key e he (by rw [of_decide_eq_true hd]; exact List.prefix_refl _), List.filter_eq_nil_iff.2 fun e he hd => key e he (of_decide_eq_true hd)⟩
theorem flat_miss {N : List Nd} {l : List Ent} (h : TrP N l) {s : List Seg} {k n : Nat} (hk : k ≤ n) (hn : n ≤ s.length + 1) (hp : ∀ m, m ∈ N → m.pre ≠ s.take k) : ((List.range n).flatMap fun i => entsOf l (s.take i)) = (List.range k).flatMap fun i => entsOf l (s.take i) := by
  obtain ⟨d, rfl⟩ : ∃ d, n = k + d := ⟨n - k, by omega⟩
  rw [List.range_add, List.flatMap_append]
  have : (List.map (fun x => k + x) (List.range d)).flatMap (fun i => entsOf l (s.take i)) = [] := by
    rw [List.flatMap_eq_nil_iff]
    intro i hi
    obtain ⟨j, hj, rfl⟩ := List.mem_map.1 hi
    refine (h.miss hp ?_).1
    exact List.prefix_of_prefix_length_le (List.take_prefix _ _) (List.take_prefix _ _) (by rw [List.length_take, List.length_take]; omega)
  rw [this, List.append_nil]
/-! ### covers, by segments, among paths that are fine -/
theorem over_filter {l : List Ent} (hl : ∀ e, e ∈ l → pathOk e.bs = true) {p : List UInt8} (hp : pathOk p = true) : (l.filter fun e => coversB e.bs p) = l.filter fun e => decide (e.sg <+: segsOf p) :=
  List.filter_congr fun e he => by rw [Bool.eq_iff_iff, covers_segs (hl e he) hp, decide_eq_true_eq]; rfl
theorem under_filter {l : List Ent} (hl : ∀ e, e ∈ l → pathOk e.bs = true) {p : List UInt8} (hp : pathOk p = true) : (l.filter fun e => coversB p e.bs) = belowL l (segsOf p) :=
  List.filter_congr fun e he => by rw [Bool.eq_iff_iff, covers_segs hp (hl e he), decide_eq_true_eq]; rfl
theorem clash_filter {l : List Ent} (hl : ∀ e, e ∈ l → pathOk e.bs = true) {p : List UInt8} (hp : pathOk p = true) {m who : Int} (hm : modE m = true) :
    (l.filter (standsB p m who)) = (l.filter fun e => decide (e.sg <+: segsOf p ∨ segsOf p <+: e.sg)).filter fun e => decide (e.who ≠ who) && (decide (m = 2) || decide (e.mode = 2)) := by
  rw [List.filter_filter]
  refine List.filter_congr fun e he => ?_
  unfold standsB
  rw [hm, Bool.true_and]
  have : (coversB e.bs p || coversB p e.bs) = decide (e.sg <+: segsOf p ∨ segsOf p <+: e.sg) := by
    rw [Bool.eq_iff_iff, Bool.or_eq_true, covers_segs (hl e he) hp, covers_segs hp (hl e he), decide_eq_true_eq]; rfl
  rw [this]
  cases decide (e.sg <+: segsOf p ∨ segsOf p <+: e.sg) <;> simp
end Go.Proofs.YthkcbennfochmaaGreatDoor
