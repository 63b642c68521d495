/-
  PLAIN LAW, NO PROGRAM: a binary heap over a function of places: what one step up or down keeps, and what stands when the step ends.
-/
namespace Go.Proofs.Ytbaphdaipacihaa
namespace HeapLaw

/-- a strict total order as a Bool -/
structure LO {α : Type} (lt : α → α → Bool) : Prop where
  irr : ∀ x, lt x x = false
  tr : ∀ x y z, lt x y = true → lt y z = true → lt x z = true
  tot : ∀ x y, lt x y = false → lt y x = false → x = y

variable {α : Type} {lt : α → α → Bool}

theorem LO.asym (h : LO lt) {x y : α} (a : lt x y = true) : lt y x = false := by
  cases e : lt y x
  · rfl
  · have := h.tr _ _ _ a e; rw [h.irr] at this; cases this

/-- 'not after' is transitive -/
theorem LO.le_tr (h : LO lt) {x y z : α} (a : lt y x = false) (b : lt z y = false) : lt z x = false := by
  cases e : lt z x
  · rfl
  · cases e2 : lt x y
    · have : x = y := h.tot _ _ e2 a
      subst this; rw [e] at b; cases b
    · have := h.tr _ _ _ e e2; rw [this] at b; cases b

def par (k : Nat) : Nat := (k - 1) / 2
theorem par_lt {k : Nat} (h : 0 < k) : par k < k := by unfold par; omega
theorem par_two {k i : Nat} (h : 0 < k) : par k = i ↔ (k = 2 * i + 1 ∨ k = 2 * i + 2) := by unfold par; omega

def sw (f : Nat → α) (i j : Nat) : Nat → α := fun k => if k = i then f j else if k = j then f i else f k

/-- a heap up to n -/
def Heap (lt : α → α → Bool) (f : Nat → α) (n : Nat) : Prop := ∀ k, 0 < k → k < n → lt (f k) (f (par k)) = false

theorem Heap.least (h : LO lt) {f : Nat → α} {n : Nat} (H : Heap lt f n) : ∀ k, k < n → lt (f k) (f 0) = false := by
  intro k
  induction k using Nat.strongRecOn with
  | _ k ih =>
    intro hk
    by_cases h0 : k = 0
    · subst h0; exact h.irr _
    · have hp := par_lt (k := k) (by omega)
      exact h.le_tr (ih _ hp (by omega)) (H k (by omega) hk)

/-- all in order but j against what is above it -/
structure UpInv (lt : α → α → Bool) (f : Nat → α) (n j : Nat) : Prop where
  at_ : j < n
  off : ∀ k, 0 < k → k < n → k ≠ j → lt (f k) (f (par k)) = false
  kids : ∀ k, 0 < k → k < n → par k = j → 0 < j → lt (f k) (f (par j)) = false

theorem up_done {f : Nat → α} {n j : Nat} (H : UpInv lt f n j) (h : j = 0 ∨ lt (f j) (f (par j)) = false) : Heap lt f n := by
  intro k h0 hk
  by_cases e : k = j
  · subst e
    rcases h with h | h
    · omega
    · exact h
  · exact H.off k h0 hk e

theorem up_step (o : LO lt) {f : Nat → α} {n j : Nat} (H : UpInv lt f n j) (h0 : 0 < j) (hl : lt (f j) (f (par j)) = true) : UpInv lt (sw f (par j) j) n (par j) := by
  have hp := par_lt h0
  have hj := H.at_
  refine ⟨by omega, fun k k0 kn kp => ?_, fun k k0 kn kp p0 => ?_⟩
  · by_cases e : k = j
    · subst e
      have : sw f (par k) k k = f (par k) := by unfold sw; rw [if_neg (by omega), if_pos rfl]
      rw [this]
      have : sw f (par k) k (par k) = f k := by unfold sw; rw [if_pos rfl]
      rw [this]; exact o.asym hl
    · have e1 : sw f (par j) j k = f k := by unfold sw; rw [if_neg kp, if_neg e]
      rw [e1]
      by_cases e2 : par k = par j
      · have : sw f (par j) j (par k) = f j := by unfold sw; rw [if_pos e2]
        rw [this]
        have := H.off k k0 kn e
        rw [e2] at this
        exact o.le_tr (o.asym hl) this
      · by_cases e3 : par k = j
        · have : sw f (par j) j (par k) = f (par j) := by unfold sw; rw [if_neg e2, if_pos e3]
          rw [this]; exact H.kids k k0 kn e3 h0
        · have : sw f (par j) j (par k) = f (par k) := by unfold sw; rw [if_neg e2, if_neg e3]
          rw [this]; exact H.off k k0 kn e
  · have pp := par_lt p0
    have hgp : sw f (par j) j (par (par j)) = f (par (par j)) := by unfold sw; rw [if_neg (by omega), if_neg (by omega)]
    rw [hgp]
    have hup := H.off (par j) p0 (by omega) (by omega)
    by_cases e : k = j
    · subst e
      have : sw f (par k) k k = f (par k) := by unfold sw; rw [if_neg (by omega), if_pos rfl]
      rw [this]; exact hup
    · have hk1 : k ≠ par j := fun x => by have := par_lt k0; omega
      have : sw f (par j) j k = f k := by unfold sw; rw [if_neg hk1, if_neg e]
      rw [this]
      have := H.off k k0 kn e
      rw [kp] at this
      exact o.le_tr hup this

/-- all in order but i0 (till the first step) against what is above it, and i against what is below it -/
structure DownInv (lt : α → α → Bool) (f : Nat → α) (n i0 i : Nat) : Prop where
  ge : i0 ≤ i
  off : ∀ k, 0 < k → k < n → par k ≠ i → (k = i0 ∧ i = i0) ∨ lt (f k) (f (par k)) = false
  kids : ∀ k, 0 < k → k < n → par k = i → 0 < i → lt (f k) (f (par i)) = false

theorem down_done {f : Nat → α} {n i0 i : Nat} (H : DownInv lt f n i0 i) (hn : ∀ k, 0 < k → k < n → par k = i → lt (f k) (f i) = false) (hi : i0 < n) :
    (i0 < i → Heap lt f n) ∧ (i = i0 → UpInv lt f n i0) := by
  refine ⟨fun h k k0 kn => ?_, fun e => ?_⟩
  · by_cases hp : par k = i
    · rw [hp]; exact hn k k0 kn hp
    · rcases H.off k k0 kn hp with ⟨_, a⟩ | a
      · omega
      · exact a
  · subst e
    refine ⟨hi, fun k k0 kn kj => ?_, H.kids⟩
    by_cases hp : par k = i
    · rw [hp]; exact hn k k0 kn hp
    · rcases H.off k k0 kn hp with ⟨a, _⟩ | a
      · exact absurd a kj
      · exact a

theorem down_step (o : LO lt) {f : Nat → α} {n i0 i j : Nat} (H : DownInv lt f n i0 i) (j0 : 0 < j) (hj : j < n) (pj : par j = i)
    (hm : ∀ k, 0 < k → k < n → par k = i → lt (f k) (f j) = false) (hl : lt (f j) (f i) = true) : DownInv lt (sw f i j) n i0 j := by
  have hij : i < j := by have := par_lt j0; omega
  have si : sw f i j i = f j := by unfold sw; rw [if_pos rfl]
  have sj : sw f i j j = f i := by unfold sw; rw [if_neg (by omega), if_pos rfl]
  have so : ∀ k, k ≠ i → k ≠ j → sw f i j k = f k := fun k a b => by unfold sw; rw [if_neg a, if_neg b]
  refine ⟨by have := H.ge; omega, fun k k0 kn kp => Or.inr ?_, fun k k0 kn kp _ => ?_⟩
  · by_cases e : par k = i
    · rw [e, si]
      by_cases e2 : k = j
      · subst e2; rw [sj]; exact o.asym hl
      · rw [so k (fun x => by have := par_lt k0; omega) e2]; exact hm k k0 kn e
    · rw [so (par k) e kp]
      by_cases e2 : k = i
      · subst e2; rw [si]; exact H.kids j j0 hj pj k0
      · have e3 : k ≠ j := fun x => e (by rw [x]; exact pj)
        rw [so k e2 e3]
        rcases H.off k k0 kn e with ⟨a, b⟩ | a
        · omega
        · exact a
  · have hk : k ≠ i := fun x => by have := par_lt k0; omega
    have hk2 : k ≠ j := fun x => by have := par_lt k0; omega
    rw [so k hk hk2, pj, si]
    rcases H.off k k0 kn (by omega) with ⟨a, b⟩ | a
    · have := par_lt k0; omega
    · rw [kp] at a; exact a

/-- a heap to which one has been put at the end -/
theorem UpInv.of_push {f g : Nat → α} {n : Nat} (H : Heap lt f n) (e : ∀ k, k < n → g k = f k) : UpInv lt g (n + 1) n := by
  refine ⟨by omega, fun k k0 kn kj => ?_, fun k k0 kn kp _ => ?_⟩
  · have := par_lt k0
    rw [e k (by omega), e (par k) (by omega)]; exact H k k0 (by omega)
  · have := (par_two k0).1 kp; omega

/-- a heap in which the one at i has been put for another -/
theorem DownInv.of_set (o : LO lt) {f g : Nat → α} {n m i : Nat} (H : Heap lt f m) (hm : n ≤ m) (e : ∀ k, k < n → k ≠ i → g k = f k) (hi : i < n) : DownInv lt g n i i := by
  refine ⟨Nat.le_refl _, fun k k0 kn kp => ?_, fun k k0 kn kp i0 => ?_⟩
  · by_cases e2 : k = i
    · exact Or.inl ⟨e2, rfl⟩
    · have := par_lt k0
      refine Or.inr ?_
      rw [e k kn e2, e (par k) (by omega) kp]; exact H k k0 (by omega)
  · have h1 := par_lt k0
    have h2 := par_lt i0
    rw [e k kn (by omega), e (par i) (by omega) (by omega)]
    have a := H k k0 (by omega)
    have b := H i i0 (by omega)
    rw [kp] at a
    exact o.le_tr b a

end HeapLaw
end Go.Proofs.Ytbaphdaipacihaa
