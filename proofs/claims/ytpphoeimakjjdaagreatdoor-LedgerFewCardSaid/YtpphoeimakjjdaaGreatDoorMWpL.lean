/-
  PLAIN LAWS, OVER ANY PROGRAM: a drawn region in which a condition T holds till one operation s (the first store into what is loaded) has come up: loads may be taken first, if s waits for them.
-/
import Derived.Deep.RegionHeld3
namespace Go.Proofs.YtpphoeimakjjdaaGreatDoor

section
variable {P : Program} {ops : Array Oper} {Q : Exit → Act → World → Prop} {md : Region.Mode} {T : World → Prop} {s : Nat}

/-- whatever has come up, what it waits for has come up, too -/
structure Cl (md : Region.Mode) (ops : Array Oper) (l : Array Bool) : Prop where
  size : l.size = ops.size
  down : ∀ j o, ops[j]? = some o → l.getD j false = true → ∀ e, e ∈ o.after → Region.binds md e = true → l.getD e.on false = true
theorem Cl.none : Cl md ops (Array.replicate ops.size false) := ⟨by simp, fun j o _ h => by
  by_cases hj : j < ops.size <;> simp [hj] at h⟩
theorem Cl.set {l : Array Bool} (h : Cl md ops l) {j : Nat} (hj : j ∈ Region.ready md ops l) : Cl md ops (l.setIfInBounds j true) := by
  refine ⟨by simp [h.size], fun k o hk hl e he hb => ?_⟩
  obtain ⟨_, o', ho', hall⟩ := mem_ready.1 hj
  by_cases q : j = k
  · subst q
    rw [hk] at ho'
    cases ho'
    exact getD_set_true (hall e he hb)
  · rw [getD_set_ne false q] at hl
    exact getD_set_true (h.down k o hk hl e he hb)
def edgeB (md : Region.Mode) (ops : Array Oper) (j k : Nat) : Bool := match ops[j]? with
  | some o => o.after.any fun e => Region.binds md e && e.on == k
  | none => false
theorem Cl.step {l : Array Bool} (h : Cl md ops l) {j k : Nat} (he : edgeB md ops j k = true) (hj : l.getD j false = true) : l.getD k false = true := by
  unfold edgeB at he
  split at he
  · rename_i o ho
    obtain ⟨e, h1, h2⟩ := Array.any_eq_true'.1 he
    simp only [Bool.and_eq_true, beq_iff_eq] at h2
    rw [← h2.2]
    exact h.down j o ho hj e h1 h2.1
  · cases he
theorem getD_tf {l : Array Bool} {i : Nat} (h : l.getD i true = false) : l.getD i false = false := by
  rcases Nat.lt_or_ge i l.size with h' | h'
  · simp [h'] at h ⊢; exact h
  · simp [Array.getElem?_eq_none h'] at h
theorem getD_in {l : Array Bool} {i : Nat} (hl : i < l.size) (h : l.getD i false = false) : l.getD i true = false := by
  simp [hl] at h ⊢; exact h
/-- whatever order is picked, T holds behind each operation as long as s has not come up -/
def wpL (P : Program) (md : Region.Mode) (ops : Array Oper) (Q : Exit → Act → World → Prop) (s : Nat) (T : World → Prop) : Nat → Array Bool → Act → World → Prop
  | 0, l, a, w => Region.ready md ops l = [] ∧ Q .normal a w
  | f + 1, l, a, w => (Region.ready md ops l = [] → Q .normal a w) ∧ ∀ i, i ∈ Region.ready md ops l → wpOp P ops Q i (fun b x => ((l.setIfInBounds i true).getD s true = false → T x) ∧ wpL P md ops Q s T f (l.setIfInBounds i true) b x) a w
theorem wpL_any : ∀ (f : Nat) (l : Array Bool) (a : Act) (w : World), wpL P md ops Q s T f l a w → wpAny P md ops Q f l a w := by
  intro f
  induction f with
  | zero => intro l a w h; exact h
  | succ f ih => intro l a w h; exact ⟨h.1, fun i hi => wpOp_mono (fun b x hb => ih _ b x hb.2) (h.2 i hi)⟩
theorem wpL_first {i : Nat} {oi : Oper} {v : Value} {T' : World → Prop} (hi : ops[i]? = some oi) (hsel : ∀ (j : Nat) (o : Oper) cs b, ops[j]? = some o → o.op ≠ .select cs b)
    (hQ : ∀ c a w, Q (.panic c) (a.put oi.dst v) w → Q (.panic c) a w) (his : i ≠ s)
    (hT : ∀ l w, Cl md ops l → l.getD i true = false → (l.getD s true = false → T w) → T' w) :
    ∀ (f : Nat) (l : Array Bool) (a : Act) (w : World), Cl md ops l →
      (∀ j oj, ops[j]? = some oj → j ≠ i → l.getD j true = false → (∀ e ∈ oj.after, Region.binds md e = true → e.on ≠ i) → oi.apart ops oj = true) →
      i ∈ Region.ready md ops l → YieldsIf P ops T' oi v a → (l.getD s true = false → T w) →
      wpL P md ops Q s T f (l.setIfInBounds i true) (a.put oi.dst v) w → wpL P md ops Q s T (f + 1) l a w := by
  intro f
  induction f with
  | zero =>
    intro l a w hc hf hr hy hw H
    refine ⟨fun h0 => absurd hr (by rw [h0]; simp), fun j hj => ?_⟩
    by_cases hji : j = i
    · subst hji
      exact hy.wpOp hi (hT l w hc (mem_ready.1 hr).1 hw) ⟨fun h => hw (by rwa [getD_set_ne true his] at h), H⟩
    · have := ready_mono (md := md) (ops := ops) (i := i) hj hji
      rw [H.1] at this
      cases this
  | succ f ih =>
    intro l a w hc hf hr hy hw H
    have hun := (mem_ready.1 hr).1
    refine ⟨fun h0 => absurd hr (by rw [h0]; simp), fun j hj => ?_⟩
    by_cases hji : j = i
    · subst hji
      exact hy.wpOp hi (hT l w hc hun hw) ⟨fun h => hw (by rwa [getD_set_ne true his] at h), H⟩
    · obtain ⟨hju, oj, hoj, hjall⟩ := mem_ready.1 hj
      have hap : oi.apart ops oj = true := hf j oj hoj hji hju fun e he hb hon => by
        have := hjall e he hb
        rw [hon, getD_tf hun] at this
        cases this
      have h1 := H.2 j (ready_mono hj hji)
      have h2 := wpOp_putIf hoj hap (hsel i oi · · hi) (hsel j oj · · hoj) hQ hy h1
      refine wpOp_mono (fun b x hb => ?_) h2
      obtain ⟨hy', hTx, H'⟩ := hb
      have hcomm : (l.setIfInBounds i true).setIfInBounds j true = (l.setIfInBounds j true).setIfInBounds i true := Array.setIfInBounds_comm _ _ (Ne.symm hji)
      rw [hcomm] at hTx H'
      rw [getD_set_ne true his] at hTx
      refine ⟨hTx, ih _ b x (hc.set hj) (fun k ok hk hki hku hke => hf k ok hk hki ?_ hke) (ready_mono hr (Ne.symm hji)) hy' hTx H'⟩
      by_cases hjk : j = k
      · subst hjk; exact hju
      · rwa [getD_set_ne true hjk] at hku
theorem wpL_take {i : Nat} {oi : Oper} {v : Value} {T' : World → Prop} {f : Nat} {l : Array Bool} {a : Act} {w : World} (hi : ops[i]? = some oi) (hs : Region.noSelect ops = true) (hf : Region.free md ops l i = true) (hr : (Region.ready md ops l).contains i = true)
    (hQ : ∀ c a w, Q (.panic c) (a.put oi.dst v) w → Q (.panic c) a w) (his : i ≠ s)
    (hT : ∀ l w, Cl md ops l → l.getD i true = false → (l.getD s true = false → T w) → T' w) (hc : Cl md ops l) (hy : YieldsIf P ops T' oi v a) (hw : l.getD s true = false → T w)
    (h : Cl md ops (l.setIfInBounds i true) → wpL P md ops Q s T f (l.setIfInBounds i true) (a.put oi.dst v) w) : wpL P md ops Q s T (f + 1) l a w :=
  wpL_first hi (Region.noSelect_spec hs) hQ his hT f l a w hc (Region.free_spec hi hf) (by simpa using hr) hy hw (h (hc.set (by simpa using hr)))
theorem wpL_pure {i : Nat} {oi : Oper} {v : Value} {f : Nat} {l : Array Bool} {a : Act} {w : World} (hi : ops[i]? = some oi) (hs : Region.noSelect ops = true) (hf : Region.free md ops l i = true) (hr : (Region.ready md ops l).contains i = true)
    (hQ : ∀ c a w, Q (.panic c) (a.put oi.dst v) w → Q (.panic c) a w) (his : i ≠ s) (hc : Cl md ops l) (hy : YieldsIf P ops (fun _ => True) oi v a) (hw : l.getD s true = false → T w)
    (h : Cl md ops (l.setIfInBounds i true) → wpL P md ops Q s T f (l.setIfInBounds i true) (a.put oi.dst v) w) : wpL P md ops Q s T (f + 1) l a w :=
  wpL_take (T' := fun _ => True) hi hs hf hr hQ his (fun _ _ _ _ _ => trivial) hc hy hw h
theorem wpL_ready {rs : List Nat} {f : Nat} {l : Array Bool} {a : Act} {w : World} (hr : Region.ready md ops l = rs) (hne : rs ≠ [])
    (h : ∀ i, i ∈ rs → Cl md ops (l.setIfInBounds i true) → wpOp P ops Q i (fun b x => ((l.setIfInBounds i true).getD s true = false → T x) ∧ wpL P md ops Q s T f (l.setIfInBounds i true) b x) a w) (hc : Cl md ops l) : wpL P md ops Q s T (f + 1) l a w :=
  ⟨fun h0 => absurd (hr ▸ h0) hne, fun i hi => h i (hr ▸ hi) (hc.set hi)⟩
theorem wpL_done {f : Nat} {l : Array Bool} {a : Act} {w : World} (hr : Region.ready md ops l = []) (h : Q .normal a w) : wpL P md ops Q s T f l a w := by
  cases f with
  | zero => exact ⟨hr, h⟩
  | succ f => exact ⟨fun _ => h, fun i hi => by rw [hr] at hi; cases hi⟩
theorem wpL_start {id : Nat} {a : Act} {w : World} (hm : P.follows .mixedOrders = true) (h : Cl .any ops (Array.replicate ops.size false) → wpL P .any ops Q s T ops.size (Array.replicate ops.size false) a w.drew) : (Code.region id ops true).wp P Q a w :=
  wp_region_any hm (wpL_any _ _ _ _ (h Cl.none))
end
end Go.Proofs.YtpphoeimakjjdaaGreatDoor
