/-
  PLAIN LAWS, OVER ANY PROGRAM: a drawn region op by op, in few words. A condition T on the world holds till operation s (the first store into what is loaded; a number beyond the last: never) has come up. pP: an operation that yields in any world · pN: one that is not wanted · pT: a load, taken first, since s waits for it (the way from it to s is named) · pH: a load where no s is · pX: what alone is ready · pY: s itself · pD, pE: all have come up.
-/
import Derived.Deep.RegionHeld3
namespace Go.Proofs.YtkfhapidoolfdaaGreatDoor

section
variable {P : Program} {ops : Array Oper} {Q : Exit → Act → World → Prop} {md : Region.Mode} {T : World → Prop} {s : Nat}

/-- whatever has come up, what it waits for has come up, too -/
structure Cd (md : Region.Mode) (ops : Array Oper) (l : Array Bool) : Prop where
  size : l.size = ops.size
  down : ∀ j o, ops[j]? = some o → l.getD j false = true → ∀ e, e ∈ o.after → Region.binds md e = true → l.getD e.on false = true
theorem Cd.none : Cd md ops (Array.replicate ops.size false) := ⟨by simp, fun j o _ h => by
  by_cases hj : j < ops.size <;> simp [hj] at h⟩
theorem Cd.set {l : Array Bool} (h : Cd md ops l) {j : Nat} (hj : j ∈ Region.ready md ops l) : Cd md ops (l.setIfInBounds j true) := by
  refine ⟨by simp [h.size], fun k o hk hl e he hb => ?_⟩
  obtain ⟨_, o', ho', hall⟩ := mem_ready.1 hj
  by_cases q : j = k
  · subst q
    rw [hk] at ho'
    cases ho'
    exact getD_set_true (hall e he hb)
  · rw [getD_set_ne false q] at hl
    exact getD_set_true (h.down k o hk hl e he hb)
/-- each waits for the one ahead of it, the first for k -/
def wayB (md : Region.Mode) (ops : Array Oper) : Nat → List Nat → Bool
  | _, [] => true
  | k, j :: r => (match ops[j]? with
    | some o => o.after.any fun e => Region.binds md e && e.on == k
    | none => false) && wayB md ops j r
theorem Cd.way {l : Array Bool} (h : Cd md ops l) : ∀ {k : Nat} {r : List Nat}, wayB md ops k r = true → l.getD k false = false → l.getD (r.getLastD k) false = false
  | k, [], _, hk => hk
  | k, j :: r, hw, hk => by
    simp only [wayB, Bool.and_eq_true] at hw
    obtain ⟨h1, h2⟩ := hw
    rw [List.getLastD_cons]
    refine h.way h2 ?_
    cases hj : l.getD j false with
    | false => rfl
    | true =>
      split at h1
      · rename_i o ho
        obtain ⟨e, he, hb⟩ := Array.any_eq_true'.1 h1
        simp only [Bool.and_eq_true, beq_iff_eq] at hb
        have := h.down j o ho hj e he hb.1
        rw [hb.2, hk] at this
        cases this
      · cases h1
theorem getD_tf2 {l : Array Bool} {i : Nat} (h : l.getD i true = false) : l.getD i false = false := by
  rcases Nat.lt_or_ge i l.size with h' | h'
  · simp [h'] at h ⊢; exact h
  · simp [Array.getElem?_eq_none h'] at h
/-- whatever order is picked, T holds behind each operation as long as s has not come up -/
def wpC (P : Program) (md : Region.Mode) (ops : Array Oper) (Q : Exit → Act → World → Prop) (s : Nat) (T : World → Prop) : Nat → Array Bool → Act → World → Prop
  | 0, l, a, w => Region.ready md ops l = [] ∧ Q .normal a w
  | f + 1, l, a, w => (Region.ready md ops l = [] → Q .normal a w) ∧ ∀ i, i ∈ Region.ready md ops l → wpOp P ops Q i (fun b x => ((l.setIfInBounds i true).getD s false = false → T x) ∧ wpC P md ops Q s T f (l.setIfInBounds i true) b x) a w
theorem wpC_any : ∀ (f : Nat) (l : Array Bool) (a : Act) (w : World), wpC P md ops Q s T f l a w → wpAny P md ops Q f l a w := by
  intro f
  induction f with
  | zero => intro l a w h; exact h
  | succ f ih => intro l a w h; exact ⟨h.1, fun i hi => wpOp_mono (fun b x hb => ih _ b x hb.2) (h.2 i hi)⟩
theorem wpC_first {i : Nat} {oi : Oper} {v : Value} {T' : World → Prop} (hi : ops[i]? = some oi) (hsel : ∀ (j : Nat) (o : Oper) cs b, ops[j]? = some o → o.op ≠ .select cs b)
    (hQ : ∀ c a w, Q (.panic c) (a.put oi.dst v) w → Q (.panic c) a w) (his : i ≠ s)
    (hT : ∀ l w, Cd md ops l → l.getD i true = false → (l.getD s false = false → T w) → T' w) :
    ∀ (f : Nat) (l : Array Bool) (a : Act) (w : World), Cd md ops l →
      (∀ j oj, ops[j]? = some oj → j ≠ i → l.getD j true = false → (∀ e ∈ oj.after, Region.binds md e = true → e.on ≠ i) → oi.apart ops oj = true) →
      i ∈ Region.ready md ops l → YieldsIf P ops T' oi v a → (l.getD s false = false → T w) →
      wpC P md ops Q s T f (l.setIfInBounds i true) (a.put oi.dst v) w → wpC P md ops Q s T (f + 1) l a w := by
  intro f
  induction f with
  | zero =>
    intro l a w hc hf hr hy hw H
    refine ⟨fun h0 => absurd hr (by rw [h0]; simp), fun j hj => ?_⟩
    by_cases hji : j = i
    · subst hji
      exact hy.wpOp hi (hT l w hc (mem_ready.1 hr).1 hw) ⟨fun h => hw (by rwa [getD_set_ne false his] at h), H⟩
    · have := ready_mono (md := md) (ops := ops) (i := i) hj hji
      rw [H.1] at this
      cases this
  | succ f ih =>
    intro l a w hc hf hr hy hw H
    have hun := (mem_ready.1 hr).1
    refine ⟨fun h0 => absurd hr (by rw [h0]; simp), fun j hj => ?_⟩
    by_cases hji : j = i
    · subst hji
      exact hy.wpOp hi (hT l w hc hun hw) ⟨fun h => hw (by rwa [getD_set_ne false his] at h), H⟩
    · obtain ⟨hju, oj, hoj, hjall⟩ := mem_ready.1 hj
      have hap : oi.apart ops oj = true := hf j oj hoj hji hju fun e he hb hon => by
        have := hjall e he hb
        rw [hon, getD_tf2 hun] at this
        cases this
      have h1 := H.2 j (ready_mono hj hji)
      have h2 := wpOp_putIf hoj hap (hsel i oi · · hi) (hsel j oj · · hoj) hQ hy h1
      refine wpOp_mono (fun b x hb => ?_) h2
      obtain ⟨hy', hTx, H'⟩ := hb
      have hcomm : (l.setIfInBounds i true).setIfInBounds j true = (l.setIfInBounds j true).setIfInBounds i true := Array.setIfInBounds_comm _ _ (Ne.symm hji)
      rw [hcomm] at hTx H'
      rw [getD_set_ne false his] at hTx
      refine ⟨hTx, ih _ b x (hc.set hj) (fun k ok hk hki hku hke => hf k ok hk hki ?_ hke) (ready_mono hr (Ne.symm hji)) hy' hTx H'⟩
      by_cases hjk : j = k
      · subst hjk; exact hju
      · rwa [getD_set_ne true hjk] at hku
/-- the same, what is known of the world and of what has come up laid in front -/
def WC (P : Program) (md : Region.Mode) (ops : Array Oper) (Q : Exit → Act → World → Prop) (s : Nat) (T : World → Prop) (f : Nat) (l : Array Bool) (a : Act) (w : World) : Prop :=
  Cd md ops l → (l.getD s false = false → T w) → wpC P md ops Q s T f l a w
/-- the way back into the region, shut till it is named: T of the new world, then the walk goes on in the state, laid open -/
structure Kx (P : Program) (md : Region.Mode) (ops : Array Oper) (Q : Exit → Act → World → Prop) (s : Nat) (T : World → Prop) (f : Nat) (l : Array Bool) (K : Act → World → Prop) : Prop where
  out : ∀ b x b2, T x → WC P md ops Q s T f l b2 x → (hb : b = b2 := by ((try simp only [Act.put, List.setIfInBounds_toArray, List.set_cons_zero, List.set_cons_succ]); try rfl)) → K b x
structure Ky (P : Program) (md : Region.Mode) (ops : Array Oper) (Q : Exit → Act → World → Prop) (s : Nat) (T : World → Prop) (f : Nat) (l : Array Bool) (K : Act → World → Prop) : Prop where
  out : ∀ b x b2, WC P md ops Q s T f l b2 x → (hb : b = b2 := by ((try simp only [Act.put, List.setIfInBounds_toArray, List.set_cons_zero, List.set_cons_succ]); try rfl)) → K b x
/-- the operation at a place of a list that is written out -/
def opl : List Oper → Nat → Option Oper
  | [], _ => none
  | o :: _, 0 => some o
  | _ :: r, n + 1 => opl r n
theorem opl_get : ∀ {r : List Oper} {i : Nat} {o : Oper}, opl r i = some o → r[i]? = some o
  | [], _, _, h => by cases h
  | _ :: _, 0, _, h => h
  | _ :: r, n + 1, _, h => opl_get (r := r) (i := n) h
theorem op_get {i : Nat} {o : Oper} (h : opl ops.toList i = some o) : ops[i]? = some o := by
  have := opl_get h
  rwa [Array.getElem?_toList] at this
variable {f : Nat} {l : Array Bool} {a a2 : Act} {w : World} {o : Oper} {v : Value}
theorem pP (i : Nat) (h : WC P md ops Q s T f (l.setIfInBounds i true) a2 w) (hi : opl ops.toList i = some o := by rfl) (hs : Region.noSelect ops = true := by kernel_rfl) (hf : Region.free md ops l i = true := by kernel_rfl)
    (hr : (Region.ready md ops l).contains i = true := by kernel_rfl) (hQ : ∀ c a w, Q (.panic c) (a.put o.dst v) w → Q (.panic c) a w := by exact fun _ _ _ h => h) (his : i ≠ s := by decide)
    (hw : Region.wanted o (yielded ops a.tmps) = true := by rfl) (hy : ∀ w, (execOp a.eval o).run P w = .ok (.value v) w := by (intro w; go_simp; try with_reducible rfl))
    (ha : a.put o.dst v = a2 := by ((try simp only [Act.put, List.setIfInBounds_toArray, List.set_cons_zero, List.set_cons_succ]); try rfl)) : WC P md ops Q s T (f + 1) l a w := fun hc hT =>
  wpC_first (T' := fun _ => True) (op_get hi) (Region.noSelect_spec hs) hQ his (fun _ _ _ _ _ => trivial) f l a w hc (Region.free_spec (op_get hi) hf) (by simpa using hr) (.inl ⟨hw, fun w _ => hy w⟩) hT
    (ha ▸ h (hc.set (by simpa using hr)) (fun k => hT (by rwa [getD_set_ne false his] at k)))
theorem pN (i : Nat) (h : WC P md ops Q s T f (l.setIfInBounds i true) a2 w) (hi : opl ops.toList i = some o := by rfl) (hs : Region.noSelect ops = true := by kernel_rfl) (hf : Region.free md ops l i = true := by kernel_rfl)
    (hr : (Region.ready md ops l).contains i = true := by kernel_rfl) (hQ : ∀ c a w, Q (.panic c) (a.put o.dst undef) w → Q (.panic c) a w := by exact fun _ _ _ h => h) (his : i ≠ s := by decide)
    (hw : Region.wanted o (yielded ops a.tmps) = false := by rfl)
    (ha : a.put o.dst undef = a2 := by ((try simp only [Act.put, List.setIfInBounds_toArray, List.set_cons_zero, List.set_cons_succ]); try rfl)) : WC P md ops Q s T (f + 1) l a w := fun hc hT =>
  wpC_first (T' := fun _ => True) (op_get hi) (Region.noSelect_spec hs) hQ his (fun _ _ _ _ _ => trivial) f l a w hc (Region.free_spec (op_get hi) hf) (by simpa using hr) (.inr ⟨hw, rfl⟩) hT
    (ha ▸ h (hc.set (by simpa using hr)) (fun k => hT (by rwa [getD_set_ne false his] at k)))
theorem pT (i : Nat) (hi : opl ops.toList i = some o) (r : List Nat) (hy : ∀ w, T w → (execOp a.eval o).run P w = .ok (.value v) w) (h : WC P md ops Q s T f (l.setIfInBounds i true) a2 w) (hs : Region.noSelect ops = true := by kernel_rfl)
    (hf : Region.free md ops l i = true := by kernel_rfl) (hr : (Region.ready md ops l).contains i = true := by kernel_rfl) (hQ : ∀ c a w, Q (.panic c) (a.put o.dst v) w → Q (.panic c) a w := by exact fun _ _ _ h => h) (his : i ≠ s := by decide)
    (hw : Region.wanted o (yielded ops a.tmps) = true := by rfl) (hp : (wayB md ops i r && r.getLastD i == s) = true := by kernel_rfl)
    (ha : a.put o.dst v = a2 := by ((try simp only [Act.put, List.setIfInBounds_toArray, List.set_cons_zero, List.set_cons_succ]); try rfl)) : WC P md ops Q s T (f + 1) l a w := fun hc hT => by
  simp only [Bool.and_eq_true, beq_iff_eq] at hp
  exact wpC_first (T' := T) (op_get hi) (Region.noSelect_spec hs) hQ his (fun l w hc hu hT => hT (by have := hc.way hp.1 (getD_tf2 hu); rwa [hp.2] at this)) f l a w hc (Region.free_spec (op_get hi) hf) (by simpa using hr) (.inl ⟨hw, hy⟩) hT
    (ha ▸ h (hc.set (by simpa using hr)) (fun k => hT (by rwa [getD_set_ne false his] at k)))
theorem pH (i : Nat) (hi : opl ops.toList i = some o) (hy : ∀ w, T w → (execOp a.eval o).run P w = .ok (.value v) w) (h : WC P md ops Q s T f (l.setIfInBounds i true) a2 w) (hs : Region.noSelect ops = true := by kernel_rfl)
    (hf : Region.free md ops l i = true := by kernel_rfl) (hr : (Region.ready md ops l).contains i = true := by kernel_rfl) (hQ : ∀ c a w, Q (.panic c) (a.put o.dst v) w → Q (.panic c) a w := by exact fun _ _ _ h => h) (his : i ≠ s := by decide)
    (hw : Region.wanted o (yielded ops a.tmps) = true := by rfl) (hp : ops.size ≤ s := by decide)
    (ha : a.put o.dst v = a2 := by ((try simp only [Act.put, List.setIfInBounds_toArray, List.set_cons_zero, List.set_cons_succ]); try rfl)) : WC P md ops Q s T (f + 1) l a w := fun hc hT => by
  exact wpC_first (T' := T) (op_get hi) (Region.noSelect_spec hs) hQ his (fun l w hc _ hT => hT (by simp [hc.size, Nat.not_lt.2 hp])) f l a w hc (Region.free_spec (op_get hi) hf) (by simpa using hr) (.inl ⟨hw, hy⟩) hT
    (ha ▸ h (hc.set (by simpa using hr)) (fun k => hT (by rwa [getD_set_ne false his] at k)))
/-- what alone is ready, not s -/
theorem pX (i : Nat) (h : T w → ∀ K : Act → World → Prop, Kx P md ops Q s T f (l.setIfInBounds i true) K → if Region.wanted o (yielded ops a.tmps) = true then Oper.wp P o a w K Q else K (a.put o.dst undef) w) (hi : opl ops.toList i = some o := by rfl)
    (hr : Region.ready md ops l = [i] := by kernel_rfl) (hl : l.getD s false = false := by kernel_rfl) : WC P md ops Q s T (f + 1) l a w := fun hc hT =>
  ⟨fun h0 => absurd (hr ▸ h0) (by simp), fun j hj => by
    have hji : j = i := by rw [hr] at hj; simpa using hj
    subst hji
    exact wpOp_step (op_get hi) fun K hK => h (hT hl) K ⟨fun b x b2 hx hW hb => hK b x ⟨fun _ => hx, hb.symm ▸ hW (hc.set hj) fun _ => hx⟩⟩⟩
/-- one of two that are ready, neither of them s -/
theorem pX2 (i j : Nat) {o2 : Oper} (h : T w → ∀ K : Act → World → Prop, Kx P md ops Q s T f (l.setIfInBounds i true) K → if Region.wanted o (yielded ops a.tmps) = true then Oper.wp P o a w K Q else K (a.put o.dst undef) w)
    (h2 : T w → ∀ K : Act → World → Prop, Kx P md ops Q s T f (l.setIfInBounds j true) K → if Region.wanted o2 (yielded ops a.tmps) = true then Oper.wp P o2 a w K Q else K (a.put o2.dst undef) w) (hi : opl ops.toList i = some o := by rfl) (hi2 : opl ops.toList j = some o2 := by rfl)
    (hr : Region.ready md ops l = [i, j] := by kernel_rfl) (hl : l.getD s false = false := by kernel_rfl) : WC P md ops Q s T (f + 1) l a w := fun hc hT =>
  ⟨fun h0 => absurd (hr ▸ h0) (by simp), fun k hk => by
    have hki : k = i ∨ k = j := by rw [hr] at hk; simpa using hk
    rcases hki with rfl | rfl
    · exact wpOp_step (op_get hi) fun K hK => h (hT hl) K ⟨fun b x b2 hx hW hb => hK b x ⟨fun _ => hx, hb.symm ▸ hW (hc.set hk) fun _ => hx⟩⟩
    · exact wpOp_step (op_get hi2) fun K hK => h2 (hT hl) K ⟨fun b x b2 hx hW hb => hK b x ⟨fun _ => hx, hb.symm ▸ hW (hc.set hk) fun _ => hx⟩⟩⟩
/-- what alone is ready, s itself: T holds ahead of it alone -/
theorem pY (i : Nat) (h : T w → ∀ K : Act → World → Prop, Ky P md ops Q s T f (l.setIfInBounds i true) K → if Region.wanted o (yielded ops a.tmps) = true then Oper.wp P o a w K Q else K (a.put o.dst undef) w) (hi : opl ops.toList i = some o := by rfl)
    (hr : Region.ready md ops l = [i] := by kernel_rfl) (hl0 : l.getD s false = false := by kernel_rfl) (hl : (l.setIfInBounds i true).getD s false = true := by kernel_rfl) : WC P md ops Q s T (f + 1) l a w := fun hc hT =>
  ⟨fun h0 => absurd (hr ▸ h0) (by simp), fun j hj => by
    have hji : j = i := by rw [hr] at hj; simpa using hj
    subst hji
    exact wpOp_step (op_get hi) fun K hK => h (hT hl0) K ⟨fun b x b2 hW hb => hK b x ⟨fun h0 => (by rw [hl] at h0; cases h0), hb.symm ▸ hW (hc.set hj) fun h0 => (by rw [hl] at h0; cases h0)⟩⟩⟩
theorem pD (h : Q .normal a w) (hr : Region.ready md ops l = [] := by kernel_rfl) : WC P md ops Q s T f l a w := fun _ _ => by
  cases f with
  | zero => exact ⟨hr, h⟩
  | succ f => exact ⟨fun _ => h, fun i hi => by rw [hr] at hi; cases hi⟩
/-- the end where no s is: T still holds -/
theorem pE (h : T w → Q .normal a w) (hr : Region.ready md ops l = [] := by kernel_rfl) (hl : l.getD s false = false := by kernel_rfl) : WC P md ops Q s T f l a w := fun _ hT => by
  cases f with
  | zero => exact ⟨hr, h (hT hl)⟩
  | succ f => exact ⟨fun _ => h (hT hl), fun i hi => by rw [hr] at hi; cases hi⟩
theorem pB {id : Nat} (s : Nat) (T : World → Prop) (hT : T w.drew) (h : WC P .any ops Q s T ops.size (Array.replicate ops.size false) a w.drew) (hm : P.follows .mixedOrders = true := by kernel_rfl) : (Code.region id ops true).wp P Q a w :=
  wp_region_any hm (wpC_any _ _ _ _ (h Cd.none fun _ => hT))
end
end Go.Proofs.YtkfhapidoolfdaaGreatDoor
