/-
  PLAIN, OVER ANY PROGRAM: append. PLAIN, OVER ANY PROGRAM: append, the operation. PLAIN, OVER ANY PROGRAM: maps. PLAIN, OVER ANY PROGRAM: maps, the operations. PLAIN, OVER ANY PROGRAM: ranges; every operation.
-/
import Derived.Test.YtkfhapidoolfdaaGreatDoorEG3
namespace Go.Proofs.YtkfhapidoolfdaaGreatDoor
open Go
namespace Ev
variable {P : Program}

/-- the second argument's type, if it is told, is no whole number's -/
def NoInt (P : Program) (ats : Array TypeId) : Prop := ats[1]? = none ∨ ∃ u d, ats[1]? = some u ∧ underE P u = some d ∧ ∀ k, d ≠ .int k
theorem run_app_fits {w w' : World} {ats : Array TypeId} {ty t el : TypeId} {args : Array Value} {base : Option Addr} {sLen sCap size n : Nat} {x : Value} {vs : List Value}
    (h0 : ats[0]? = some t) (hz : NoInt P ats) (h1 : args[0]? = some (.slice base sLen sCap)) (h2 : args[1]? = some x) (hu : underE P t = some (.slice el)) (hs : szE P el = some size)
    (hl : (Builtin.lenOf x).run P w = .ok n w) (hf : (Builtin.firstCells size n x).run P w = .ok vs.toArray w) (hn : sLen + n ≤ sCap)
    (hst : (match base with | some a => storeCells (a.add (sLen * size)) vs | none => pure ()).run P w = .ok () w') :
    (Builtin.append_ ats ty args).run P w = .ok (.slice base (sLen + n) sCap) w' := by
  rcases hz with hz | ⟨u, d, hz, hd, hk⟩
  · cases base with
    | none =>
      cases hst
      simp only [Builtin.append_, h0, h1, h2, hz, Sem.run_bind, run_underE hu, run_sizeE hs, hl, hf, Result.andThen, Sem.run_pure, Bool.false_eq_true, if_false, if_pos hn, Bool.not_false, if_true]
    | some a =>
      have hst' : (storeCells (a.add (sLen * size)) vs).run P w = .ok () w' := hst
      simp only [Builtin.append_, h0, h1, h2, hz, Sem.run_bind, run_underE hu, run_sizeE hs, hl, hf, Result.andThen, Sem.run_pure, Bool.false_eq_true, if_false, if_pos hn, Bool.not_false, if_true, hst']
  · cases base with
    | none =>
      cases hst
      cases d with
      | int k => exact absurd rfl (hk k)
      | _ => simp only [Builtin.append_, h0, h1, h2, hz, Sem.run_bind, run_underE hu, run_underE hd, run_sizeE hs, hl, hf, Result.andThen, Sem.run_pure, Bool.false_eq_true, if_false, if_pos hn, Bool.not_false, if_true]
    | some a =>
      have hst' : (storeCells (a.add (sLen * size)) vs).run P w = .ok () w' := hst
      cases d with
      | int k => exact absurd rfl (hk k)
      | _ => simp only [Builtin.append_, h0, h1, h2, hz, Sem.run_bind, run_underE hu, run_underE hd, run_sizeE hs, hl, hf, Result.andThen, Sem.run_pure, Bool.false_eq_true, if_false, if_pos hn, Bool.not_false, if_true, hst']
theorem run_app_grow {w : World} {ats : Array TypeId} {ty t el : TypeId} {args : Array Value} {base : Option Addr} {sLen sCap n : Nat} {x : Value} {olds vs : List Value} {i : TypeInfo} {z : Value}
    (h0 : ats[0]? = some t) (hz : NoInt P ats) (h1 : args[0]? = some (.slice base sLen sCap)) (h2 : args[1]? = some x) (hu : underE P t = some (.slice el)) (hi : infoE P el = some i) (hzv : i.zero = some z) (hb : i.bytes ≤ 1000000) (hneed : sLen + n ≤ 1000000)
    (hl : (Builtin.lenOf x).run P w = .ok n w) (hn : sCap < sLen + n)
    (ho : (Builtin.firstCells i.size sLen (.slice base sLen sCap)).run P w.drew = .ok olds.toArray w.drew) (hf : (Builtin.firstCells i.size n x).run P w.drew = .ok vs.toArray w.drew) :
    (Builtin.append_ ats ty args).run P w = .ok (.slice (some ⟨w.heap.size, 0, none⟩) (sLen + n) (grownCap w (sLen + n) sCap el)) (w.drew.alloc (.cells (olds.toArray ++ vs.toArray ++ Builtin.zeroCells z.cells (grownCap w (sLen + n) sCap el - (sLen + n))) el)) := by
  have hi' := infoE_some hi
  have hs : szE P el = some i.size := by rw [szE, hi]
  have c6 : ∀ w, (typeInfo el).run P w = .ok i w := fun w => by simp [typeInfo, program, Sem.run, hi']
  have c7 : ∀ w, (zeroValue el).run P w = .ok z w := fun w => by simp [zeroValue, typeInfo, program, Sem.run, hi', hzv]
  have hn' : ¬ sLen + n ≤ sCap := by omega
  have hm : IntKind.i64.max = 9223372036854775807 := by decide
  have h63 : ¬ (((sLen + n : Nat) : Int) > IntKind.i64.max ∧ (False ∨ i.bytes = 0)) := by
    rw [hm]
    intro q
    have := q.1
    omega
  have h48 : ¬ Builtin.nextslicecap (sLen + n) sCap * i.bytes > 2 ^ 48 := by
    have : (sLen + n) * i.bytes ≤ 1000000 * 1000000 := Nat.mul_le_mul hneed hb
    have := growslice_fits hn (bytes := i.bytes) (by omega)
    have e : 2 ^ 48 = 281474976710656 := rfl
    omega
  have ask : ∀ (k : Nat) (w : World), (askRoom k).run P w = .ok () w := by
    intro k w
    unfold askRoom
    by_cases g : k > roomBytes
    · rw [if_pos g]; rfl
    · rw [if_neg g]; rfl
  have hf0 : (Question.appendCap (sLen + n) sCap el).forced = false := rfl
  rcases hz with hz | ⟨u, d, hz, hd, hk⟩
  · simp only [Builtin.append_, h0, h1, h2, hz, Sem.run_bind, run_underE hu, run_sizeE hs, hl, hf, ho, Result.andThen, Sem.run_pure, Bool.false_eq_true, if_false, if_neg hn', Bool.not_false, if_true, c6, c7, if_neg h63, if_neg h48, ask, newRow, run_choose_drew, hf0]
    rfl
  · cases d with
    | int k => exact absurd rfl (hk k)
    | _ =>
      simp only [Builtin.append_, h0, h1, h2, hz, Sem.run_bind, run_underE hu, run_underE hd, run_sizeE hs, hl, hf, ho, Result.andThen, Sem.run_pure, Bool.false_eq_true, if_false, if_neg hn', Bool.not_false, if_true, c6, c7, if_neg h63, if_neg h48, ask, newRow, run_choose_drew, hf0]
      rfl
/-! ### memory -/
theorem Rep.heap {ρ : Rn} {σ : St} {w w' : World} (R : Rep P ρ σ w) (h : w'.heap = w.heap) : Rep P ρ σ w' :=
  ⟨fun k e hk => by obtain ⟨a, c, o, h1, h2, h3⟩ := R.blk k e hk; exact ⟨a, c, o, h1, by rw [h]; exact h2, h3⟩, R.inj, R.lim, fun k a c hk => by rw [h]; exact R.inb k a c hk⟩
theorem Stp.heap {ρ : Rn} {σ : St} {w w' : World} (R : Rep P ρ σ w) (h : w'.heap = w.heap) (h1 : w'.os = w.os) (h2 : w'.output = w.output) (h3 : w'.tape = w.tape) : Stp P ρ σ w ρ σ w' :=
  ⟨R.heap h, Le.refl ρ, Nat.le_refl _, fun _ h => h, fun _ _ _ h => .inl h, by rw [h]; exact Nat.le_refl _, fun _ _ _ => by rw [h], h1, h2, h3, fun _ h => .inl h, fun _ h => .inl h, fun _ _ _ => rfl, fun _ _ => rfl⟩
/-- a block that E lets go -/
noncomputable def St.drop (σ : St) (b : Nat) : St := { h := σ.h.put b none, nx := σ.nx, W := b :: σ.W }
theorem drop_get (σ : St) (b j : Nat) : (σ.drop b).h.get j = if j = b then none else σ.h.get j := TrO.get_put σ.h b none j
theorem Rep.drop {ρ : Rn} {σ : St} {w : World} (R : Rep P ρ σ w) (b : Nat) : Rep P ρ (σ.drop b) w := by
  have nn : ∀ j, (σ.drop b).h.get j ≠ none → σ.h.get j ≠ none := by
    intro j hj
    rw [drop_get] at hj
    by_cases h : j = b
    · rw [if_pos h] at hj; exact absurd rfl hj
    · rw [if_neg h] at hj; exact hj
  refine ⟨?_, fun i j a c d hi hj => R.inj i j a c d (nn i hi) (nn j hj), R.lim, R.inb⟩
  intro k e hk
  rw [drop_get] at hk
  by_cases h : k = b
  · rw [if_pos h] at hk; cases hk
  · rw [if_neg h] at hk; exact R.blk k e hk
theorem Stp.drop {ρ : Rn} {σ : St} {w : World} (R : Rep P ρ σ w) (b : Nat) (hb : σ.h.get b ≠ none) : Stp P ρ σ w ρ (σ.drop b) w := by
  refine ⟨R.drop b, Le.refl ρ, Nat.le_refl _, fun _ h => List.mem_cons_of_mem _ h, fun _ _ _ h => .inl h, Nat.le_refl _, fun _ _ _ => rfl, rfl, rfl, rfl, ?_, ?_, ?_, fun _ _ => rfl⟩
  · intro k h
    rw [drop_get] at h
    by_cases g : k = b
    · rw [if_pos g] at h; exact absurd rfl h
    · rw [if_neg g] at h; exact .inl h
  · intro k h
    rcases List.mem_cons.1 h with g | g
    · subst g; exact .inr (.inl hb)
    · exact .inl g
  · intro k _ h
    rw [drop_get, if_neg (fun g => h (by rw [g]; exact List.mem_cons_self ..))]
/-- a block of the world told anew, under a new number -/
theorem Stp.again {ρ : Rn} {σ : St} {w w' : World} (R : Rep P ρ σ w) {a c : Nat} {e : EO} {o : Obj} (ha : a < w.heap.size) (hn : ∀ j d, σ.h.get j ≠ none → ρ j ≠ some (a, d)) (hw : w'.heap = w.heap.setIfInBounds a o) (ho : ObjD P (Rn.add ρ σ.nx a c) c e o) (hW : Wrote ρ σ.W a)
    (h1 : w'.os = w.os) (h2 : w'.output = w.output) (h3 : w'.tape = w.tape) : Stp P ρ σ w (Rn.add ρ σ.nx a c) (σ.new e) w' := by
  have gp : ∀ j, (σ.new e).h.get j = if j = σ.nx then some e else σ.h.get j := fun j => TrO.get_put σ.h σ.nx (some e) j
  have le : Le ρ (Rn.add ρ σ.nx a c) := R.le_add a c
  refine ⟨⟨?_, ?_, ?_, ?_⟩, le, Nat.le_succ _, fun j h => h, ?_, ?_, ?_, h1, h2, h3, ?_, fun j h => .inl h, ?_, fun k hk => by rw [Rn.add, if_neg (by omega)]⟩
  · intro j x hj
    rw [gp j] at hj
    by_cases h : j = σ.nx
    · subst h
      rw [if_pos rfl] at hj
      cases hj
      exact ⟨a, c, o, Rn.add_self .., by rw [hw, Array.getElem?_setIfInBounds]; simp [ha], ho⟩
    · rw [if_neg h] at hj
      obtain ⟨b, d, x', q1, q2, q3⟩ := R.blk j x hj
      have hb : a ≠ b := by
        intro e1
        subst e1
        exact hn j d (by rw [hj]; simp) q1
      exact ⟨b, d, x', le _ _ q1, by rw [hw, Array.getElem?_setIfInBounds, if_neg hb]; exact q2, ObjD.mono le q3⟩
  · intro i j b x y hi hj q1 q2
    rw [gp i] at hi
    rw [gp j] at hj
    rw [Rn.add] at q1 q2
    by_cases e1 : i = σ.nx
    · by_cases e2 : j = σ.nx
      · rw [e1, e2]
      · rw [if_pos e1] at q1
        rw [if_neg e2] at q2 hj
        cases q1
        exact absurd q2 (hn j y hj)
    · by_cases e2 : j = σ.nx
      · rw [if_neg e1] at q1 hi
        rw [if_pos e2] at q2
        cases q2
        exact absurd q1 (hn i x hi)
      · rw [if_neg e1] at q1 hi
        rw [if_neg e2] at q2 hj
        exact R.inj i j b x y hi hj q1 q2
  · intro k hk
    have hk' : σ.nx + 1 ≤ k := hk
    rw [Rn.add, if_neg (by omega)]
    exact R.lim k (by omega)
  · intro k b d q
    rw [hw, Array.size_setIfInBounds]
    rw [Rn.add] at q
    by_cases e1 : k = σ.nx
    · rw [if_pos e1] at q
      cases q
      exact ha
    · rw [if_neg e1] at q
      exact R.inb k b d q
  · intro k b d q
    rw [Rn.add] at q
    by_cases e1 : k = σ.nx
    · rw [if_pos e1] at q
      cases q
      exact .inr (.inr hW)
    · rw [if_neg e1] at q
      exact .inl q
  · rw [hw, Array.size_setIfInBounds]; exact Nat.le_refl _
  · intro b hb h
    have hab : a ≠ b := by
      intro e1
      subst e1
      exact h hW
    rw [hw, Array.getElem?_setIfInBounds, if_neg hab]
  · intro j h
    rw [gp j] at h
    by_cases g : j = σ.nx
    · right; omega
    · rw [if_neg g] at h; exact .inl h
  · intro j hj _
    rw [gp j, if_neg (by omega)]
/-! ### rows behind rows -/
theorem laidY_at {ρ : Rn} {bs m : Nat} {el : TypeId} {op : Bool} {o : Nat} {r : Row} {vs : List Value} {x : EO} (d : RowD ρ r vs) (e : laidY bs m el op o r = some x) :
    ∃ v, x = .y (splB bs o vs.length v) m el op ∧ ∀ t, t < vs.length → vs[t]? = some (byV v t) := by
  have hl : vs.length = r.len := RowD.len d
  cases r with
  | y v n =>
    cases e
    have hn : vs.length = n := hl
    refine ⟨v, by rw [hn], fun t ht => ?_⟩
    rw [show vs = unV v 0 n from d, unV_at v n 0 t (by omega), Nat.zero_add]
  | l es =>
    rw [laidY] at e
    cases e1 : packB 0 0 es with
    | none => rw [e1] at e; cases e
    | some v =>
      rw [e1] at e
      cases e
      have hn : vs.length = lenL es := hl
      obtain ⟨_, g⟩ := packB_D es 0 0 v vs e1 (by simp) d
      refine ⟨v, by rw [hn], fun t ht => ?_⟩
      have := g t (by rw [← lenL_eq]; omega)
      rwa [Nat.zero_add] at this
theorem onto_D {ρ ρ' : Rn} {elem : TypeId} {m c C sz : Nat} {r : Row} {e x : EO} {cs cs' : Array Value} {vs : List Value} {el : TypeId} (le : Le ρ ρ') (d : RowD ρ r vs) (hx : onto elem m r (some e) = some x) (ho : ObjD P ρ c e (.cells cs el (0, 0)))
    (hs : szE P elem = some sz) (hsz : cs'.size = C * sz) (hC : C ≤ 9223372036854775807) (hf : m + vs.length ≤ cs'.size) (h1 : ∀ i, i < m → cs'[i]? = cs[i]?) (h2 : ∀ j, j < vs.length → cs'[m + j]? = vs[j]?) : ObjD P ρ' C x (.cells cs' elem (0, 0)) := by
  have hl : vs.length = r.len := RowD.len d
  unfold onto at hx
  split at hx
  · next tr k z el' op heq =>
    cases heq
    obtain ⟨cs0, k1, k2, k3, k4, k5⟩ := ho
    cases k1
    split at hx
    · next hm =>
      have hx := (Option.some.inj hx).symm
      subst hx
      have hmk := Nat.le_of_ble_eq_true (Bool.and_eq_true_iff.1 hm).1
      refine ⟨_, rfl, by omega, (fun q => by cases q), fun _ => ⟨sz, hs, hsz, hC⟩, ?_⟩
      intro i hi
      have hrl : r.list.length = r.len := by rw [← Dens_len d.list]; exact hl
      rw [cellAt_put]
      by_cases g : m ≤ i ∧ i < m + r.list.length
      · rw [if_pos g]
        obtain ⟨v, g1, g2⟩ := nth_D d.list (show i - m < r.list.length by omega)
        refine ⟨v, ?_, Den.mono le g2⟩
        rw [show i = m + (i - m) by omega, h2 (i - m) (by omega)]; exact g1
      · rw [if_neg g]
        obtain ⟨v, g1, g2⟩ := k5 i (by omega)
        exact ⟨v, by rw [h1 i (by omega)]; exact g1, Den.mono le g2⟩
    · cases hx
  · next bs k el' op heq =>
    cases heq
    obtain ⟨cs0, k1, k2, k3, k4, k5⟩ := ho
    cases k1
    split at hx
    · next hm =>
      have hmk := Nat.le_of_ble_eq_true (Bool.and_eq_true_iff.1 hm).1
      obtain ⟨v, rfl, hv⟩ := laidY_at d hx
      refine ⟨_, rfl, by omega, (fun q => by cases q), fun _ => ⟨sz, hs, hsz, hC⟩, ?_⟩
      intro i hi
      rw [byV, splB_at]
      by_cases g : m ≤ i ∧ i < m + vs.length
      · rw [if_pos g, show i = m + (i - m) by omega, h2 (i - m) (by omega), hv (i - m) (by omega), Nat.add_sub_cancel_left, byV]
      · rw [if_neg g, h1 i (by omega), k5 i (by omega), byV, segB_segB bs 0 m i (by omega), Nat.zero_add]
    · cases hx
  · cases hx
theorem cat_D {ρ : Rn} {old r : Row} {us vs : List Value} (h1 : RowD ρ old us) (h2 : RowD ρ r vs) : RowD ρ (cat old r) (us ++ vs) := by
  cases old with
  | l a => exact Dens.app h1 h2.list
  | y bs n =>
    cases r with
    | l cs => exact Dens.app (show Dens ρ (unB bs 0 n) us by rw [show us = unV bs 0 n from h1]; exact Dens.un bs n 0) h2
    | y v k =>
      show us ++ vs = unV (splB bs n k v) 0 (n + k)
      have e1 : us = unV bs 0 n := h1
      have e2 : vs = unV v 0 k := h2
      have l1 : us.length = n := by rw [e1, unV_len]
      have l2 : vs.length = k := by rw [e2, unV_len]
      refine list_byV (by rw [List.length_append]; omega) ?_
      intro t ht
      rw [Nat.zero_add, byV, splB_at]
      by_cases g : t < n
      · rw [if_neg (by omega), List.getElem?_append_left (by omega), e1, unV_at bs n 0 t g, Nat.zero_add, byV]
      · rw [if_pos (by omega), List.getElem?_append_right (by omega), l1, e2, unV_at v k 0 (t - n) (by omega), Nat.zero_add, byV]
theorem rowE_pre {ρ : Rn} {r : Row} {vs : List Value} {cs : Array Value} {c sz : Nat} {el : TypeId} (d : RowD ρ r vs) (hs : szE P el = some sz) (hsz : cs.size = c * sz) (hC : c ≤ 9223372036854775807) (hf : vs.length ≤ cs.size) (h : ∀ j, j < vs.length → cs[j]? = vs[j]?) : ObjD P ρ c (rowE el true r) (.cells cs el (0, 0)) := by
  have hl : vs.length = r.len := RowD.len d
  cases r with
  | l l =>
    have hl' : vs.length = l.length := by rw [← lenL_eq l]; exact hl
    refine ⟨_, rfl, by rw [lenL_eq]; omega, (fun q => by cases q), fun _ => ⟨sz, hs, hsz, hC⟩, ?_⟩
    intro i hi
    rw [lenL_eq] at hi
    obtain ⟨v, g1, g2⟩ := nth_D d hi
    refine ⟨v, by rw [h i (by omega)]; exact g1, ?_⟩
    rw [cellAt, TrV.get_lf]
    show Den ρ (nth l (Nat.mod i (lenL l))) v
    rw [nthmod hi]; exact g2
  | y bs n =>
    have hl' : vs.length = n := hl
    refine ⟨_, rfl, by omega, (fun q => by cases q), fun _ => ⟨sz, hs, hsz, hC⟩, ?_⟩
    intro i hi
    rw [h i (by omega), show vs = unV bs 0 n from d, unV_at bs n 0 i hi, Nat.zero_add]
theorem Rep.srcE {ρ : Rn} {σ : St} {w : World} (R : Rep P ρ σ w) {s : EV} {x : Value} {n size : Nat} {r : Row} (d : Den ρ s x) (e : Ev.srcE σ size s = some (n, r)) :
    ∃ vs : List Value, vs.length = n * size ∧ (∀ w, (Builtin.lenOf x).run P w = .ok n w) ∧ (Builtin.firstCells size n x).run P w = .ok vs.toArray w ∧ RowD ρ r vs := by
  cases s with
  | s v =>
    rw [show x = v from d.s]
    cases v with
    | string t =>
      simp only [Ev.srcE] at e
      split at e
      · cases e
        have hl := str_list t t.size (Nat.le_refl _)
        refine ⟨_, ?_, fun _ => rfl, by simp only [Builtin.firstCells]; rw [Sem.run_pure, ← Array.toArray_toList (xs := (t.extract 0 t.size).data.map fun b => Value.int .u8 b.toNat), hl], ?_⟩
        · rw [unV_len, Nat.mul_one]
        · rfl
      · cases e
    | slice p k cp =>
      cases p with
      | none =>
        cases k with
        | zero =>
          cases e
          exact ⟨[], by simp, fun _ => rfl, rfl, (Dens.nilm : Dens ρ [] [])⟩
        | succ k => cases e
      | some a => cases e
    | _ => cases e
  | sl b o k cap q =>
    obtain ⟨a, c', h1, rfl⟩ := d.sl
    simp only [Ev.srcE] at e
    cases e1 : loadN σ b o (k * size) with
    | none => rw [e1] at e; cases e
    | some r' =>
      rw [e1] at e
      cases e
      obtain ⟨vs, g1, g2, g3⟩ := R.load h1 e1
      refine ⟨vs, g1, fun _ => rfl, ?_, g2⟩
      exact run_firstCells_some (P := P) w size _ ⟨a, o, none⟩ _ _ vs g1 (fun j v hv => by rw [addr_add]; exact g3 j v hv)
  | zl =>
    obtain ⟨a, c', rfl⟩ := d.zl
    cases e
    refine ⟨[], by simp, fun _ => rfl, ?_, (Dens.nilm : Dens ρ [] [])⟩
    cases a with
    | none => rfl
    | some a => simp only [Builtin.firstCells, Nat.zero_mul]; rfl
  | _ => cases e
end Ev
end Go.Proofs.YtkfhapidoolfdaaGreatDoor

namespace Go.Proofs.YtkfhapidoolfdaaGreatDoor
open Go
namespace Ev
variable {P : Program}

theorem growable_some {elem : TypeId} {size need : Nat} (h : growable P elem size need = true) : ∃ i z, infoE P elem = some i ∧ i.zero = some z ∧ z.cells.size = size ∧ i.bytes ≤ 1000000 ∧ need ≤ 1000000 := by
  unfold growable at h
  split at h
  · next i hi =>
    split at h
    · next z hz =>
      simp only [Bool.and_eq_true] at h
      exact ⟨i, z, hi, hz, Nat.eq_of_beq_eq_true h.1.1, Nat.le_of_ble_eq_true h.1.2, Nat.le_of_ble_eq_true h.2⟩
    · cases h
  · cases h
theorem grown_le (w : World) (need old : Nat) (e : TypeId) : need ≤ grownCap w need old e := by
  show need ≤ need + _
  omega
/-- the cells of a row that has grown -/
theorem grown_cells {olds vs : List Value} {z : Array Value} {sLen n C size : Nat} (h1 : olds.length = sLen * size) (h2 : vs.length = n * size) (h3 : z.size = size) (h4 : sLen + n ≤ C) :
    (olds.toArray ++ vs.toArray ++ Builtin.zeroCells z (C - (sLen + n))).size = C * size ∧
    (∀ i, i < olds.length → (olds.toArray ++ vs.toArray ++ Builtin.zeroCells z (C - (sLen + n)))[i]? = olds[i]?) ∧
    (∀ j, j < vs.length → (olds.toArray ++ vs.toArray ++ Builtin.zeroCells z (C - (sLen + n)))[olds.length + j]? = vs[j]?) := by
  have hz : (Builtin.zeroCells z (C - (sLen + n))).size = (C - (sLen + n)) * size := by rw [Builtin.zeroCells]; simp [h3]
  refine ⟨?_, ?_, ?_⟩
  · rw [Array.size_append, Array.size_append, List.size_toArray, List.size_toArray, hz, h1, h2, ← Nat.add_mul, ← Nat.add_mul]
    congr 1
    omega
  · intro i hi
    rw [Array.getElem?_append_left (by rw [Array.size_append, List.size_toArray, List.size_toArray]; omega), Array.getElem?_append_left (by rw [List.size_toArray]; omega), List.getElem?_toArray]
  · intro j hj
    rw [Array.getElem?_append_left (by rw [Array.size_append, List.size_toArray, List.size_toArray]; omega), Array.getElem?_append_right (by rw [List.size_toArray]; omega), List.size_toArray, List.getElem?_toArray, Nat.add_sub_cancel_left]
theorem open_at {ρ : Rn} {k a c n : Nat} : Den (Rn.add ρ k a c) (.sl k 0 n none 0) (.slice (some ⟨a, 0, none⟩) n c) := by
  simp only [Den]
  exact ⟨_, _, Rn.add_self .., rfl⟩
/-- the new block -/
theorem Rep.grow {ρ : Rn} {σ : St} {w : World} (R : Rep P ρ σ w) {C : Nat} {x : EO} {cs : Array Value} {el : TypeId} (hx : ObjD P (Rn.add ρ σ.nx w.heap.size C) C x (.cells cs el (0, 0))) :
    Stp P ρ σ w (Rn.add ρ σ.nx w.heap.size C) (σ.new x) (w.drew.alloc (.cells cs el)) :=
  (Stp.heap R (w' := w.drew) rfl rfl rfl rfl).trans (Stp.new (w := w.drew) (R.heap rfl) rfl hx rfl rfl rfl)
theorem op_append {o : Oper} {c : Go.Call} {s x : Operand} {t : TypeId} (h : o.op = .call c) (hb : c.callee = .builtin .append) (ha : c.args.toList = [s, x]) (ht : c.argTypes[0]? = some t) (hz : NoInt P c.argTypes) : OpOk P o (appendF P t s x) := by
  intro ρ tm σ w η v σ' R D e
  have dd := D s
  have dx := D x
  have q2 : (c.args.map η)[0]? = some (η s) := by rw [← Array.getElem?_toList, Array.toList_map, ha]; rfl
  have q3 : (c.args.map η)[1]? = some (η x) := by rw [← Array.getElem?_toList, Array.toList_map, ha]; rfl
  rw [appendF] at e
  generalize ev tm s = y at e dd
  generalize ev tm x = z at e dx
  have fin : ∀ (ρ' : Rn) (w' : World) (u : Value), (Builtin.append_ c.argTypes o.type (c.args.map η)).run P w = .ok u w' → Den ρ' v u → Stp P ρ σ w ρ' σ' w' → ∃ ρ' w' n, (execOp η o).run P w = .ok n w' ∧ Ends ρ' v n ∧ Stp P ρ σ w ρ' σ' w' := by
    intro ρ' w' u h1 h2 h3
    obtain ⟨k, h4⟩ := builtin_run (P := P) h hb η w
    refine ⟨ρ', w', .value u, ?_, .inl ⟨_, rfl, h2⟩, h3⟩
    rw [h4]
    simp only [builtin, Sem.run_bind, h1, Result.andThen, Sem.run_pure]
  unfold appendE at e
  split at e
  · next elem size g1 =>
    obtain ⟨hu, hs⟩ := elemSz_some g1
    cases g2 : Ev.srcE σ size z with
    | none => rw [g2] at e; cases e
    | some nr =>
      obtain ⟨n, r⟩ := nr
      rw [g2] at e
      obtain ⟨vs, k1, k2, k3, k4⟩ := R.srcE dx g2
      obtain ⟨vs', k1', _, k3', k4'⟩ := (R.heap (w' := w.drew) rfl).srcE dx g2
      -- what grows
      have grow : ∀ (base : Option Addr) (sLen sCap : Nat) (olds : List Value), η s = .slice base sLen sCap → growable P elem size (sLen + n) = true → sCap < sLen + n → olds.length = sLen * size → (Builtin.firstCells size sLen (.slice base sLen sCap)).run P w.drew = .ok olds.toArray w.drew →
          ∃ (C : Nat) (cs : Array Value), (Builtin.append_ c.argTypes o.type (c.args.map η)).run P w = .ok (.slice (some ⟨w.heap.size, 0, none⟩) (sLen + n) C) (w.drew.alloc (.cells cs elem)) ∧ cs.size = C * size ∧ C ≤ 9223372036854775807 ∧ olds.length + vs'.length ≤ cs.size ∧
            (∀ i, i < olds.length → cs[i]? = olds[i]?) ∧ (∀ j, j < vs'.length → cs[olds.length + j]? = vs'[j]?) := by
        intro base sLen sCap olds j1 j2 j3 j4 j5
        obtain ⟨i, zz, p1, p2, p3, p4, p5⟩ := growable_some j2
        have hsz : size = i.size := by rw [szE, p1] at hs; cases hs; rfl
        rw [hsz] at j5 k3'
        have hr := run_app_grow (ty := o.type) ht hz (by rw [q2, j1]) q3 hu p1 p2 p4 p5 (k2 w) j3 j5 k3'
        obtain ⟨c1, c2, c3⟩ := grown_cells (z := zz.cells) (C := grownCap w (sLen + n) sCap elem) j4 k1' p3 (grown_le _ _ _ _)
        refine ⟨_, _, hr, c1, grownCap_le_maxLen _ _ _ _ (by show _ ≤ 9223372036854775807; omega), ?_, c2, c3⟩
        rw [c1, j4, k1', ← Nat.add_mul]
        exact Nat.mul_le_mul_right _ (grown_le _ _ _ _)
      unfold appendTo at e
      split at e
      · next n' r' heq =>
        have hn : n = n' := by cases heq; rfl
        have hr : r = r' := by cases heq; rfl
        subst hn hr
        clear heq
        split at e
        · -- nil
          unfold appendNil at e
          split at e
          · cases e
            refine fin ρ w (.slice none 0 0) ?_ (Den.sv _) (Stp.refl R)
            exact run_app_fits (base := none) ht hz (by rw [q2, dd.s]) q3 hu hs (k2 w) k3 (Nat.le_refl _) rfl
          · next hn =>
            split at e
            · next hg =>
              cases e
              obtain ⟨C, cs, j1, j2, jC, j3, j4, j5⟩ := grow none 0 0 [] dd.s (by rw [Nat.zero_add]; exact hg) (by rw [Nat.zero_add]; exact Nat.pos_of_ne_zero (fun q => hn q)) (by simp) rfl
              rw [Nat.zero_add] at j1
              refine fin _ _ _ j1 open_at (R.grow ?_)
              refine rowE_pre (RowD.mono (R.le_add w.heap.size C) k4') hs j2 jC (by simpa using j3) ?_
              intro j hj
              have := j5 j hj
              rwa [List.length_nil, Nat.zero_add] at this
            · cases e
        · -- a told capacity
          next b off len cc k =>
          obtain ⟨a, c', hr, hx⟩ := dd.sl
          have hx : η s = .slice (some ⟨a, off, none⟩) len cc := hx
          unfold appendCap at e
          split at e
          · next hfit =>
            have hfit := Nat.le_of_ble_eq_true hfit
            cases e1 : Ev.storeO σ b (off + len * size) r with
            | none => rw [e1] at e; cases e
            | some s2 =>
              rw [e1] at e
              cases e
              obtain ⟨w', j1, j2⟩ := R.storeO hr k4 e1
              refine fin ρ w' _ (run_app_fits (base := some ⟨a, off, none⟩) ht hz (by rw [q2, hx]) q3 hu hs (k2 w) k3 hfit ?_) (sl_at hr) j2
              rw [← addr_add] at j1
              exact j1
          · next hfit =>
            have hfit' : cc < len + n := by
              refine Nat.lt_of_not_le fun q => ?_
              rw [Nat.ble_eq_true_of_le q] at hfit
              cases hfit
            split at e
            · next hg =>
              have load : ∀ rr, loadN σ b off (len * size) = some rr → ∃ olds : List Value, olds.length = len * size ∧ RowD ρ rr olds ∧ (Builtin.firstCells size len (.slice (some ⟨a, off, none⟩) len cc)).run P w.drew = .ok olds.toArray w.drew := by
                intro rr hrr
                obtain ⟨us, p1, p2, p3⟩ := (R.heap (w' := w.drew) rfl).load hr hrr
                exact ⟨us, p1, p2, run_firstCells_some (P := P) w.drew size len ⟨a, off, none⟩ len cc us p1 (fun j v hv => by rw [addr_add]; exact p3 j v hv)⟩
              split at e
              · next h0 =>
                have h0 : off = 0 := Nat.eq_of_beq_eq_true h0
                subst h0
                cases e1 : σ.h.get b with
                | none => rw [e1] at e; cases e
                | some eo =>
                  rw [e1] at e
                  cases e2 : onto elem (len * size) r (some eo) with
                  | none => rw [e2] at e; cases e
                  | some xx =>
                    rw [e2] at e
                    cases e
                    -- what the block holds, is what is loaded
                    obtain ⟨a', c'', ob, p1, p2, p3⟩ := R.blk b eo e1
                    rw [hr] at p1
                    have p1a : a = a' := by cases p1; rfl
                    have p1c : c' = c'' := by cases p1; rfl
                    subst p1a p1c
                    obtain ⟨cs0, el0, hob, hm⟩ : ∃ cs0 el0, ob = .cells cs0 el0 (0, 0) ∧ len * size ≤ cs0.size := by
                      unfold onto at e2
                      split at e2
                      · next heq =>
                        cases heq
                        obtain ⟨cs0, m1, m2, m3, m4, m5⟩ := p3
                        split at e2
                        · next hm =>
                          have := Nat.le_of_ble_eq_true (Bool.and_eq_true_iff.1 hm).1
                          exact ⟨cs0, _, m1, by omega⟩
                        · cases e2
                      · next heq =>
                        cases heq
                        obtain ⟨cs0, m1, m2, m3, m4, m5⟩ := p3
                        split at e2
                        · next hm =>
                          have := Nat.le_of_ble_eq_true (Bool.and_eq_true_iff.1 hm).1
                          exact ⟨cs0, _, m1, by omega⟩
                        · cases e2
                      · cases e2
                    subst hob
                    have hlen : (cs0.toList.take (len * size)).length = len * size := by rw [List.length_take, Array.length_toList]; omega
                    have hcell : ∀ j v, (cs0.toList.take (len * size))[j]? = some v → w.drew.cell? ((⟨a, 0, none⟩ : Addr).add j) = some v := by
                      intro j v hv
                      have hj : j < len * size := by
                        have := (List.getElem?_eq_some_iff.1 hv).1
                        omega
                      rw [List.getElem?_take, if_pos hj, Array.getElem?_toList] at hv
                      rw [addr_add, Nat.zero_add]
                      have : w.drew.heap[a]? = some (.cells cs0 el0 (0, 0)) := p2
                      simp [World.cell?, this, hv]
                    obtain ⟨C, cs, j1, j2, jC, j3, j4, j5⟩ := grow _ _ _ _ hx hg hfit' hlen (run_firstCells_some (P := P) w.drew size len ⟨a, 0, none⟩ len cc _ hlen hcell)
                    refine fin _ _ _ j1 open_at (R.grow ?_)
                    rw [hlen] at j3 j4 j5
                    refine onto_D (R.le_add w.heap.size C) k4' e2 p3 hs j2 jC j3 ?_ j5
                    intro i hi
                    rw [j4 i hi, List.getElem?_take, if_pos hi, Array.getElem?_toList]
              · cases e1 : loadN σ b off (len * size) with
                | none => rw [e1] at e; cases e
                | some old =>
                  rw [e1] at e
                  cases e
                  obtain ⟨olds, p1, p2, p3⟩ := load old e1
                  obtain ⟨C, cs, j1, j2, jC, j3, j4, j5⟩ := grow _ _ _ olds hx hg hfit' p1 p3
                  refine fin _ _ _ j1 open_at (R.grow ?_)
                  refine rowE_pre (RowD.mono (R.le_add w.heap.size C) (cat_D p2 k4')) hs j2 jC (by rw [List.length_append]; exact j3) ?_
                  intro j hj
                  by_cases g : j < olds.length
                  · rw [j4 j g, List.getElem?_append_left g]
                  · rw [List.length_append] at hj
                    have := j5 (j - olds.length) (by omega)
                    rw [show olds.length + (j - olds.length) = j by omega] at this
                    rw [this, List.getElem?_append_right (by omega)]
            · cases e
        · -- an open one
          next b off len k =>
          obtain ⟨a, c', hr, hx⟩ := dd.sl
          have hx : η s = .slice (some ⟨a, off, none⟩) len (c' - k) := hx
          unfold appendOpen at e
          split at e
          · next el m ho =>
            split at e
            · next hg1 =>
              simp only [Bool.and_eq_true] at hg1
              obtain ⟨⟨hel, hoff⟩, hsz1⟩ := hg1
              have hel : el = elem := Nat.eq_of_beq_eq_true hel
              have hoff : off = k * size := Nat.eq_of_beq_eq_true hoff
              have hsz1 := Nat.le_of_ble_eq_true hsz1
              subst hel
              obtain ⟨sz, cs0, p1, p2, p3, p4, p5⟩ := R.openN hr ho
              have hsz : sz = size := by rw [hs] at p1; cases p1; rfl
              subst hsz
              split at e
              · next hfit =>
                have hfit := Nat.le_of_ble_eq_true hfit
                have hcap : len + n ≤ c' - k := by
                  have h1 : (k + (len + n)) * sz ≤ c' * sz := by rw [Nat.add_mul, ← hoff]; omega
                  have := Nat.le_of_mul_le_mul_right h1 hsz1
                  omega
                cases e1 : Ev.storeO σ b (off + len * sz) r with
                | none => rw [e1] at e; cases e
                | some s2 =>
                  rw [e1] at e
                  cases e
                  obtain ⟨w', j1, j2⟩ := R.storeO hr k4 e1
                  refine fin ρ w' _ (run_app_fits (base := some ⟨a, off, none⟩) ht hz (by rw [q2, hx]) q3 hu hs (k2 w) k3 hcap ?_) (sl_at hr) j2
                  rw [← addr_add] at j1
                  exact j1
              · split at e
                · next hg =>
                  simp only [Bool.and_eq_true] at hg
                  obtain ⟨⟨hk0, hg⟩, h1r⟩ := hg
                  have hk0 : k = 0 := Nat.eq_of_beq_eq_true hk0
                  subst hk0
                  have hoff : off = 0 := by rw [hoff, Nat.zero_mul]
                  subst hoff
                  rw [Nat.sub_zero] at hx
                  cases e1 : σ.h.get b with
                  | none => rw [e1] at e; cases e
                  | some eo =>
                    rw [e1] at e
                    cases e2 : onto el (len * sz) r (some eo) with
                    | none => rw [e2] at e; cases e
                    | some xx =>
                      rw [e2] at e
                      have hv : v = .sl (σ.drop b).nx 0 (len + n) none 0 := by cases e; rfl
                      have hσ : σ' = (σ.drop b).new xx := by cases e; rfl
                      clear e
                      subst hv hσ
                      obtain ⟨a', c'', ob, m1, m2, m3⟩ := R.blk b eo e1
                      rw [hr] at m1
                      have m1a : a = a' := by cases m1; rfl
                      have m1c : c' = c'' := by cases m1; rfl
                      subst m1a m1c
                      have hob : ob = .cells cs0 el (0, 0) := by rw [m2] at p2; cases p2; rfl
                      subst hob
                      have hm : len * sz ≤ cs0.size := by
                        unfold onto at e2
                        split at e2
                        · next heq =>
                          cases heq
                          obtain ⟨cs1, n1, n2, n3, n4, n5⟩ := m3
                          cases n1
                          split at e2
                          · next hm =>
                            have := Nat.le_of_ble_eq_true (Bool.and_eq_true_iff.1 hm).1
                            omega
                          · cases e2
                        · next heq =>
                          cases heq
                          obtain ⟨cs1, n1, n2, n3, n4, n5⟩ := m3
                          cases n1
                          split at e2
                          · next hm =>
                            have := Nat.le_of_ble_eq_true (Bool.and_eq_true_iff.1 hm).1
                            omega
                          · cases e2
                        · cases e2
                      have hin := R.inb b a c' hr
                      have hnone : ∀ j d, (σ.drop b).h.get j ≠ none → ρ j ≠ some (a, d) := by
                        intro j d hj hjr
                        rw [drop_get] at hj
                        by_cases g : j = b
                        · rw [if_pos g] at hj; exact hj rfl
                        · rw [if_neg g] at hj
                          exact g (R.inj j b a d c' hj (by rw [e1]; simp) hjr hr)
                      have hwr : Wrote ρ (σ.drop b).W a := ⟨b, List.mem_cons_self .., c', hr⟩
                      have RD := R.drop b
                      by_cases hfit : len + n ≤ c'
                      · -- it fits
                        have one := oneR_D k4 h1r
                        have hroom : len * sz + vs.length ≤ cs0.size := by
                          rw [k1, p4, ← Nat.add_mul]
                          exact Nat.mul_le_mul_right _ hfit
                        have hst := run_storeCells_at P a (len * sz) el vs 0 cs0 w p2 (by omega) one
                        have hsize := lay_size (cs := cs0) (o := len * sz) (vs := vs) hroom
                        have hat := lay_at (cs := cs0) (o := len * sz) (vs := vs) hroom
                        have ho2 : ObjD P (Rn.add ρ (σ.drop b).nx a c') c' xx (.cells (lay cs0 (len * sz) vs) el (0, 0)) := by
                          refine onto_D (RD.le_add a c') k4 e2 m3 hs (by rw [hsize]; exact p4) p5 (by rw [hsize]; exact hroom) ?_ ?_
                          · intro i hi
                            rw [hat, if_neg (by omega)]
                          · intro j hj
                            rw [hat, if_pos (by omega), Nat.add_sub_cancel_left]
                        refine fin _ _ _ (run_app_fits (base := some ⟨a, 0, none⟩) ht hz (by rw [q2, hx]) q3 hu hs (k2 w) k3 hfit ?_) open_at ((Stp.drop R b (by rw [e1]; simp)).trans (Stp.again RD hin hnone (setRow_set p2) ho2 hwr rfl rfl rfl))
                        show (storeCells ((⟨a, 0, none⟩ : Addr).add (len * sz)) vs).run P w = _
                        rw [addr_add, Nat.zero_add]
                        exact hst
                      · have hlen : (cs0.toList.take (len * sz)).length = len * sz := by rw [List.length_take, Array.length_toList]; omega
                        have hcell : ∀ j v, (cs0.toList.take (len * sz))[j]? = some v → w.drew.cell? ((⟨a, 0, none⟩ : Addr).add j) = some v := by
                          intro j v hv
                          have hj : j < len * sz := by
                            have := (List.getElem?_eq_some_iff.1 hv).1
                            omega
                          rw [List.getElem?_take, if_pos hj, Array.getElem?_toList] at hv
                          rw [addr_add, Nat.zero_add]
                          have : w.drew.heap[a]? = some (.cells cs0 el (0, 0)) := p2
                          simp [World.cell?, this, hv]
                        obtain ⟨C, cs, j1, j2, jC, j3, j4, j5⟩ := grow _ _ _ _ hx hg (Nat.lt_of_not_le hfit) hlen (run_firstCells_some (P := P) w.drew sz len ⟨a, 0, none⟩ len c' _ hlen hcell)
                        refine fin _ _ _ j1 (open_at (k := (σ.drop b).nx)) ((Stp.drop R b (by rw [e1]; simp)).trans (RD.grow ?_))
                        rw [hlen] at j3 j4 j5
                        refine onto_D (RD.le_add w.heap.size C) k4' e2 m3 hs j2 jC j3 ?_ j5
                        intro i hi
                        rw [j4 i hi, List.getElem?_take, if_pos hi, Array.getElem?_toList]
                · cases e
            · cases e
          · cases e
        · cases e
      · cases e
  · cases e
end Ev
end Go.Proofs.YtkfhapidoolfdaaGreatDoor

namespace Go.Proofs.YtkfhapidoolfdaaGreatDoor
open Go
namespace Ev
variable {P : Program}

theorem vals_D {ρ : Rn} : ∀ {es : List ME} {l0 l : List Go.MapEntry}, valsE es = some l0 → EntD ρ es l → l0.map (·.key) = l.map (·.key)
  | [], l0, l, e, d => by
    cases e
    rw [show l = [] from d]
  | m :: es, l0, l, e, d => by
    obtain ⟨k, v, r, h1, h2, h3, h4⟩ := d
    unfold valsE at e
    split at e
    · next a b q1 q2 =>
      cases e
      rw [h4, List.map_cons, List.map_cons, vals_D q2 h3, keyV_D q1 h1]
    · cases e
theorem asking_vals {kt : TypeId} {k : Value} : ∀ (l l' : List Go.MapEntry) (i : Nat) (w w1 : World) (r : Option (Nat × Value)), l.map (·.key) = l'.map (·.key) → (Instr.findAsking kt k l i).run P w = .ok r w1 →
    ∃ r', (Instr.findAsking kt k l' i).run P w = .ok r' w1 ∧ r'.map (·.1) = r.map (·.1) ∧ ∀ j v, r' = some (j, v) → i ≤ j ∧ (l'[j - i]?).map (·.val) = some v
  | [], [], i, w, w1, r, _, h => ⟨r, h, rfl, fun j v q => by
      rw [q] at h
      rw [Instr.findAsking, Sem.run_pure] at h
      cases h⟩
  | [], _ :: _, _, _, _, _, hk, _ => by cases hk
  | _ :: _, [], _, _, _, _, hk, _ => by cases hk
  | e :: l, e' :: l', i, w, w1, r, hk, h => by
    have hk1 : e.key = e'.key := by simpa using congrArg List.head? hk
    have hk2 : l.map (·.key) = l'.map (·.key) := by simpa using congrArg List.tail hk
    rw [Instr.findAsking, Sem.run_bind] at h
    rw [Instr.findAsking, Sem.run_bind, ← hk1]
    cases q : (Op.equal kt k e.key).run P w with
    | halt a b => rw [q] at h; cases h
    | ok b w' =>
      rw [q] at h
      simp only [Result.andThen] at h ⊢
      cases b with
      | true =>
        simp only [if_true, Sem.run_pure] at h ⊢
        cases h
        refine ⟨_, rfl, rfl, ?_⟩
        intro j v q
        cases q
        exact ⟨Nat.le_refl _, by rw [Nat.sub_self]; rfl⟩
      | false =>
        simp only [Bool.false_eq_true, if_false] at h ⊢
        obtain ⟨r', h1, h2, h3⟩ := asking_vals l l' (i + 1) w' w1 r hk2 h
        refine ⟨r', h1, h2, fun j v q => ?_⟩
        obtain ⟨g1, g2⟩ := h3 j v q
        refine ⟨by omega, ?_⟩
        rw [show j - i = (j - (i + 1)) + 1 by omega, List.getElem?_cons_succ]; exact g2
theorem now_vals {kd : TypeDesc} {k : Value} : ∀ (l l' : List Go.MapEntry) (i : Nat), l.map (·.key) = l'.map (·.key) →
    (Instr.findNow kd k l i = none → Instr.findNow kd k l' i = none) ∧ ∀ r, Instr.findNow kd k l i = some r → ∃ r', Instr.findNow kd k l' i = some r' ∧ r'.map (·.1) = r.map (·.1) ∧ ∀ j v, r' = some (j, v) → i ≤ j ∧ (l'[j - i]?).map (·.val) = some v
  | [], [], i, _ => ⟨fun h => h, fun r h => ⟨r, h, rfl, fun j v q => by rw [q] at h; cases h⟩⟩
  | [], _ :: _, _, hk => by cases hk
  | _ :: _, [], _, hk => by cases hk
  | e :: l, e' :: l', i, hk => by
    have hk1 : e.key = e'.key := by simpa using congrArg List.head? hk
    have hk2 : l.map (·.key) = l'.map (·.key) := by simpa using congrArg List.tail hk
    rw [Instr.findNow, Instr.findNow, ← hk1]
    cases q : Instr.sameNow kd k e.key with
    | none => exact ⟨fun _ => rfl, fun r h => by cases h⟩
    | some b =>
      cases b with
      | true =>
        refine ⟨(fun h => by cases h), fun r h => ?_⟩
        cases h
        refine ⟨_, rfl, rfl, fun j v q => ?_⟩
        cases q
        exact ⟨Nat.le_refl _, by rw [Nat.sub_self]; rfl⟩
      | false =>
        obtain ⟨h1, h2⟩ := now_vals l l' (i + 1) hk2
        refine ⟨h1, fun r h => ?_⟩
        obtain ⟨r', g1, g2, g3⟩ := h2 r h
        refine ⟨r', g1, g2, fun j v q => ?_⟩
        obtain ⟨g4, g5⟩ := g3 j v q
        refine ⟨by omega, ?_⟩
        rw [show j - i = (j - (i + 1)) + 1 by omega, List.getElem?_cons_succ]; exact g5
theorem find_run {ρ : Rn} {kt : TypeId} {k : EV} {kx : Value} {es : List ME} {l : List Go.MapEntry} {r : Option Nat} (e : findE P kt k es = some r) (d : EntD ρ es l) (dk : Den ρ k kx) (w : World) :
    ∃ r' : Option (Nat × Value), (Instr.findKey kt kx l).run P w = .ok r' w ∧ r'.map (·.1) = r ∧ ∀ j v, r' = some (j, v) → (l[j]?).map (·.val) = some v := by
  unfold findE at e
  split at e
  · next kv l0 h1 h2 =>
    split at e
    · next r0 h3 =>
      cases e
      have hk := vals_D h2 d
      rw [keyV_D h1 dk]
      have hr := semN_run (P := P) 99999 h3 w
      unfold Instr.findKey at hr ⊢
      rw [Sem.run_bind] at hr ⊢
      cases q : (underlying kt).run P w with
      | halt a b => rw [q] at hr; cases hr
      | ok kd w' =>
        rw [q] at hr
        simp only [Result.andThen] at hr ⊢
        obtain ⟨n1, n2⟩ := now_vals (kd := kd) (k := kv) l0 l 0 hk
        cases q2 : Instr.findNow kd kv l0 0 with
        | none =>
          rw [q2] at hr
          rw [n1 q2]
          obtain ⟨r', g1, g2, g3⟩ := asking_vals l0 l 0 w' w r0 hk hr
          exact ⟨r', g1, g2, fun j v q => by have := (g3 j v q).2; rwa [Nat.sub_zero] at this⟩
        | some rr =>
          rw [q2] at hr
          obtain ⟨r', g1, g2, g3⟩ := n2 rr q2
          rw [g1]
          simp only [Sem.run_pure] at hr ⊢
          cases hr
          exact ⟨r', rfl, g2, fun j v q => by have := (g3 j v q).2; rwa [Nat.sub_zero] at this⟩
    · cases e
  · cases e
theorem key_run {ρ : Rn} {kt : TypeId} {k : EV} {kx : Value} {empty : Bool} (e : keyOk P kt k empty = true) (dk : Den ρ k kx) (w : World) : (Instr.checkKey empty 10000 kt kx).run P w = .ok () w := by
  unfold keyOk at e
  split at e
  · next kv h1 =>
    rw [keyV_D h1 dk]
    cases q : semN P 99999 (Instr.checkKey empty 10000 kt kv) with
    | none => rw [q] at e; cases e
    | some u => exact semN_run (P := P) 99999 q w
  · cases e
theorem EntD.nth {ρ : Rn} : ∀ {es : List ME} {l : List Go.MapEntry} (_ : EntD ρ es l) (i : Nat) {e : ME}, es[i]? = some e → ∃ m, l[i]? = some m ∧ Den ρ e.key m.key ∧ Den ρ e.val m.val ∧ m.born = e.born
  | [], _, _, i, e, h => by cases i <;> cases h
  | a :: es, l, ⟨k, v, r, h1, h2, h3, h4⟩, 0, e, h => by
    cases h
    exact ⟨_, by rw [h4]; rfl, h1, h2, rfl⟩
  | a :: es, l, ⟨k, v, r, h1, h2, h3, h4⟩, i + 1, e, h => by
    obtain ⟨m, g1, g2⟩ := EntD.nth h3 i h
    exact ⟨m, by rw [h4]; exact g1, g2⟩
theorem EntD.set {ρ : Rn} : ∀ {es : List ME} {l : List Go.MapEntry} (_ : EntD ρ es l) (i : Nat) {k x : EV} {kx vx : Value} {b : Nat}, Den ρ k kx → Den ρ x vx → EntD ρ (es.set i ⟨k, x, b⟩) (l.set i ⟨kx, vx, b⟩)
  | [], l, h, i, _, _, _, _, _, _, _ => by rw [show l = [] from h]; exact rfl
  | a :: es, l, ⟨k, v, r, h1, h2, h3, h4⟩, 0, k', x', kx, vx, b, d1, d2 => by
    rw [h4]
    exact ⟨kx, vx, r, d1, d2, h3, rfl⟩
  | a :: es, l, ⟨k, v, r, h1, h2, h3, h4⟩, i + 1, k', x', kx, vx, b, d1, d2 => by
    rw [h4]
    exact ⟨k, v, _, h1, h2, EntD.set h3 i d1 d2, rfl⟩
theorem EntD.push {ρ : Rn} : ∀ {es : List ME} {l : List Go.MapEntry} (_ : EntD ρ es l) {k x : EV} {kx vx : Value} {b : Nat}, Den ρ k kx → Den ρ x vx → EntD ρ (es ++ [⟨k, x, b⟩]) (l ++ [⟨kx, vx, b⟩])
  | [], l, h, _, _, kx, vx, _, d1, d2 => by rw [show l = [] from h]; exact ⟨kx, vx, [], d1, d2, rfl, rfl⟩
  | a :: es, l, ⟨k, v, r, h1, h2, h3, h4⟩, k', x', kx, vx, b, d1, d2 => by
    rw [h4]
    exact ⟨k, v, _, h1, h2, EntD.push h3 d1 d2, rfl⟩
theorem EntD.erase {ρ : Rn} : ∀ {es : List ME} {l : List Go.MapEntry} (_ : EntD ρ es l) (i : Nat), EntD ρ (es.eraseIdx i) (l.eraseIdx i)
  | [], l, h, i => by rw [show l = [] from h]; exact rfl
  | a :: es, l, ⟨k, v, r, h1, h2, h3, h4⟩, 0 => by rw [h4]; exact h3
  | a :: es, l, ⟨k, v, r, h1, h2, h3, h4⟩, i + 1 => by
    rw [h4]
    exact ⟨k, v, _, h1, h2, EntD.erase h3 i, rfl⟩
theorem EntD.filter {ρ : Rn} (q : Nat → Bool) : ∀ {es : List ME} {l : List Go.MapEntry} (_ : EntD ρ es l), EntD ρ (es.filter fun e => q e.born) (l.filter fun m => q m.born)
  | [], l, h => by rw [show l = [] from h]; exact rfl
  | a :: es, l, ⟨k, v, r, h1, h2, h3, h4⟩ => by
    rw [h4, List.filter_cons, List.filter_cons]
    by_cases g : q a.born = true
    · rw [if_pos g, if_pos g]
      exact ⟨k, v, _, h1, h2, EntD.filter q h3, rfl⟩
    · rw [if_neg g, if_neg g]
      exact EntD.filter q h3
theorem EntD.all {ρ : Rn} (q : Nat → Bool) : ∀ {es : List ME} {l : List Go.MapEntry} (_ : EntD ρ es l), (l.all fun m => q m.born) = es.all fun e => q e.born
  | [], l, h => by rw [show l = [] from h]; rfl
  | a :: es, l, ⟨k, v, r, h1, h2, h3, h4⟩ => by rw [h4, List.all_cons, List.all_cons, EntD.all q h3]
theorem EntD.findIdx {ρ : Rn} (q : Nat → Bool) : ∀ {es : List ME} {l : List Go.MapEntry} (_ : EntD ρ es l), (l.findIdx? fun m => q m.born) = es.findIdx? fun e => q e.born
  | [], l, h => by rw [show l = [] from h]; rfl
  | a :: es, l, ⟨k, v, r, h1, h2, h3, h4⟩ => by
    rw [h4, List.findIdx?_cons, List.findIdx?_cons, EntD.findIdx q h3]
theorem EntD.find {ρ : Rn} (q : Nat → Bool) : ∀ {es : List ME} {l : List Go.MapEntry} (_ : EntD ρ es l) {e : ME}, (es.find? fun e => q e.born) = some e → ∃ m, (l.find? fun m => q m.born) = some m ∧ Den ρ e.key m.key ∧ Den ρ e.val m.val ∧ m.born = e.born
  | [], l, h, e, g => by cases g
  | a :: es, l, ⟨k, v, r, h1, h2, h3, h4⟩, e, g => by
    rw [List.find?_cons] at g
    rw [h4, List.find?_cons]
    cases q1 : q a.born with
    | true =>
      rw [q1] at g
      cases g
      exact ⟨⟨k, v, a.born⟩, rfl, h1, h2, rfl⟩
    | false =>
      rw [q1] at g
      obtain ⟨m, p1, p2⟩ := EntD.find q h3 g
      exact ⟨m, by simpa [q1] using p1, p2⟩
theorem modify_list {l : List Go.MapEntry} {i : Nat} {m : Go.MapEntry} (h : l[i]? = some m) (f : Go.MapEntry → Go.MapEntry) : l.toArray.modify i f = (l.set i (f m)).toArray := by
  apply Array.ext_getElem?
  intro j
  rw [Array.getElem?_modify, List.getElem?_toArray, List.getElem?_toArray, List.getElem?_set]
  by_cases g : i = j
  · subst g
    have hi : i < l.length := (List.getElem?_eq_some_iff.1 h).1
    rw [if_pos rfl, if_pos rfl, if_pos hi, h]; rfl
  · rw [if_neg g, if_neg g]
end Ev
end Go.Proofs.YtkfhapidoolfdaaGreatDoor

namespace Go.Proofs.YtkfhapidoolfdaaGreatDoor
open Go
namespace Ev
variable {P : Program}

theorem mapE_D {ρ : Rn} {σ : St} {w : World} (R : Rep P ρ σ w) {m : EV} {x : Value} {es : List ME} {cl : Nat} (d : Den ρ m x) (e : mapE σ m = some (es, cl)) :
    (x = .map none ∧ es = [] ∧ cl = 0) ∨ ∃ b a c l, m = .m b ∧ ρ b = some (a, c) ∧ x = .map (some a) ∧ σ.h.get b = some (.m es cl) ∧ w.heap[a]? = some (.map l.toArray cl) ∧ EntD ρ es l := by
  unfold mapE at e
  split at e
  · next b =>
    split at e
    · next es' cl' hk =>
      cases e
      obtain ⟨a, c, hr, hx⟩ := d.m
      obtain ⟨l, h1, h2⟩ := R.map hr hk
      exact .inr ⟨b, a, c, l, rfl, hr, hx, hk, h1, h2⟩
    · cases e
  · cases e
    exact .inl ⟨d.s, rfl, rfl⟩
  · cases e
theorem isEmpty_D {ρ : Rn} {es : List ME} {l : List Go.MapEntry} (d : EntD ρ es l) : l.isEmpty = es.isEmpty := by
  have := d.len
  cases es <;> cases l <;> first | rfl | (simp at this)
/-- a map's value, and what it holds -/
def Holds (w : World) (x : Value) (l : List Go.MapEntry) : Prop := (x = .map none ∧ l = []) ∨ ∃ a cl, x = .map (some a) ∧ w.heap[a]? = some (.map l.toArray cl)
theorem mapE_H {ρ : Rn} {σ : St} {w : World} (R : Rep P ρ σ w) {m : EV} {x : Value} {es : List ME} {cl : Nat} (d : Den ρ m x) (e : mapE σ m = some (es, cl)) : ∃ l, Holds w x l ∧ EntD ρ es l := by
  rcases mapE_D R d e with ⟨h1, h2, _⟩ | ⟨b, a, c, l, h1, h2, h3, h4, h5, h6⟩
  · subst h2; exact ⟨[], .inl ⟨h1, rfl⟩, rfl⟩
  · exact ⟨l, .inr ⟨a, cl, h3, h5⟩, h6⟩
theorem run_lookup {w : World} {t kt elem : TypeId} {x k : Value} {ok : Bool} {l : List Go.MapEntry} {r : Option (Nat × Value)} {u : Value} {b : Bool} (hu : underE P t = some (.map kt elem)) (hx : Holds w x l) (hk : (Instr.checkKey l.isEmpty 10000 kt k).run P w = .ok () w) (hf : (Instr.findKey kt k l).run P w = .ok r w)
    (hr : (∃ i, r = some (i, u) ∧ b = true) ∨ (r = none ∧ (zeroValue elem).run P w = .ok u w ∧ b = false)) : (Instr.lookup t x k ok).run P w = .ok (if ok = true then .tuple #[u, .bool b] else u) w := by
  rcases hr with ⟨i, rfl, rfl⟩ | ⟨rfl, hz, rfl⟩
  · rcases hx with ⟨rfl, rfl⟩ | ⟨a, cl, rfl, h1⟩
    · have hk' : (Instr.checkKey (#[] : Array Go.MapEntry).isEmpty 10000 kt k).run P w = .ok () w := hk
      have hf' : (Instr.findKey kt k (#[] : Array Go.MapEntry).toList).run P w = .ok (some (i, u)) w := hf
      cases ok <;> simp only [Instr.lookup, Sem.run_bind, run_underE hu, hk', hf', Result.andThen, Sem.run_pure, if_true, Bool.false_eq_true, if_false]
    · rw [← List.isEmpty_toArray] at hk
      cases ok <;> simp only [Instr.lookup, Sem.run_bind, run_underE hu, run_getMap h1, hk, hf, Result.andThen, Sem.run_pure, if_true, Bool.false_eq_true, if_false]
  · rcases hx with ⟨rfl, rfl⟩ | ⟨a, cl, rfl, h1⟩
    · have hk' : (Instr.checkKey (#[] : Array Go.MapEntry).isEmpty 10000 kt k).run P w = .ok () w := hk
      have hf' : (Instr.findKey kt k (#[] : Array Go.MapEntry).toList).run P w = .ok none w := hf
      cases ok <;> simp only [Instr.lookup, Sem.run_bind, run_underE hu, hk', hf', hz, Result.andThen, Sem.run_pure, if_true, Bool.false_eq_true, if_false]
    · rw [← List.isEmpty_toArray] at hk
      cases ok <;> simp only [Instr.lookup, Sem.run_bind, run_underE hu, run_getMap h1, hk, hf, hz, Result.andThen, Sem.run_pure, if_true, Bool.false_eq_true, if_false]
theorem Den.two {ρ : Rn} {a b : EV} {u v : Value} (h1 : Den ρ a u) (h2 : Den ρ b v) : Den ρ (.t [a, b]) (.tuple #[u, v]) := by
  simp only [Den]
  exact ⟨[u, v], Dens.mk h1 (Dens.mk h2 Dens.nilm), rfl⟩
theorem found {r' : Option (Nat × Value)} {i : Nat} {l : List Go.MapEntry} {m : Go.MapEntry} (h1 : r'.map (·.1) = some i) (h2 : ∀ j v, r' = some (j, v) → (l[j]?).map (·.val) = some v) (h3 : l[i]? = some m) : r' = some (i, m.val) := by
  cases r' with
  | none => cases h1
  | some q =>
    obtain ⟨j, v⟩ := q
    have hj : j = i := by simpa using h1
    subst hj
    have := h2 j v rfl
    rw [h3] at this
    have : m.val = v := by simpa using this
    rw [this]
theorem op_lookup {o : Oper} {t : TypeId} {x ix : Operand} {ok : Bool} (h : o.op = .lookup t x ix ok) : OpOk P o (lookupF P t x ix ok) := by
  intro ρ tm σ w η v σ' R D e
  have dx := D x
  have dk := D ix
  rw [lookupF] at e
  generalize ev tm x = m at e dx
  generalize ev tm ix = k at e dk
  cases e1 : lookupE P t m k ok σ with
  | none => rw [e1] at e; cases e
  | some r =>
    rw [e1] at e
    have e2 : r = v := by cases e; rfl
    have e3 : σ = σ' := by cases e; rfl
    subst e2 e3
    clear e
    unfold lookupE at e1
    split at e1
    · next kt elem es cl hu hm =>
      obtain ⟨l, hl, hes⟩ := mapE_H R dx hm
      have fin : ∀ u b, (Instr.lookup t (η x) (η ix) ok).run P w = .ok (if ok = true then .tuple #[u, .bool b] else u) w → Den ρ r (if ok = true then .tuple #[u, .bool b] else u) → ∃ ρ' w' n, (execOp η o).run P w = .ok n w' ∧ Ends ρ' r n ∧ Stp P ρ σ w ρ' σ w' := by
        intro u b h1 h2
        refine val_ok R ?_ h2
        rw [execOp, h]
        simp only [Sem.run_bind, h1, Result.andThen, Sem.run_pure]
      split at e1
      · next i hk hf =>
        split at e1
        · next e hi =>
          cases e1
          obtain ⟨r', g1, g2, g3⟩ := find_run hf hes dk w
          obtain ⟨me, p1, p2, p3, p4⟩ := hes.nth i hi
          have hr' := found g2 g3 p1
          have hkr := key_run hk dk w
          rw [← isEmpty_D hes] at hkr
          refine fin me.val true (run_lookup hu hl hkr g1 (.inl ⟨i, hr', rfl⟩)) ?_
          cases ok with
          | true => exact Den.two p3 (Den.sv _)
          | false => exact p3
        · cases e1
      · next hk hf =>
        split at e1
        · next z hz =>
          cases e1
          obtain ⟨r', g1, g2, g3⟩ := find_run hf hes dk w
          have hr' : r' = none := by
            cases r' with
            | none => rfl
            | some q => cases g2
          obtain ⟨u, z1, z2⟩ := run_zeroE hz
          have hkr := key_run hk dk w
          rw [← isEmpty_D hes] at hkr
          refine fin u false (run_lookup hu hl hkr g1 (.inr ⟨hr', z1 w, rfl⟩)) ?_
          cases ok with
          | true => exact Den.two (z2 ρ) (Den.sv _)
          | false => exact z2 ρ
        · cases e1
      · cases e1
    · cases e1
theorem stays_run {ρ : Rn} {a b : EV} {u v : Value} (e : stays a b = true) (d1 : Den ρ a u) (d2 : Den ρ b v) (w : World) : (Instr.keyThatStays u v).run P w = .ok v w := by
  unfold stays at e
  split at e
  · next x y h1 h2 =>
    rw [keyV_D h1 d1, keyV_D h2 d2]
    simp only [Instr.keyThatStays, e, if_true, Sem.run_pure]
  · cases e
theorem update_run (c : Go.MapEntry) {w : World} {t kt el : TypeId} {a cl : Nat} {l : List Go.MapEntry} {k v : Value} {r : Option (Nat × Value)} (hu : underE P t = some (.map kt el)) (hm : w.heap[a]? = some (.map l.toArray cl)) (hk : (Instr.checkKey false 10000 kt k).run P w = .ok () w) (hf : (Instr.findKey kt k l).run P w = .ok r w) :
    (r = none → (Instr.mapUpdate t (.map (some a)) k v).run P w = .ok () { w with heap := w.heap.setIfInBounds a (.map (l ++ [(⟨k, v, cl⟩ : Go.MapEntry)]).toArray (cl + 1)) }) ∧
    (∀ i u, r = some (i, u) → l[i]? = some c → (Instr.keyThatStays c.key k).run P w = .ok k w → (Instr.mapUpdate t (.map (some a)) k v).run P w = .ok () { w with heap := w.heap.setIfInBounds a (.map (l.set i ⟨k, v, c.born⟩).toArray cl) }) := by
  constructor
  · intro hr
    subst hr
    simp only [Instr.mapUpdate, Sem.run_bind, run_underE hu, run_getMap hm, hk, hf, Result.andThen, run_setMap hm, List.push_toArray]
  · intro i u hr hc hs
    subst hr
    have hc' : l.toArray[i]? = some c := by rw [List.getElem?_toArray]; exact hc
    simp only [Instr.mapUpdate, Sem.run_bind, run_underE hu, run_getMap hm, hk, hf, Result.andThen, hc', Option.map_some, Option.getD_some, hs, run_setMap hm, modify_list hc]
theorem op_update {o : Oper} {t : TypeId} {m k x : Operand} (h : o.op = .mapUpdate t m k x ∨ o.op = .insert t m k x) : OpOk P o (updateF P t m k x) := by
  intro ρ tm σ w η v σ' R D e
  have dm := D m
  have dk := D k
  have dv := D x
  rw [updateF] at e
  generalize ev tm m = me at e dm
  generalize ev tm k = ke at e dk
  generalize ev tm x = xe at e dv
  have fin : ∀ w' (a : Nat), η m = .map (some a) → v = .s undef → (Instr.mapUpdate t (.map (some a)) (η k) (η x)).run P w = .ok () w' → Stp P ρ σ w ρ σ' w' → ∃ ρ' w' n, (execOp η o).run P w = .ok n w' ∧ Ends ρ' v n ∧ Stp P ρ σ w ρ' σ' w' := by
    intro w' a ha h0 h1 h2
    rw [← ha] at h1
    refine ⟨ρ, w', .skip, ?_, .inr ⟨rfl, h0⟩, h2⟩
    rcases h with h | h
    · rw [execOp, h]
      simp only [Sem.run_bind, h1, Result.andThen, Sem.run_pure]
    · rw [execOp, h]
      simp only [Sem.run_bind, h1, Result.andThen, Sem.run_pure]
  unfold updateE at e
  split at e
  · next b kt el es cl hu hm =>
    rcases mapE_D R dm hm with ⟨h1, _, _⟩ | ⟨b', a, c, l, h1, h2, h3, h4, h5, h6⟩
    · obtain ⟨_, _, _, h2⟩ := dm.m
      rw [h1] at h2
      cases h2
    · cases h1
      split at e
      · next i hk hf =>
        split at e
        · next en hi =>
          split at e
          · next hs =>
            cases e
            obtain ⟨r', g1, g2, g3⟩ := find_run hf h6 dk w
            obtain ⟨mm, p1, p2, p3, p4⟩ := h6.nth i hi
            have hr' := found g2 g3 p1
            have run := (update_run (v := η x) mm hu h5 (key_run hk dk w) g1).2 i _ hr' p1 (stays_run hs p2 dk w)
            refine fin _ a h3 rfl run (Stp.set R h4 h2 rfl ⟨_, rfl, ?_⟩ rfl rfl rfl)
            rw [p4]
            exact h6.set i dk dv
          · cases e
        · cases e
      · next hk hf =>
        cases e
        obtain ⟨r', g1, g2, g3⟩ := find_run hf h6 dk w
        have hr' : r' = none := by
          cases r' with
          | none => rfl
          | some q => cases g2
        have run := (update_run (v := η x) default hu h5 (key_run hk dk w) g1).1 hr'
        exact fin _ a h3 rfl run (Stp.set R h4 h2 rfl ⟨_, rfl, h6.push dk dv⟩ rfl rfl rfl)
      · cases e
  · cases e
theorem entry_run (c : Go.MapEntry) {w : World} {t kt el : TypeId} {a cl : Nat} {l : List Go.MapEntry} {k : Value} {r : Option (Nat × Value)} (hu : underE P t = some (.map kt el)) (hm : w.heap[a]? = some (.map l.toArray cl)) (hk : (Instr.checkKey false 10000 kt k).run P w = .ok () w) (hf : (Instr.findKey kt k l).run P w = .ok r w) :
    (∀ z, r = none → (zeroValue el).run P w = .ok z w → (Instr.mapEntry t (.map (some a)) k).run P w = .ok (.tuple #[z, goInt cl]) { w with heap := w.heap.setIfInBounds a (.map (l ++ [(⟨k, z, cl⟩ : Go.MapEntry)]).toArray (cl + 1)) }) ∧
    (∀ i u, r = some (i, u) → l[i]? = some c → (Instr.keyThatStays c.key k).run P w = .ok k w → (Instr.mapEntry t (.map (some a)) k).run P w = .ok (.tuple #[u, goInt c.born]) { w with heap := w.heap.setIfInBounds a (.map (l.set i ⟨k, c.val, c.born⟩).toArray cl) }) := by
  constructor
  · intro z hr hz
    subst hr
    simp only [Instr.mapEntry, Sem.run_bind, run_underE hu, run_getMap hm, hk, hf, hz, Result.andThen, run_setMap hm, List.push_toArray, Sem.run_pure]
  · intro i u hr hc hs
    subst hr
    have hc' : l.toArray[i]? = some c := by rw [List.getElem?_toArray]; exact hc
    simp only [Instr.mapEntry, Sem.run_bind, run_underE hu, run_getMap hm, hk, hf, Result.andThen, hc', Option.map_some, Option.getD_some, hs, run_setMap hm, modify_list hc, Sem.run_pure]
theorem op_mapEntry {o : Oper} {t : TypeId} {m k : Operand} (h : o.op = .mapEntry t m k) : OpOk P o (entryF P t m k) := by
  intro ρ tm σ w η v σ' R D e
  have dm := D m
  have dk := D k
  rw [entryF] at e
  generalize ev tm m = me at e dm
  generalize ev tm k = ke at e dk
  have fin : ∀ w' (a : Nat) (u : Value), η m = .map (some a) → (Instr.mapEntry t (.map (some a)) (η k)).run P w = .ok u w' → Den ρ v u → Stp P ρ σ w ρ σ' w' → ∃ ρ' w' n, (execOp η o).run P w = .ok n w' ∧ Ends ρ' v n ∧ Stp P ρ σ w ρ' σ' w' := by
    intro w' a u ha h1 h0 h2
    rw [← ha] at h1
    refine ⟨ρ, w', .value u, ?_, .inl ⟨_, rfl, h0⟩, h2⟩
    rw [execOp, h]
    simp only [Sem.run_bind, h1, Result.andThen, Sem.run_pure]
  unfold entryE at e
  split at e
  · next b kt el es cl hu hm =>
    rcases mapE_D R dm hm with ⟨h1, _, _⟩ | ⟨b', a, c, l, h1, h2, h3, h4, h5, h6⟩
    · obtain ⟨_, _, _, h2⟩ := dm.m
      rw [h1] at h2
      cases h2
    · cases h1
      split at e
      · next i hk hf =>
        split at e
        · next en hi =>
          split at e
          · next hs =>
            cases e
            obtain ⟨r', g1, g2, g3⟩ := find_run hf h6 dk w
            obtain ⟨mm, p1, p2, p3, p4⟩ := h6.nth i hi
            have hr' := found g2 g3 p1
            have run := (entry_run mm hu h5 (key_run hk dk w) g1).2 i _ hr' p1 (stays_run hs p2 dk w)
            refine fin _ a _ h3 run ?_ (Stp.set R h4 h2 rfl ⟨_, rfl, ?_⟩ rfl rfl rfl)
            · rw [p4]; exact Den.two p3 (Den.sv _)
            · rw [p4]
              exact h6.set i dk p3
          · cases e
        · cases e
      · next hk hf =>
        split at e
        · next z hz =>
          cases e
          obtain ⟨r', g1, g2, g3⟩ := find_run hf h6 dk w
          have hr' : r' = none := by
            cases r' with
            | none => rfl
            | some q => cases g2
          obtain ⟨u, z1, z2⟩ := run_zeroE hz
          have run := (entry_run default hu h5 (key_run hk dk w) g1).1 u hr' (z1 w)
          exact fin _ a _ h3 run (Den.two (z2 ρ) (Den.sv _)) (Stp.set R h4 h2 rfl ⟨_, rfl, h6.push dk (z2 ρ)⟩ rfl rfl rfl)
        · cases e
      · cases e
  · cases e
theorem op_entryStore {o : Oper} {t : TypeId} {m s x : Operand} (h : o.op = .entryStore t m s x) : OpOk P o (entryStoreF m s x) := by
  intro ρ tm σ w η v σ' R D e
  have dm := D m
  have ds := D s
  have dv := D x
  rw [entryStoreF] at e
  generalize ev tm m = me at e dm
  generalize ev tm s = se at e ds
  generalize ev tm x = xe at e dv
  unfold entryStoreE at e
  split at e
  · next b kk born es cl hm =>
    rcases mapE_D R dm hm with ⟨h1, _, _⟩ | ⟨b', a, c, l, h1, h2, h3, h4, h5, h6⟩
    · obtain ⟨_, _, _, h2⟩ := dm.m
      rw [h1] at h2
      cases h2
    · cases h1
      split at e
      · next i hf =>
        split at e
        · next en hi =>
          cases e
          obtain ⟨mm, p1, p2, p3, p4⟩ := h6.nth i hi
          have hf' : l.toArray.findIdx? (fun e => (e.born : Int) == born) = some i := by
            rw [List.findIdx?_toArray, ← hf]
            exact h6.findIdx (fun n => (n : Int) == born)
          refine ⟨ρ, { w with heap := w.heap.setIfInBounds a (.map (l.set i ⟨mm.key, η x, mm.born⟩).toArray cl) }, .skip, ?_, .inr ⟨rfl, rfl⟩, Stp.set R h4 h2 rfl ⟨_, rfl, ?_⟩ rfl rfl rfl⟩
          · rw [execOp, h]
            simp only [Instr.entryStore, h3, ds.s, asInt, asIntOf, Sem.run_bind, run_getMap h5, Result.andThen, hf', run_setMap h5, modify_list p1, Sem.run_pure]
          · rw [p4]
            exact h6.set i p2 dv
        · cases e
      · cases e
  · cases e
theorem op_delete {o : Oper} {c : Go.Call} {m k : Operand} {t : TypeId} {ts : List TypeId} (h : o.op = .call c) (hb : c.callee = .builtin .delete) (ha : c.args.toList = [m, k]) (ht : c.argTypes.toList = t :: ts) : OpOk P o (deleteF P t m k) := by
  intro ρ tm σ w η v σ' R D e
  have dm := D m
  have dk := D k
  obtain ⟨q1, q2, q3⟩ := args2 ha ht η
  rw [deleteF] at e
  generalize ev tm m = me at e dm
  generalize ev tm k = ke at e dk
  have fin : ∀ w', v = .t [] → (Builtin.delete_ c.argTypes o.type (c.args.map η)).run P w = .ok (.tuple #[]) w' → Stp P ρ σ w ρ σ' w' → ∃ ρ' w' n, (execOp η o).run P w = .ok n w' ∧ Ends ρ' v n ∧ Stp P ρ σ w ρ' σ' w' := by
    intro w' h0 h1 h2
    obtain ⟨kk, h4⟩ := builtin_run (P := P) h hb η w
    refine ⟨ρ, w', .value (.tuple #[]), ?_, .inl ⟨_, rfl, ?_⟩, h2⟩
    · rw [h4]
      simp only [builtin, Sem.run_bind, h1, Result.andThen, Sem.run_pure]
    · rw [h0]; simp only [Den]; exact ⟨[], Dens.nilm, rfl⟩
  unfold deleteE at e
  split at e
  · next kt el es cl hu hm =>
    split at e
    · next b i hk hf =>
      cases e
      rcases mapE_D R dm hm with ⟨h1, _, _⟩ | ⟨b', a, c', l, h1, h2, h3, h4, h5, h6⟩
      · obtain ⟨_, _, _, h2⟩ := dm.m
        rw [h1] at h2
        cases h2
      · cases h1
        obtain ⟨r', g1, g2, g3⟩ := find_run hf h6 dk w
        have hkr := key_run hk dk w
        rw [← isEmpty_D h6, ← List.isEmpty_toArray] at hkr
        obtain ⟨u, hr'⟩ : ∃ u, r' = some (i, u) := by
          cases r' with
          | none => cases g2
          | some q =>
            obtain ⟨j, u⟩ := q
            have : j = i := by simpa using g2
            exact ⟨u, by rw [this]⟩
        subst hr'
        refine fin { w with heap := w.heap.setIfInBounds a (.map (l.eraseIdx i).toArray cl) } rfl ?_ (Stp.set R h4 h2 rfl ⟨_, rfl, h6.erase i⟩ rfl rfl rfl)
        simp only [Builtin.delete_, q1, q2, q3, Sem.run_bind, run_underE hu, h3, run_getMap h5, hkr, g1, Result.andThen, run_setMap h5, List.eraseIdxIfInBounds_toArray, Sem.run_pure]
    · next b hk hf =>
      cases e
      rcases mapE_D R dm hm with ⟨h1, _, _⟩ | ⟨b', a, c', l, h1, h2, h3, h4, h5, h6⟩
      · obtain ⟨_, _, _, h2⟩ := dm.m
        rw [h1] at h2
        cases h2
      · cases h1
        obtain ⟨r', g1, g2, g3⟩ := find_run hf h6 dk w
        have hkr := key_run hk dk w
        rw [← isEmpty_D h6, ← List.isEmpty_toArray] at hkr
        have hr' : r' = none := by
          cases r' with
          | none => rfl
          | some q => cases g2
        subst hr'
        refine fin { w with heap := w.heap.setIfInBounds a (.map l.toArray cl) } rfl ?_ (Stp.set R h4 h2 rfl ⟨_, rfl, h6⟩ rfl rfl rfl)
        simp only [Builtin.delete_, q1, q2, q3, Sem.run_bind, run_underE hu, h3, run_getMap h5, hkr, g1, Result.andThen, run_setMap h5, Sem.run_pure]
    · cases e
  · cases e
end Ev
end Go.Proofs.YtkfhapidoolfdaaGreatDoor

namespace Go.Proofs.YtkfhapidoolfdaaGreatDoor
open Go
namespace Ev
variable {P : Program}

theorem op_range {o : Oper} {t : TypeId} {x : Operand} (h : o.op = .range t x) : OpOk P o (rangeF P t x) := by
  intro ρ tm σ w η v σ' R D e
  have dx := D x
  rw [rangeF] at e
  generalize ev tm x = y at e dx
  have fin : ∀ (ob : Obj), (Instr.range t (η x)).run P w = .ok (.pointer (some ⟨w.heap.size, 0, none⟩)) { w with heap := w.heap.push ob } → ∀ eo, v = .p σ.nx 0 → σ' = σ.new eo → ObjD P (Rn.add ρ σ.nx w.heap.size 0) 0 eo ob → ∃ ρ' w' n, (execOp η o).run P w = .ok n w' ∧ Ends ρ' v n ∧ Stp P ρ σ w ρ' σ' w' := by
    intro ob h1 eo h2 h3 h4
    subst h2 h3
    refine ⟨_, _, .value (.pointer (some ⟨w.heap.size, 0, none⟩)), ?_, .inl ⟨_, rfl, Den.new 0⟩, Stp.new (c := 0) (w' := { w with heap := w.heap.push ob }) R rfl h4 rfl rfl rfl⟩
    rw [execOp, h]
    simp only [Sem.run_bind, h1, Result.andThen, Sem.run_pure]
  unfold rangeE at e
  split at e
  · next s hu =>
    cases e
    refine fin (.stringIter s 0) ?_ _ rfl rfl rfl
    simp only [Instr.range, dx.s, Sem.run_bind, run_underE hu, Result.andThen, Sem.run_pure, run_newObj]
  · next hu =>
    cases e
    refine fin (.mapIter none 0 #[] 0) ?_ _ rfl rfl rfl
    simp only [Instr.range, dx.s, Sem.run_bind, run_underE hu, Result.andThen, Sem.run_pure, run_newObj]
  · next b hu =>
    split at e
    · next es cl hk =>
      cases e
      obtain ⟨a, c, hr, hx⟩ := dx.m
      obtain ⟨l, h1, h2⟩ := R.map hr hk
      refine fin (.mapIter (some a) cl #[] cl) ?_ _ rfl rfl ⟨a, c, R.le_add _ _ _ _ hr, rfl⟩
      simp only [Instr.range, hx, Sem.run_bind, run_underE hu, run_getMap h1, Result.andThen, Sem.run_pure, run_newObj]
    · cases e
  · cases e
theorem run_getIter {w : World} {r : Nat} {m : Option Nat} {s : Nat} {seen : Array Nat} {c : Nat} (h : w.heap[r]? = some (.mapIter m s seen c)) : (getObj r).run P w = .ok (.mapIter m s seen c) w := by
  simp [getObj, Sem.run, h]
theorem run_setIter {w : World} {r : Nat} {m : Option Nat} {s : Nat} {seen : Array Nat} {c : Nat} (h : w.heap[r]? = some (.mapIter m s seen c)) (o : Obj) : (setObj r o).run P w = .ok () { w with heap := w.heap.setIfInBounds r o } := by
  simp [setObj, Sem.run, h]
theorem run_getSi {w : World} {r : Nat} {s : ByteArray} {p : Nat} (h : w.heap[r]? = some (.stringIter s p)) : (getObj r).run P w = .ok (.stringIter s p) w := by
  simp [getObj, Sem.run, h]
theorem run_setSi {w : World} {r : Nat} {s : ByteArray} {p : Nat} (h : w.heap[r]? = some (.stringIter s p)) (o : Obj) : (setObj r o).run P w = .ok () { w with heap := w.heap.setIfInBounds r o } := by
  simp [setObj, Sem.run, h]
theorem run_choose1 (w : World) : (choose (.mapNext 1)).run P w = .ok 0 w := rfl
theorem Den.one {ρ : Rn} {a : EV} {u : Value} (h1 : Den ρ a u) : Den ρ (.t [a]) (.tuple #[u]) := by
  simp only [Den]
  exact ⟨[u], Dens.mk h1 Dens.nilm, rfl⟩
theorem Den.three {ρ : Rn} {a b c : EV} {u v x : Value} (h1 : Den ρ a u) (h2 : Den ρ b v) (h3 : Den ρ c x) : Den ρ (.t [a, b, c]) (.tuple #[u, v, x]) := by
  simp only [Den]
  exact ⟨[u, v, x], Dens.mk h1 (Dens.mk h2 (Dens.mk h3 Dens.nilm)), rfl⟩
theorem contains_arr (l : List Nat) (n : Nat) : l.toArray.contains n = l.contains n := by simp
theorem op_next {o : Oper} {it : Operand} {str : Bool} (h : o.op = .next it str) : OpOk P o (nextF it str) := by
  intro ρ tm σ w η v σ' R D e
  have dx := D it
  rw [nextF] at e
  generalize ev tm it = y at e dx
  have fin : ∀ (u : Value) (w' : World), (Instr.next (η it) str o.type).run P w = .ok u w' → Den ρ v u → Stp P ρ σ w ρ σ' w' → ∃ ρ' w' n, (execOp η o).run P w = .ok n w' ∧ Ends ρ' v n ∧ Stp P ρ σ w ρ' σ' w' := by
    intro u w' h1 h2 h3
    refine ⟨ρ, w', .value u, ?_, .inl ⟨_, rfl, h2⟩, h3⟩
    rw [execOp, h]
    simp only [Sem.run_bind, h1, Result.andThen, Sem.run_pure]
  unfold nextE at e
  split at e
  · next r =>
    obtain ⟨a, c, hr, hx⟩ := dx.p
    split at e
    · next s pos hk =>
      obtain ⟨a', c', ob, p1, p2, p3⟩ := R.blk r _ hk
      rw [hr] at p1
      cases p1
      have p3 : ob = .stringIter s pos := p3
      subst p3
      split at e
      · next hl =>
        cases e
        have hl := Nat.le_of_ble_eq_true hl
        have hlt : pos < s.size := hl
        refine fin (.tuple #[.bool true, goInt pos, .int .i32 (Utf8.decode s pos).1]) { w with heap := w.heap.setIfInBounds a (.stringIter s (pos + (Utf8.decode s pos).2)) } ?_ (Den.three (Den.sv _) (Den.sv _) (Den.sv _)) (Stp.set R hk hr rfl rfl rfl rfl rfl)
        simp only [Instr.next, hx, Sem.run_bind, run_getSi p2, Result.andThen, if_pos hlt, run_setSi p2, Sem.run_pure]
      · next hl =>
        cases e
        have hlt : ¬ pos < s.size := fun q => by
          have : Nat.ble (pos + 1) s.size = true := Nat.ble_eq_true_of_le q
          rw [this] at hl
          cases hl
        refine fin (.tuple #[.bool false]) w ?_ (Den.one (Den.sv _)) (Stp.refl R)
        simp only [Instr.next, hx, Sem.run_bind, run_getSi p2, Result.andThen, if_neg hlt, Sem.run_pure]
    · next hk =>
      cases e
      obtain ⟨a', c', ob, p1, p2, p3⟩ := R.blk r _ hk
      rw [hr] at p1
      cases p1
      have p3 := p3
      subst p3
      refine fin (.tuple #[.bool false]) w ?_ (Den.one (Den.sv _)) (Stp.refl R)
      simp only [Instr.next, hx, Sem.run_bind, run_getIter p2, Result.andThen, Sem.run_pure]
    · next mb since seen last hk =>
      obtain ⟨a', c', ob, p1, p2, a2, d2, p3, p4⟩ := R.blk r _ hk
      rw [hr] at p1
      cases p1
      subst p4
      split at e
      · next es cl hm =>
        obtain ⟨l, m1, m2⟩ := R.map p3 hm
        split at e
        · cases e
        · next hgone =>
          have hgone' : (!seen.toArray.isEmpty && !l.toArray.isEmpty && l.toArray.all (fun e => decide (e.born ≥ last))) = false := by
            rw [List.isEmpty_toArray, List.isEmpty_toArray, isEmpty_D m2, List.all_toArray, m2.all (fun n => decide (n ≥ last)), ← hgone]
            congr 1
            apply List.all_congr rfl
            intro n
            rw [Bool.eq_iff_iff, decide_eq_true_iff]
            exact ⟨fun q => Nat.ble_eq_true_of_le q, fun q => Nat.le_of_ble_eq_true q⟩
          have hleft := m2.filter (fun n => !seen.contains n)
          have hl' : l.toArray.filter (fun e => !seen.toArray.contains e.born) = (l.filter fun e => !seen.contains e.born).toArray := by
            rw [List.filter_toArray']
            · congr 1
              apply List.filter_congr
              intro e _
              rw [contains_arr]
            · simp
          have gone : ¬ ((!seen.toArray.isEmpty && !l.toArray.isEmpty && l.toArray.all (fun e => decide (e.born ≥ last))) = true) := by rw [hgone']; exact Bool.false_ne_true
          split at e
          · next hf =>
            rw [hf] at hleft
            have hL : (l.filter fun e => !seen.contains e.born) = [] := hleft
            rw [hL] at hl'
            cases e
            refine fin (.tuple #[.bool false]) w ?_ (Den.one (Den.sv _)) (Stp.refl R)
            have hold : (#[] : Array Go.MapEntry).filter (fun e => decide (e.born < since)) = #[] := by simp
            have hnew : (#[] : Array Go.MapEntry).filter (fun e => decide (e.born ≥ since)) = #[] := by simp
            simp only [Instr.next, hx, Sem.run_bind, run_getIter p2, run_getMap m1, Result.andThen, if_neg gone, hl', hold, hnew]
            have hc : ((if (#[] : Array Go.MapEntry).isEmpty = true then #[none] else #[]) ++ ((#[] : Array Go.MapEntry) ++ #[]).map some) = #[none] := by simp
            simp only [hc]
            have h1 : (#[(none : Option Go.MapEntry)]).size = 1 := rfl
            have h0 : (#[(none : Option Go.MapEntry)])[0]? = some none := rfl
            simp only [h1, run_choose1, h0, Sem.run_pure]
          · next en hf =>
            rw [hf] at hleft
            obtain ⟨kx, vx, rr, q1, q2, q3, q4⟩ := hleft
            have q3 : rr = [] := q3
            subst q3
            rw [q4] at hl'
            split at e
            · next hb =>
              cases e
              have hb := Nat.le_of_ble_eq_true hb
              have hb' : en.born < since := hb
              have hold : (#[(⟨kx, vx, en.born⟩ : Go.MapEntry)]).filter (fun e => decide (e.born < since)) = #[⟨kx, vx, en.born⟩] := by simp [hb']
              have hnew : (#[(⟨kx, vx, en.born⟩ : Go.MapEntry)]).filter (fun e => decide (e.born ≥ since)) = #[] := by simp; omega
              refine fin (.tuple #[.bool true, kx, vx]) { w with heap := w.heap.setIfInBounds a (.mapIter (some a2) since (seen.toArray.push en.born) cl) } ?_ (Den.three (Den.sv _) q1 q2) (Stp.set R hk hr rfl ⟨a2, d2, p3, by rw [List.push_toArray]⟩ rfl rfl rfl)
              simp only [Instr.next, hx, Sem.run_bind, run_getIter p2, run_getMap m1, Result.andThen, if_neg gone, hl', hold, hnew]
              have hc : ((if (#[(⟨kx, vx, en.born⟩ : Go.MapEntry)]).isEmpty = true then #[none] else #[]) ++ (#[(⟨kx, vx, en.born⟩ : Go.MapEntry)] ++ #[]).map some) = #[some (⟨kx, vx, en.born⟩ : Go.MapEntry)] := by simp
              simp only [hc]
              have h1 : (#[some (⟨kx, vx, en.born⟩ : Go.MapEntry)]).size = 1 := rfl
              have h0 : (#[some (⟨kx, vx, en.born⟩ : Go.MapEntry)])[0]? = some (some ⟨kx, vx, en.born⟩) := rfl
              simp only [h1, run_choose1, h0, Sem.run_bind, run_setIter p2, Result.andThen, Sem.run_pure]
            · cases e
          · cases e
      · cases e
    · cases e
  · cases e
theorem op_entry {o : Oper} {it : Operand} (h : o.op = .entry it) : OpOk P o (entryAtF it) := by
  intro ρ tm σ w η v σ' R D e
  have dx := D it
  rw [entryAtF] at e
  generalize ev tm it = y at e dx
  cases e1 : entryAtE y σ with
  | none => rw [e1] at e; cases e
  | some r =>
    rw [e1] at e
    have e2 : r = v := by cases e; rfl
    have e3 : σ = σ' := by cases e; rfl
    subst e2 e3
    clear e
    have fin : ∀ (u : Value), (Instr.entry (η it)).run P w = .ok u w → Den ρ r u → ∃ ρ' w' n, (execOp η o).run P w = .ok n w' ∧ Ends ρ' r n ∧ Stp P ρ σ w ρ' σ w' := by
      intro u h1 h2
      refine val_ok R (u := u) ?_ h2
      rw [execOp, h]
      simp only [Sem.run_bind, h1, Result.andThen, Sem.run_pure]
    unfold entryAtE at e1
    split at e1
    · next k =>
      obtain ⟨a, c, hr, hx⟩ := dx.p
      split at e1
      · next mb since seen last hk =>
        obtain ⟨a', c', ob, p1, p2, a2, d2, p3, p4⟩ := R.blk k _ hk
        rw [hr] at p1
        cases p1
        subst p4
        split at e1
        · next st es cl hs hm =>
          obtain ⟨l, m1, m2⟩ := R.map p3 hm
          split at e1
          · next en hb hf =>
            cases e1
            have hb := Nat.eq_of_beq_eq_true hb
            subst hb
            have hf' : es.find? (fun e => (fun n => n == st) e.born) = some en := by
              rw [← hf]
              congr 1
              funext e
              show (e.born == st) = Nat.beq e.born st
              rw [Bool.eq_iff_iff, beq_iff_eq, Nat.beq_eq]
            obtain ⟨m, g1, g2, g3, g4⟩ := m2.find (fun n => n == st) hf'
            have hs' : seen.toArray.back? = some st := by rw [List.back?_toArray]; exact hs
            have hfa : l.toArray.find? (fun e => e.born == st) = some m := by rw [List.find?_toArray]; exact g1
            refine fin (.tuple #[m.key, m.val]) ?_ (Den.two g2 g3)
            simp only [Instr.entry, hx, Sem.run_bind, run_getIter p2, hs', run_getMap m1, Result.andThen, bne_self_eq_false, Bool.false_eq_true, if_false, hfa, Sem.run_pure]
          · cases e1
        · cases e1
      · cases e1
    · cases e1
/-! ### every operation -/
/-- E's f does what o does, and is no call -/
def KdOk (P : Program) (o : Oper) : Kd → Prop
  | .plain f => OpOk P o f
  | .mem f => OpOk P o f
  | .call c => o.op = .call c ∧ ∀ b, c.callee ≠ .builtin b
  | .dfr c => o.op = .defer c
theorem none_ok (o : Oper) : OpOk P o noneF := by
  intro ρ tm σ w η v σ' R D e
  cases e
theorem builtinK_ok {o : Oper} {c : Go.Call} {b : Builtin} (h : o.op = .call c) (hb : c.callee = .builtin b) : KdOk P o (builtinK P b o c.args.toList c.argTypes.toList) := by
  have sc : OpOk P o (scalarF P o) := op_scalar (fun cs b q => by rw [h] at q; cases q)
  unfold builtinK
  split
  · next s x t ha ht =>
    refine op_append h hb ha ?_ (.inl ?_)
    · rw [← Array.getElem?_toList, ht]; rfl
    · rw [← Array.getElem?_toList, ht]; rfl
  · next s x t u ha ht =>
    split
    · next hi =>
      refine op_append h hb ha ?_ (.inr ?_)
      · rw [← Array.getElem?_toList, ht]; rfl
      · unfold intB at hi
        split at hi
        · cases hi
        · next d hd hk =>
          exact ⟨u, d, by rw [← Array.getElem?_toList, ht]; rfl, hk, fun k q => hd k q⟩
        · cases hi
    · exact none_ok o
  · next x t ts ha ht => exact op_len h hb ha ht
  · next x t ts ha ht => exact op_cap h hb ha ht
  · next d s t ts ha ht => exact op_copy h hb ha ht
  · next x t ts ha ht => exact op_clear h hb ha ht
  · next m k t ts ha ht => exact op_delete h hb ha ht
  · exact sc
  · exact sc
  · exact none_ok o
theorem kindOf_ok (hP : StrOk P) (o : Oper) : KdOk P o (kindOf P o) := by
  have sc : (∀ cs b, o.op ≠ .select cs b) → OpOk P o (scalarF P o) := op_scalar
  unfold kindOf
  split
  · next h => exact op_move h
  · next h => exact op_assign h
  · next h => exact op_pick h
  · next h => exact op_alloc h
  · next h => exact op_box h
  · next h => exact op_build hP h
  · next h => exact op_buildSlice h
  · next h => exact op_load h
  · next h => exact op_store h
  · next h => exact op_nilCheck h
  · next h => exact op_binOp h
  · next h => exact sc (fun cs b q => by rw [h] at q; cases q)
  · next h => exact op_convert h
  · next h => exact op_arr h
  · next h => exact op_makeInterface h
  · next h => exact op_makeFunc h
  · next h => exact op_makeMap h
  · next h => exact op_makeSlice h
  · next h => exact op_slice h
  · next h => exact op_fieldAddr h
  · next h => exact op_field h
  · next h => exact op_indexAddr h
  · next h => exact op_index h
  · next h => exact op_lookup h
  · next h => exact op_update (.inl h)
  · next h => exact op_update (.inr h)
  · next h => exact op_mapEntry h
  · next h => exact op_entryStore h
  · next h => exact op_range h
  · next h => exact op_next h
  · next h => exact op_entry h
  · next h => exact op_typeAssert h
  · next h => exact op_extract h
  · next c h =>
    unfold callK
    split
    · next b hb => exact builtinK_ok h hb
    · next f hf => exact ⟨h, fun b q => by rw [hf] at q; cases q⟩
    · next r n hf => exact ⟨h, fun b q => by rw [hf] at q; cases q⟩
  · next h => exact h
  · exact none_ok o
end Ev
end Go.Proofs.YtkfhapidoolfdaaGreatDoor
