/-
  PLAIN, OVER ANY PROGRAM: calls; operations in the text's order; statements. PLAIN, OVER ANY PROGRAM: operations in the text's order; statements. PLAIN, OVER ANY PROGRAM: functions, and the whole run. PLAIN, OVER ANY PROGRAM: an operation looks at its own operands alone.
-/
import Derived.Test.YtkfhapidoolfdaaGreatDoorEG4
import Derived.Test.YtkfhapidoolfdaaGreatDoorEG1
import Derived.Test.YtkfhapidoolfdaaGreatDoorEG2
import Derived.Defers
import Derived.Scope
namespace Go.Proofs.YtkfhapidoolfdaaGreatDoor
open Go
namespace Ev
variable {P : Program}

/-- how a call of f ends -/
def Runs (P : Program) (f : FuncId) (args : Array Value) (w : World) (R : Value → World → Prop) : Prop :=
  ((callFunc f args).run P w = .ok (.enter f args) w ∧ Calls P f args w fun | .returned u, w' => R u w' | _, _ => False) ∨
  ∃ u w', (callFunc f args).run P w = .ok (.value u) w' ∧ R u w'
theorem Runs.mono {f : FuncId} {args : Array Value} {w : World} {R R' : Value → World → Prop} (h : Runs P f args w R) (hr : ∀ u w', R u w' → R' u w') : Runs P f args w R' := by
  rcases h with ⟨h1, h2⟩ | ⟨u, w', h1, h2⟩
  · refine .inl ⟨h1, h2.mono ?_⟩
    intro e w' he
    cases e with
    | returned u => exact hr u w' he
    | panicked c => exact he.elim
    | outgrown => exact he.elim
  · exact .inr ⟨u, w', h1, hr u w' h2⟩
def GoOk (P : Program) (go : Go1) : Prop := ∀ (ρ : Rn) (f : FuncId) (args : List EV) (σ : St) (w : World) (vs : List Value) (v : EV) (σ' : St), Rep P ρ σ w → Dens ρ args vs → go f args σ = .ok v σ' →
  Runs P f vs.toArray w fun u w' => ∃ ρ', Den ρ' v u ∧ Stp P ρ σ w ρ' σ' w'
/-- how an operation ends: with a value, or by a call that returns one -/
def OpEnds (P : Program) (o : Oper) (η : Operand → Value) (w : World) (R : Value → World → Prop) : Prop :=
  (∃ u w', (execOp η o).run P w = .ok (.value u) w' ∧ R u w') ∨ (∃ w', (execOp η o).run P w = .ok .skip w' ∧ R undef w') ∨
  ∃ f args w0, (execOp η o).run P w = .ok (.enter f args) w0 ∧ Calls P f args w0 fun | .returned u, w' => R u w' | _, _ => False
theorem OpEnds.wp {o : Oper} {a : Act} {w : World} {R : Value → World → Prop} {K : Act → World → Prop} {Q : Exit → Act → World → Prop} (h : OpEnds P o a.eval w R) (hk : ∀ u w', R u w' → K (a.put o.dst u) w') : o.wp P a w K Q := by
  unfold Oper.wp
  rcases h with ⟨u, w', h1, h2⟩ | ⟨w', h1, h2⟩ | ⟨f, args, w0, h1, h2⟩
  · rw [h1]; exact hk u w' h2
  · rw [h1]; exact hk undef w' h2
  · rw [h1]
    refine h2.mono ?_
    intro e w' he
    cases e with
    | returned u => exact hk u w' he
    | panicked c => exact he.elim
    | outgrown => exact he.elim
theorem OpEnds.some {o : Oper} {η : Operand → Value} {w : World} {R : Value → World → Prop} (h : OpEnds P o η w R) : ∃ u w', R u w' := by
  rcases h with ⟨u, w', h1, h2⟩ | ⟨w', h1, h2⟩ | ⟨f, args, w0, h1, h2⟩
  · exact ⟨u, w', h2⟩
  · exact ⟨undef, w', h2⟩
  · obtain ⟨e, w', fr, h3, _⟩ := h2 []
    cases e with
    | returned u => exact ⟨u, w', h3⟩
    | panicked c => exact h3.elim
    | outgrown => exact h3.elim
theorem OpOk.ends {o : Oper} {f : TrV → St → Out} (h : OpOk P o f) {ρ : Rn} {tm : TrV} {σ : St} {w : World} {η : Operand → Value} {v : EV} {σ' : St} (R : Rep P ρ σ w) (D : ∀ x, Den ρ (ev tm x) (η x)) (e : f tm σ = some (v, σ')) :
    OpEnds P o η w fun u w' => ∃ ρ', Den ρ' v u ∧ Stp P ρ σ w ρ' σ' w' := by
  obtain ⟨ρ', w', n, h1, h2, h3⟩ := h ρ tm σ w η v σ' R D e
  rcases h2 with ⟨u, rfl, h4⟩ | ⟨rfl, rfl⟩
  · exact .inl ⟨u, w', h1, ρ', h4, h3⟩
  · exact .inr (.inl ⟨w', h1, ρ', Den.sv undef, h3⟩)
/-! ### what is called -/
theorem method_D {ρ : Rn} {σ : St} {w : World} (R : Rep P ρ σ w) {t : TypeId} {v r : EV} {x : Value} {name : String} {g : FuncId} (e : methodE P σ t v name = some (g, r)) (d : Den ρ v x) (n : Nat) : ∃ y, (method (n + 1) t x name).run P w = .ok (g, y) w ∧ Den ρ r y := by
  unfold methodE at e
  split at e
  · next i hi =>
    split at e
    · next m hm =>
      have hi' := infoE_some hi
      have ht : (typeInfo t).run P w = .ok i w := by simp [typeInfo, program, Sem.run, hi']
      have hm' : i.methods.find? (fun m => m.name == name) = some m := by rw [← Array.find?_toList]; exact hm
      split at e
      · next f el hp hf hu =>
        cases e
        have hp : m.path.toList = [] := by simpa using hp
        exact ⟨x, by simp only [method, Sem.run_bind, ht, Result.andThen, hm', hp, follow, Sem.run_pure, hf, receiverAt, run_underE hu, Place.get], d⟩
      · cases e
      · next f el hp hf hu =>
        split at e
        · next b o =>
          obtain ⟨a, c, hr, rfl⟩ := d.p
          split at e
          · next y hy =>
            cases e
            obtain ⟨u, g1, g2⟩ := R.loadT hr hy
            have hp : m.path.toList = [] := by simpa using hp
            have hp2 : m.path.isEmpty = true := by simpa using hp
            have chk : ∀ (pt : Addr) (x y : ByteArray), (Builtin.ssaWrapNilChk_ #[t] t #[.pointer (some pt), .string x, .string y]).run P w = .ok (.pointer (some pt)) w := fun _ _ _ => rfl
            refine ⟨u, ?_, g2⟩
            simp only [method, Sem.run_bind, ht, Result.andThen, hm', hp, hp2, follow, Sem.run_pure, hf, receiverAt, run_underE hu, Place.get, if_true, strVal, chk, asAddr, g1]
          · cases e
        · cases e
      · next f d' hnp hp hf hu =>
        cases e
        have hp : m.path.toList = [] := by simpa using hp
        refine ⟨x, ?_, d⟩
        simp only [method, Sem.run_bind, ht, Result.andThen, hm', hp, follow, Sem.run_pure, hf, receiverAt, run_underE hu]
        cases d' with
        | pointer el => exact absurd rfl (hnp el)
        | _ => rfl
      · cases e
    · cases e
  · cases e
theorem Dens.append {ρ : Rn} {a b : List EV} {u v : List Value} (h : Dens ρ a u) (g : Dens ρ b v) : Dens ρ (a ++ b) (u ++ v) := by
  rw [← appL_eq]; exact h.app g
theorem callMethod_D {ρ : Rn} {σ : St} {w : World} (R : Rep P ρ σ w) {t : TypeId} {v r : EV} {x : Value} {name : String} {g : FuncId} (e : methodE P σ t v name = some (g, r)) (d : Den ρ v x) (l : List Value) :
    ∃ y, Den ρ r y ∧ (callMethod (.iface t x) name l.toArray).run P w = (callFunc g (y :: l).toArray).run P w := by
  obtain ⟨y, h1, h2⟩ := method_D R e d (P.types.size + 99)
  refine ⟨y, h2, ?_⟩
  have h1 : (method (P.types.size + Made.depth) t x name).run P w = .ok (g, y) w := h1
  have hp : (program).run P w = .ok P w := rfl
  have hx : #[y] ++ l.toArray = (y :: l).toArray := by simp
  simp only [callMethod, Sem.run_bind, hp, Result.andThen, h1, hx]
theorem head_arr {x : Value} {r : List Value} {A B : Array Value} (h : A.toList ++ B.toList = x :: r) : (A ++ B)[0]? = some x ∧ (A ++ B).extract 1 (A ++ B).size = r.toArray := by
  have e : A ++ B = (x :: r).toArray := by
    apply Array.ext'
    rw [Array.toList_append, h]
  rw [e]
  exact ⟨rfl, by simp⟩
theorem target_D {ρ : Rn} {σ : St} {w : World} (R : Rep P ρ σ w) {f : EV} {args as : List EV} {g : FuncId} {fv : Value} {vs : List Value} (e : targetE P σ f args = some (g, as)) (df : Den ρ f fv) (da : Dens ρ args vs) :
    ∃ us, Dens ρ as us ∧ (do let d ← Deferred.ofValue fv vs.toArray; invoke d.target d.args : Sem Next).run P w = (callFunc g us.toArray).run P w := by
  unfold targetE at e
  split at e
  · next g' fs cs =>
    obtain ⟨us, ws, h1, h2, rfl⟩ := df.f
    cases e
    refine ⟨us ++ (vs ++ ws), h1.app (da.app h2), ?_⟩
    have hx : us.toArray ++ vs.toArray ++ ws.toArray = (us ++ (vs ++ ws)).toArray := by simp
    simp only [Deferred.ofValue, Sem.run_bind, Sem.run_pure, Result.andThen, invoke, hx]
  · next name fs cs =>
    obtain ⟨us, ws, h1, h2, rfl⟩ := df.f
    split at e
    · next t v rest heq =>
      have hd := h1.append da
      rw [heq] at hd
      obtain ⟨x0, r, k1, k2, k3⟩ := hd.cons
      obtain ⟨u, k4, k5⟩ := k1.i
      split at e
      · next g' r' hm =>
        cases e
        obtain ⟨y, m1, m2⟩ := callMethod_D R hm k4 r
        obtain ⟨p1, p2⟩ := head_arr (A := us.toArray) (B := vs.toArray) (x := x0) (r := r) k3
        refine ⟨y :: r, Dens.mk m1 k2, ?_⟩
        rw [k5] at p1
        simp only [Deferred.ofValue, Sem.run_bind, Sem.run_pure, Result.andThen, invoke, p1, p2, m2]
      · cases e
    · cases e
  · next t name fs cs =>
    obtain ⟨us, ws, h1, h2, rfl⟩ := df.f
    split at e
    · next v rest heq =>
      have hd := h1.append da
      rw [heq] at hd
      obtain ⟨x0, r, k1, k2, k3⟩ := hd.cons
      obtain ⟨p1, p2⟩ := head_arr (A := us.toArray) (B := vs.toArray) (x := x0) (r := r) k3
      split at e
      · next ms hu =>
        split at e
        · next t' v' =>
          obtain ⟨u, k4, k5⟩ := k1.i
          split at e
          · next g' r' hm =>
            cases e
            obtain ⟨y, m1, m2⟩ := callMethod_D R hm k4 r
            refine ⟨y :: r, Dens.mk m1 k2, ?_⟩
            rw [k5] at p1
            simp only [Deferred.ofValue, Sem.run_bind, Sem.run_pure, Result.andThen, invoke, p1, p2, run_underE hu, m2]
          · cases e
        · cases e
      · next d hni hu =>
        split at e
        · next g' r' hm =>
          cases e
          obtain ⟨y, m1, m2⟩ := callMethod_D R hm k1 r
          refine ⟨y :: r, Dens.mk m1 k2, ?_⟩
          have hr : (match d with | .interface _ => x0 | _ => Value.iface t x0) = .iface t x0 := by
            cases d with
            | interface ms => exact absurd rfl (hni ms)
            | _ => rfl
          simp only [Deferred.ofValue, Sem.run_bind, Sem.run_pure, Result.andThen, invoke, p1, p2, run_underE hu]
          cases d with
          | interface ms => exact absurd rfl (hni ms)
          | _ => exact m2
        · cases e
      · cases e
    · cases e
  · cases e
theorem args_D {ρ : Rn} {tm : TrV} {η : Operand → Value} (D : ∀ x, Den ρ (ev tm x) (η x)) (as : Array Operand) : ∃ us, Dens ρ (evs tm as.toList) us ∧ as.map η = us.toArray :=
  ⟨as.toList.map η, Dens.evs D as.toList, by rw [← Array.toList_map, Array.toArray_toList]⟩
theorem callee_D {ρ : Rn} {σ : St} {w : World} (R : Rep P ρ σ w) {tm : TrV} {η : Operand → Value} (D : ∀ x, Den ρ (ev tm x) (η x)) {o : Oper} {c : Go.Call} (h : o.op = .call c) {g : FuncId} {as : List EV} (e : calleeE P σ tm c = some (g, as)) :
    ∃ us, Dens ρ as us ∧ (execOp η o).run P w = (callFunc g us.toArray).run P w := by
  obtain ⟨vs, a1, a2⟩ := args_D D c.args
  unfold calleeE at e
  split at e
  · cases e
  · next f hf =>
    obtain ⟨us, g1, g2⟩ := target_D R e (D f) a1
    refine ⟨us, g1, ?_⟩
    rw [execOp, h, ← g2]
    simp only [resolve, hf, a2]
  · next r name hf =>
    have df : Den ρ (.f (.method name) [] []) (.func (.method name) #[] #[]) := by
      simp only [Den]
      exact ⟨[], [], Dens.nilm, Dens.nilm, rfl⟩
    obtain ⟨us, g1, g2⟩ := target_D R e df (Dens.mk (D r) a1)
    refine ⟨us, g1, ?_⟩
    rw [execOp, h, ← g2]
    have hx : #[] ++ (η r :: vs).toArray = #[η r] ++ vs.toArray := by simp
    simp only [resolve, hf, a2, Deferred.ofValue, Sem.run_bind, Sem.run_pure, Result.andThen, hx]
/-- what is deferred -/
def DefD (ρ : Rn) (d : FuncId × List EV) (x : Deferred) : Prop := ∃ cap us, x.target = .fn (.func d.1) cap ∧ Dens ρ d.2 us ∧ x.args ++ cap = us.toArray
theorem calleeD_D {ρ : Rn} {w : World} {tm : TrV} {η : Operand → Value} (D : ∀ x, Den ρ (ev tm x) (η x)) {o : Oper} {c : Go.Call} (h : o.op = .defer c) {g : FuncId} {as : List EV} (e : calleeD tm c = some (g, as)) :
    ∃ d, (execOp η o).run P w = .ok (.defer d) w ∧ DefD ρ (g, as) d := by
  obtain ⟨vs, a1, a2⟩ := args_D D c.args
  unfold calleeD at e
  split at e
  · next f hf =>
    split at e
    · next g' fs cs hfv =>
      cases e
      have df := D f
      rw [hfv] at df
      obtain ⟨us, ws, h1, h2, h3⟩ := df.f
      refine ⟨{ target := .fn (.func g) ws.toArray, args := us.toArray ++ vs.toArray }, ?_, ws.toArray, us ++ (vs ++ ws), rfl, h1.app (a1.app h2), by simp⟩
      rw [execOp, h]
      simp only [resolve, hf, a2, h3, Deferred.ofValue, Sem.run_bind, Sem.run_pure, Result.andThen]
    · cases e
  · cases e
theorem call_ends {go : Go1} (G : GoOk P go) {ρ : Rn} {σ : St} {w : World} (R : Rep P ρ σ w) {tm : TrV} {η : Operand → Value} (D : ∀ x, Den ρ (ev tm x) (η x)) {o : Oper} {c : Go.Call} (h : o.op = .call c) {g : FuncId} {as : List EV} (e : calleeE P σ tm c = some (g, as)) {v : EV} {σ' : St} (e2 : go g as σ = .ok v σ') :
    OpEnds P o η w fun u w' => ∃ ρ', Den ρ' v u ∧ Stp P ρ σ w ρ' σ' w' := by
  obtain ⟨us, h1, h2⟩ := callee_D R D h e
  rcases G ρ g as σ w us v σ' R h1 e2 with ⟨k1, k2⟩ | ⟨u, w', k1, k2⟩
  · exact .inr (.inr ⟨g, us.toArray, w, by rw [h2, k1], k2⟩)
  · exact .inl ⟨u, w', by rw [h2, k1], k2⟩
end Ev
end Go.Proofs.YtkfhapidoolfdaaGreatDoor

namespace Go.Proofs.YtkfhapidoolfdaaGreatDoor
open Go
namespace Ev
variable {P : Program}

theorem DefD.mono {ρ ρ' : Rn} (h : Le ρ ρ') {d : FuncId × List EV} {x : Deferred} : DefD ρ d x → DefD ρ' d x
  | ⟨cap, us, h1, h2, h3⟩ => ⟨cap, us, h1, Dens.mono h h2, h3⟩
def DefsD (ρ : Rn) : List (FuncId × List EV) → List Deferred → Prop
  | [], l => l = []
  | d :: ds, l => ∃ x r, DefD ρ d x ∧ DefsD ρ ds r ∧ l = x :: r
theorem DefsD.mono {ρ ρ' : Rn} (h : Le ρ ρ') : ∀ {ds : List (FuncId × List EV)} {l : List Deferred}, DefsD ρ ds l → DefsD ρ' ds l
  | [], _, d => d
  | _ :: _, _, ⟨x, r, h1, h2, h3⟩ => ⟨x, r, h1.mono h, DefsD.mono h h2, h3⟩
/-- E's frame stands for a function's own variables; n of them -/
structure FrOk (ρ : Rn) (n : Nat) (fr : Fr) (a : Act) : Prop where
  size : a.tmps.size = n
  tm : ∀ x, Den ρ (ev fr.tm x) (a.eval x)
  ds : DefsD ρ fr.ds a.defers
theorem FrOk.mono {ρ ρ' : Rn} (h : Le ρ ρ') {n : Nat} {fr : Fr} {a : Act} (F : FrOk ρ n fr a) : FrOk ρ' n fr a := ⟨F.size, fun x => Den.mono h (F.tm x), F.ds.mono h⟩
theorem ev_put (tm : TrV) (d t : Nat) (v : EV) : ev (tm.put d (some v)) (.tmp t) = if t = d then v else ev tm (.tmp t) := by
  show Option.rec (motive := fun _ => EV) (.s undef) (fun v => v) ((tm.put d (some v)).get t) = _
  rw [TrV.get_put]
  by_cases h : t = d
  · rw [if_pos h, if_pos h]
  · rw [if_neg h, if_neg h]; rfl
theorem FrOk.put {ρ : Rn} {n : Nat} {fr : Fr} {a : Act} (F : FrOk ρ n fr a) {d : Option Nat} (hd : ∀ t, d = some t → t < n) {v : EV} {u : Value} (hv : Den ρ v u) : FrOk ρ n (putT fr d v) (a.put d u) := by
  cases d with
  | none => exact F
  | some t =>
    have ht := hd t rfl
    refine ⟨?_, ?_, F.ds⟩
    · show (a.tmps.setIfInBounds t u).size = n
      rw [Array.size_setIfInBounds]; exact F.size
    · intro x
      cases x with
      | tmp k =>
        show Den ρ (ev (fr.tm.put t (some v)) (.tmp k)) ((a.tmps.setIfInBounds t u).getD k undef)
        rw [ev_put, Array.getD_eq_getD_getElem?, Array.getElem?_setIfInBounds]
        by_cases h : k = t
        · subst h
          have : k < a.tmps.size := by rw [F.size]; exact ht
          rw [if_pos rfl, if_pos rfl, if_pos this]; exact hv
        · rw [if_neg h, if_neg (fun e => h e.symm), ← Array.getD_eq_getD_getElem?]; exact F.tm (.tmp k)
      | const c => exact F.tm (.const c)
      | global g => exact F.tm (.global g)
      | func g => exact F.tm (.func g)
theorem guard_D {ρ : Rn} {n : Nat} {fr : Fr} {a : Act} (F : FrOk ρ n fr a) (all : Array Oper) (o : Oper) : guardE all fr.tm o = Region.wanted o (yielded all a.tmps) := by
  unfold guardE Region.wanted
  cases hg : o.guard with
  | none => rfl
  | some jw =>
    obtain ⟨j, want⟩ := jw
    show guardJ all fr.tm (j, want) = (yielded all a.tmps j == some want)
    unfold guardJ yielded
    cases hj : all[j]? with
    | none => simp only [hj, Option.bind_none]; rfl
    | some oj =>
      simp only [hj, Option.bind_some]
      cases hd : oj.dst with
      | none => simp only [Option.bind_none]; rfl
      | some t =>
        simp only [Option.bind_some]
        have d := F.tm (.tmp t)
        have e : ev fr.tm (.tmp t) = Option.rec (motive := fun _ => EV) (.s undef) (fun v => v) (fr.tm.get t) := rfl
        rw [e] at d
        have hv : a.eval (.tmp t) = (a.tmps[t]?).getD undef := by
          show a.tmps.getD t undef = _
          rw [Array.getD_eq_getD_getElem?]
        rw [hv] at d
        have nb : ∀ q : Value, (∀ b, q ≠ .bool b) → (a.tmps[t]?).getD undef = q → false = ((match a.tmps[t]? with | some (.bool b) => some b | _ => none : Option Bool) == some want) := by
          intro q hq h
          cases hx : a.tmps[t]? with
          | none => rfl
          | some v =>
            rw [hx] at h
            have h : v = q := h
            subst h
            cases v with
            | bool b => exact absurd rfl (hq b)
            | _ => rfl
        cases ht : fr.tm.get t with
        | none =>
          rw [ht] at d
          have d := Den.s d
          cases hx : a.tmps[t]? with
          | none => rfl
          | some v =>
            rw [hx] at d
            have d : v = undef := d
            subst d; rfl
        | some v =>
          rw [ht] at d
          cases v with
          | s c =>
            have d := Den.s d
            cases hx : a.tmps[t]? with
            | none =>
              rw [hx] at d
              have d : undef = c := d
              subst d; rfl
            | some v =>
              rw [hx] at d
              have d : v = c := d
              subst d
              cases v with
              | bool b => cases b <;> cases want <;> rfl
              | _ => rfl
          | p b o => obtain ⟨_, _, _, q⟩ := d.p; exact nb _ (by rintro b ⟨⟩) q
          | sl b o l c k => obtain ⟨_, _, _, q⟩ := d.sl; exact nb _ (by rintro b ⟨⟩) q
          | zl => obtain ⟨_, _, q⟩ := d.zl; exact nb _ (by rintro b ⟨⟩) q
          | m b => obtain ⟨_, _, _, q⟩ := d.m; exact nb _ (by rintro b ⟨⟩) q
          | f fn fs cs => obtain ⟨_, _, _, _, q⟩ := d.f; exact nb _ (by rintro b ⟨⟩) q
          | i t' e => obtain ⟨_, _, q⟩ := d.i; exact nb _ (by rintro b ⟨⟩) q
          | a cs => obtain ⟨_, _, q⟩ := d.a; exact nb _ (by rintro b ⟨⟩) q
          | by_ bs k => have q := d.by_; exact nb _ (by rintro b ⟨⟩) q
          | t cs =>
            obtain ⟨us, _, q⟩ := d.t
            exact nb _ (by rintro b ⟨⟩) q
/-! ### operations in the text's order -/
theorem opsE_nil (go : Go1) (all : Array Oper) (fr : Fr) (σ : St) : opsE P go all [] fr σ = .ok .nrm fr σ := rfl
theorem opsE_cons (go : Go1) (all : Array Oper) (o : Oper) (l : List Oper) (fr : Fr) (σ : St) : opsE P go all (o :: l) fr σ = opG P go o fr (opsE P go all l) σ (guardE all fr.tm o) := rfl
theorem opG_true (go : Go1) (o : Oper) (fr : Fr) (k : Fr → St → Cd) (σ : St) : opG P go o fr k σ true = opK P go o fr k σ (kindOf P o) := rfl
theorem opG_false (go : Go1) (o : Oper) (fr : Fr) (k : Fr → St → Cd) (σ : St) : opG P go o fr k σ false = k (putT fr o.dst (.s undef)) σ := rfl
theorem opNext_some (o : Oper) (fr : Fr) (k : Fr → St → Cd) (v : EV) (σ : St) : opNext o fr k (some (v, σ)) = k (putT fr o.dst v) σ := rfl
theorem opNext_none (o : Oper) (fr : Fr) (k : Fr → St → Cd) : opNext o fr k none = .err [200 + o.op.ctorIdx] := rfl
/-- one operation, whatever its kind: no deferred one -/
theorem kind_ends (hP : StrOk P) {go : Go1} (G : GoOk P go) {o : Oper} {fr : Fr} {k : Fr → St → Cd} {σ : St} {a : Act} {w : World} {ρ : Rn} {n : Nat} {x : X} {fr' : Fr} {σ' : St} (e : opK P go o fr k σ (kindOf P o) = .ok x fr' σ') (F : FrOk ρ n fr a) (R : Rep P ρ σ w) :
    (∃ v σ1, k (putT fr o.dst v) σ1 = .ok x fr' σ' ∧ OpEnds P o a.eval w fun u w' => ∃ ρ', Den ρ' v u ∧ Stp P ρ σ w ρ' σ1 w') ∨
    (∃ g as d, k (putT { tm := fr.tm, ds := (g, as) :: fr.ds } o.dst (.s undef)) σ = .ok x fr' σ' ∧ (execOp a.eval o).run P w = .ok (.defer d) w ∧ DefD ρ (g, as) d) := by
  have K := kindOf_ok hP o
  cases hk : kindOf P o with
  | plain f =>
    rw [hk] at e K
    have e : opNext o fr k (f fr.tm σ) = .ok x fr' σ' := e
    cases h : f fr.tm σ with
    | none => rw [h] at e; cases e
    | some vs =>
      obtain ⟨v, σ1⟩ := vs
      rw [h] at e
      exact .inl ⟨v, σ1, e, OpOk.ends K R F.tm h⟩
  | mem f =>
    rw [hk] at e K
    have e : opNext o fr k (f fr.tm σ) = .ok x fr' σ' := e
    cases h : f fr.tm σ with
    | none => rw [h] at e; cases e
    | some vs =>
      obtain ⟨v, σ1⟩ := vs
      rw [h] at e
      exact .inl ⟨v, σ1, e, OpOk.ends K R F.tm h⟩
  | call c =>
    rw [hk] at e K
    have e : callOp go o fr k σ (calleeE P σ fr.tm c) = .ok x fr' σ' := e
    cases h : calleeE P σ fr.tm c with
    | none => rw [h] at e; cases e
    | some fa =>
      obtain ⟨f, args⟩ := fa
      rw [h] at e
      simp only [callOp] at e
      cases h2 : go f args σ with
      | err l => rw [h2] at e; cases e
      | ok v σ1 =>
        rw [h2] at e
        exact .inl ⟨v, σ1, e, call_ends G R F.tm K.1 h h2⟩
  | dfr c =>
    rw [hk] at e K
    have e : dfrOp o fr k σ (calleeD fr.tm c) = .ok x fr' σ' := e
    cases h : calleeD fr.tm c with
    | none => rw [h] at e; cases e
    | some fa =>
      obtain ⟨f, args⟩ := fa
      rw [h] at e
      obtain ⟨d, h1, h2⟩ := calleeD_D (P := P) (w := w) F.tm K h
      exact .inr ⟨f, args, d, e, h1, h2⟩
theorem ops_ok (hP : StrOk P) {go : Go1} (G : GoOk P go) (all : Array Oper) {n : Nat} {Q : Exit → Act → World → Prop} : ∀ (l : List Oper), (∀ o ∈ l, ∀ d, o.dst = some d → d < n) → ∀ (fr : Fr) (σ : St) (a : Act) (w : World) (ρ : Rn) (x : X) (fr' : Fr) (σ' : St),
    opsE P go all l fr σ = .ok x fr' σ' → FrOk ρ n fr a → Rep P ρ σ w → (∀ a' w' ρ', x = .nrm → FrOk ρ' n fr' a' → Stp P ρ σ w ρ' σ' w' → Q .normal a' w') → wpList P all Q l a w
  | [], _, fr, σ, a, w, ρ, x, fr', σ', e, F, R, H => by
    rw [opsE_nil] at e
    cases e
    exact H a w ρ rfl F (Stp.refl R)
  | o :: l, hd, fr, σ, a, w, ρ, x, fr', σ', e, F, R, H => by
    have hdo := hd o (List.mem_cons_self ..)
    have ih := ops_ok hP G all (Q := Q) l (fun o' h => hd o' (List.mem_cons_of_mem _ h))
    rw [opsE_cons] at e
    unfold wpList
    rw [← guard_D F all o]
    cases hg : guardE all fr.tm o with
    | false =>
      rw [hg, opG_false] at e
      rw [if_neg (by simp)]
      exact ih _ _ _ _ ρ x fr' σ' e (F.put hdo (Den.sv undef)) R H
    | true =>
      rw [hg, opG_true] at e
      rw [if_pos rfl]
      left
      rcases kind_ends hP G e F R with ⟨v, σ1, h1, h2⟩ | ⟨g, as, d, h1, h2, h3⟩
      · refine h2.wp ?_
        rintro u w' ⟨ρ', h3, h4⟩
        refine ih _ _ _ _ ρ' x fr' σ' h1 ((F.mono h4.le).put hdo h3) h4.rep ?_
        intro a' w'' ρ'' hx F' S
        exact H a' w'' ρ'' hx F' (h4.trans S)
      · unfold Oper.wp
        rw [h2]
        show wpList P all Q l (Act.put { a with defers := d :: a.defers } o.dst undef) w
        refine ih _ _ _ _ ρ x fr' σ' h1 (FrOk.put (fr := { tm := fr.tm, ds := (g, as) :: fr.ds }) (a := { a with defers := d :: a.defers }) ⟨F.size, F.tm, d, a.defers, h3, F.ds, rfl⟩ hdo (Den.sv undef)) R H
/-! ### statements -/
def ExIs : X → Exit → Prop
  | .nrm, e => e = .normal
  | .ex id, e => e = .exit id
  | .gt l, e => e = .goto l
  | .rt, e => e = .ret
def Post (P : Program) (ρ : Rn) (σ : St) (w : World) (n : Nat) (x : X) (fr' : Fr) (σ' : St) : Exit → Act → World → Prop :=
  fun e a' w' => ExIs x e ∧ ∃ ρ', FrOk ρ' n fr' a' ∧ Stp P ρ σ w ρ' σ' w'
theorem Post.trans {ρ ρ1 : Rn} {σ σ1 : St} {w w1 : World} {n : Nat} {x : X} {fr' : Fr} {σ' : St} (S : Stp P ρ σ w ρ1 σ1 w1) {e : Exit} {a : Act} {w' : World} (h : Post P ρ1 σ1 w1 n x fr' σ' e a w') : Post P ρ σ w n x fr' σ' e a w' := by
  obtain ⟨h1, ρ', h2, h3⟩ := h
  exact ⟨h1, ρ', h2, S.trans h3⟩
/-- a loop, from a round's beginning on -/
def LoopWp (P : Program) (c : Code) (Q : Exit → Act → World → Prop) (a : Act) (w : World) : Prop :=
  ∀ (b : Frame) (k : List Item) (cs : List Frame), ∃ e a' w', Q e a' w' ∧ Arrives P (lone (b.at a (.code c :: .inLoop c :: k)) cs w) b k cs e a' w'
theorem LoopWp.wp {c : Code} {Q : Exit → Act → World → Prop} {a : Act} {w : World} (h : LoopWp P c Q a w) : (Code.loop c).wp P Q a w := by
  intro b k cs
  obtain ⟨e, a', w', hq, harr⟩ := h b k cs
  exact ⟨e, a', w', hq, .of_steps (.one step_loop) harr⟩
theorem LoopWp.round {c : Code} {Q : Exit → Act → World → Prop} {a : Act} {w : World} (h : c.wp P (Exit.then (LoopWp P c Q) Q) a w) : LoopWp P c Q a w := by
  intro b k cs
  obtain ⟨e, a₁, w₁, hq, harr⟩ := h b (.inLoop c :: k) cs
  cases e with
  | normal =>
    obtain ⟨e₂, a₂, w₂, hq₂, harr₂⟩ := hq b k cs
    exact ⟨e₂, a₂, w₂, hq₂, .of_steps (Steps.trans harr (.one step_inLoop)) harr₂⟩
  | exit id => exact ⟨_, a₁, w₁, hq, .pass (x := .inLoop c) rfl (fun _ _ => .inl (by simp)) harr⟩
  | goto l => exact ⟨_, a₁, w₁, hq, .pass (x := .inLoop c) rfl (fun _ _ => .inl (by simp)) harr⟩
  | ret => exact ⟨_, a₁, w₁, hq, .pass (x := .inLoop c) rfl (fun _ _ => .inl (by simp)) harr⟩
  | panic ch => exact ⟨_, a₁, w₁, hq, .pass (x := .inLoop c) rfl (fun _ _ => .inl (by simp)) harr⟩
  | outgrown => exact ⟨_, a₁, w₁, hq, .pass (x := .inLoop c) rfl (fun _ _ => .inl (by simp)) harr⟩
/-- what is asked of a statement's text: D is asked of each region whose order is drawn -/
def COk (D : Array Oper → Prop) (n : Nat) : Code → Prop
  | .region _ ops draw => (∀ o ∈ ops.toList, ∀ d, o.dst = some d → d < n) ∧ (draw = true → D ops)
  | .seq a b => COk D n a ∧ COk D n b
  | .cond _ a b => COk D n a ∧ COk D n b
  | .block _ c => COk D n c
  | .loop c => COk D n c
  | .scope c => COk D n c
  | _ => True
/-- regions whose order is drawn -/
def DrawS (P : Program) (D : Array Oper → Prop) (go : Go1) : Prop := ∀ (id : Nat) (ops : Array Oper) (n : Nat) (fr : Fr) (σ : St) (a : Act) (w : World) (ρ : Rn) (x : X) (fr' : Fr) (σ' : St), D ops → (∀ o ∈ ops.toList, ∀ d, o.dst = some d → d < n) →
  drawE P go ops ops.toList (masksOf ops) 0 [] fr σ = .ok x fr' σ' → FrOk ρ n fr a → Rep P ρ σ w → (Code.region id ops true).wp P (Post P ρ σ w n x fr' σ') a w
theorem code_ok (hP : StrOk P) {D : Array Oper → Prop} {go : Go1} (G : GoOk P go) (hD : DrawS P D go) {n : Nat} : ∀ (c : Code), COk D n c → ∀ (fr : Fr) (σ : St) (a : Act) (w : World) (ρ : Rn) (x : X) (fr' : Fr) (σ' : St),
    codeE P go c fr σ = .ok x fr' σ' → FrOk ρ n fr a → Rep P ρ σ w → c.wp P (Post P ρ σ w n x fr' σ') a w := by
  intro c
  induction c with
  | skip =>
    intro _ fr σ a w ρ x fr' σ' e F R
    have e : Cd.ok .nrm fr σ = .ok x fr' σ' := e
    cases e
    exact wp_skip ⟨rfl, ρ, F, Stp.refl R⟩
  | region id ops d =>
    intro hc fr σ a w ρ x fr' σ' e F R
    have e : regionE P go ops fr σ d = .ok x fr' σ' := e
    cases d with
    | false =>
      refine wp_region_list (ops_ok hP G ops ops.toList hc.1 fr σ a w ρ x fr' σ' e F R ?_)
      intro a' w' ρ' hx F' S
      exact ⟨by rw [hx]; rfl, ρ', F', S⟩
    | true => exact hD id ops n fr σ a w ρ x fr' σ' (hc.2 rfl) hc.1 e F R
  | seq p q ihp ihq =>
    intro hc fr σ a w ρ x fr' σ' e F R
    have e : seqE (codeE P go q) (codeE P go p fr σ) = .ok x fr' σ' := e
    cases h : codeE P go p fr σ with
    | err l => rw [h] at e; cases e
    | ok y fr1 σ1 =>
      rw [h] at e
      have hp := ihp hc.1 fr σ a w ρ y fr1 σ1 h F R
      refine wp_seq (wp_mono hp ?_)
      intro ex a1 w1 hq
      obtain ⟨h1, ρ1, F1, S1⟩ := hq
      cases y with
      | nrm =>
        have h1 : ex = .normal := h1
        subst h1
        have e : codeE P go q fr1 σ1 = .ok x fr' σ' := e
        exact wp_mono (ihq hc.2 fr1 σ1 a1 w1 ρ1 x fr' σ' e F1 S1.rep) (fun _ _ _ h => Post.trans S1 h)
      | ex id =>
        have h1 : ex = .exit id := h1
        subst h1
        cases e
        exact ⟨rfl, ρ1, F1, S1⟩
      | gt l =>
        have h1 : ex = .goto l := h1
        subst h1
        cases e
        exact ⟨rfl, ρ1, F1, S1⟩
      | rt =>
        have h1 : ex = .ret := h1
        subst h1
        cases e
        exact ⟨rfl, ρ1, F1, S1⟩
  | cond o p q ihp ihq =>
    intro hc fr σ a w ρ x fr' σ' e F R
    have e : condE (codeE P go p) (codeE P go q) fr σ (ev fr.tm o) = .ok x fr' σ' := e
    have d := F.tm o
    cases h : ev fr.tm o with
    | s v =>
      rw [h] at e d
      have d := d.s
      cases v with
      | bool b =>
        cases b with
        | true => exact wp_cond_true d (ihp hc.1 fr σ a w ρ x fr' σ' e F R)
        | false => exact wp_cond_false d (ihq hc.2 fr σ a w ρ x fr' σ' e F R)
      | _ => cases e
    | _ => rw [h] at e; cases e
  | block id c ih =>
    intro hc fr σ a w ρ x fr' σ' e F R
    have e : blockE id (codeE P go c fr σ) = .ok x fr' σ' := e
    cases h : codeE P go c fr σ with
    | err l => rw [h] at e; cases e
    | ok y fr1 σ1 =>
      rw [h] at e
      refine wp_block (wp_mono (ih hc fr σ a w ρ y fr1 σ1 h F R) ?_)
      intro ex a1 w1 hq
      obtain ⟨h1, ρ1, F1, S1⟩ := hq
      cases y with
      | nrm =>
        have h1 : ex = .normal := h1
        subst h1
        cases e
        exact ⟨rfl, ρ1, F1, S1⟩
      | ex k =>
        have h1 : ex = .exit k := h1
        subst h1
        have e : exitE id k fr1 σ1 = .ok x fr' σ' := e
        unfold exitE at e
        show if k = id then _ else _
        cases hb : Nat.beq k id with
        | true =>
          rw [hb] at e
          cases e
          rw [if_pos (Nat.eq_of_beq_eq_true hb)]
          exact ⟨rfl, ρ1, F1, S1⟩
        | false =>
          rw [hb] at e
          cases e
          rw [if_neg (fun q => by rw [q, Nat.beq_refl] at hb; cases hb)]
          exact ⟨rfl, ρ1, F1, S1⟩
      | gt l =>
        have h1 : ex = .goto l := h1
        subst h1
        cases e
        exact ⟨rfl, ρ1, F1, S1⟩
      | rt =>
        have h1 : ex = .ret := h1
        subst h1
        cases e
        exact ⟨rfl, ρ1, F1, S1⟩
  | loop c ih =>
    intro hc fr σ a w ρ x fr' σ' e F R
    have e : loopE (codeE P go c) 100000 fr σ = .ok x fr' σ' := e
    have key : ∀ (m : Nat) (fr1 : Fr) (σ1 : St) (a1 : Act) (w1 : World) (ρ1 : Rn), loopE (codeE P go c) m fr1 σ1 = .ok x fr' σ' → FrOk ρ1 n fr1 a1 → Stp P ρ σ w ρ1 σ1 w1 → LoopWp P c (Post P ρ σ w n x fr' σ') a1 w1 := by
      intro m
      induction m with
      | zero => intro fr1 σ1 a1 w1 ρ1 e1 _ _; cases e1
      | succ m ihm =>
        intro fr1 σ1 a1 w1 ρ1 e1 F1 S1
        have e1 : seqE (loopE (codeE P go c) m) (codeE P go c fr1 σ1) = .ok x fr' σ' := e1
        cases h : codeE P go c fr1 σ1 with
        | err l => rw [h] at e1; cases e1
        | ok y fr2 σ2 =>
          rw [h] at e1
          refine LoopWp.round (wp_mono (ih hc fr1 σ1 a1 w1 ρ1 y fr2 σ2 h F1 S1.rep) ?_)
          intro ex a2 w2 hq
          obtain ⟨h1, ρ2, F2, S2⟩ := hq
          cases y with
          | nrm =>
            have h1 : ex = .normal := h1
            subst h1
            exact ihm fr2 σ2 a2 w2 ρ2 e1 F2 (S1.trans S2)
          | ex k =>
            have h1 : ex = .exit k := h1
            subst h1
            cases e1
            exact ⟨rfl, ρ2, F2, S1.trans S2⟩
          | gt l =>
            have h1 : ex = .goto l := h1
            subst h1
            cases e1
            exact ⟨rfl, ρ2, F2, S1.trans S2⟩
          | rt =>
            have h1 : ex = .ret := h1
            subst h1
            cases e1
            exact ⟨rfl, ρ2, F2, S1.trans S2⟩
    exact (key 100000 fr σ a w ρ e F (Stp.refl R)).wp
  | rangeFunc f ps p q _ _ =>
    intro _ fr σ a w ρ x fr' σ' e F R
    have e : Cd.err [153] = .ok x fr' σ' := e
    cases e
  | exit id =>
    intro _ fr σ a w ρ x fr' σ' e F R
    have e : Cd.ok (.ex id) fr σ = .ok x fr' σ' := e
    cases e
    exact wp_exit ⟨rfl, ρ, F, Stp.refl R⟩
  | scope c ih =>
    intro hc fr σ a w ρ x fr' σ' e F R
    have e : scopeE (codeE P go c fr σ) = .ok x fr' σ' := e
    cases h : codeE P go c fr σ with
    | err l => rw [h] at e; cases e
    | ok y fr1 σ1 =>
      rw [h] at e
      refine wp_scope_straight (wp_mono (ih hc fr σ a w ρ y fr1 σ1 h F R) ?_)
      intro ex a1 w1 hq
      obtain ⟨h1, ρ1, F1, S1⟩ := hq
      cases y with
      | nrm =>
        have h1 : ex = .normal := h1
        subst h1
        cases e
        exact ⟨rfl, ρ1, F1, S1⟩
      | ex k =>
        have h1 : ex = .exit k := h1
        subst h1
        cases e
        exact ⟨rfl, ρ1, F1, S1⟩
      | gt l => cases e
      | rt =>
        have h1 : ex = .ret := h1
        subst h1
        cases e
        exact ⟨rfl, ρ1, F1, S1⟩
  | label l =>
    intro _ fr σ a w ρ x fr' σ' e F R
    have e : Cd.ok .nrm fr σ = .ok x fr' σ' := e
    cases e
    exact wp_label ⟨rfl, ρ, F, Stp.refl R⟩
  | goto l =>
    intro _ fr σ a w ρ x fr' σ' e F R
    have e : Cd.ok (.gt l) fr σ = .ok x fr' σ' := e
    cases e
    exact wp_goto ⟨rfl, ρ, F, Stp.refl R⟩
  | ret =>
    intro _ fr σ a w ρ x fr' σ' e F R
    have e : Cd.ok .rt fr σ = .ok x fr' σ' := e
    cases e
    exact wp_ret ⟨rfl, ρ, F, Stp.refl R⟩
  | refuse why =>
    intro _ fr σ a w ρ x fr' σ' e F R
    have e : Cd.err [154] = .ok x fr' σ' := e
    cases e
end Ev
end Go.Proofs.YtkfhapidoolfdaaGreatDoor

namespace Go.Proofs.YtkfhapidoolfdaaGreatDoor
open Go
namespace Ev
variable {P : Program}

/-! ### results -/
def resV (tmps : Array Value) : ResultVar → Sem Value
  | .tmp t => pure (tmps.getD t undef)
  | .cell b t => do loadVar t (← asAddr (tmps.getD b undef))
theorem results_eq (fn : Func) (tmps : Array Value) : results fn tmps = (do let vs ← fn.results.mapM (resV tmps); pure (if h : vs.size = 1 then vs[0] else .tuple vs)) := by
  unfold results
  congr 1
theorem result_D {ρ : Rn} {n : Nat} {fr : Fr} {a : Act} {σ : St} {w : World} (F : FrOk ρ n fr a) (R : Rep P ρ σ w) {r : ResultVar} {v : EV} (e : resultE P fr.tm σ r = some v) :
    ∃ u, (resV a.tmps r).run P w = .ok u w ∧ Den ρ v u := by
  cases r with
  | tmp t =>
    have d := F.tm (.tmp t)
    have e1 : ev fr.tm (.tmp t) = Option.rec (motive := fun _ => EV) (.s undef) (fun v => v) (fr.tm.get t) := rfl
    rw [e1] at d
    refine ⟨a.tmps.getD t undef, rfl, ?_⟩
    unfold resultE at e
    cases h : fr.tm.get t with
    | none => simp only [h] at e d; cases e; exact d
    | some x => simp only [h] at e d; cases e; exact d
  | cell b t =>
    have d := F.tm (.tmp b)
    have e1 : ev fr.tm (.tmp b) = Option.rec (motive := fun _ => EV) (.s undef) (fun v => v) (fr.tm.get b) := rfl
    rw [e1] at d
    unfold resultE at e
    cases h : fr.tm.get b with
    | none => simp only [h] at e; cases e
    | some x =>
      simp only [h] at e d
      cases x with
      | p k o =>
        obtain ⟨g, c, hr, hx⟩ := d.p
        obtain ⟨u, g1, g2⟩ := R.loadT hr e
        have hx : a.tmps.getD b undef = .pointer (some ⟨g, o, none⟩) := hx
        refine ⟨u, ?_, g2⟩
        simp only [resV, hx, asAddr, Sem.run_bind, Sem.run_pure, Result.andThen, g1]
      | _ => cases e
theorem results_list {ρ : Rn} {n : Nat} {fr : Fr} {a : Act} {σ : St} {w : World} (F : FrOk ρ n fr a) (Rp : Rep P ρ σ w) : ∀ (rs : List ResultVar) (l : List EV), rs.mapM (resultE P fr.tm σ) = some l →
    ∃ us, (rs.mapM (resV a.tmps)).run P w = .ok us w ∧ Dens ρ l us
  | [], l, e => by
    rw [List.mapM_nil] at e
    cases e
    exact ⟨[], rfl, Dens.nilm⟩
  | r :: rs, l, e => by
    rw [List.mapM_cons] at e
    cases h1 : resultE P fr.tm σ r with
    | none => rw [h1] at e; cases e
    | some v =>
      rw [h1] at e
      cases h2 : rs.mapM (resultE P fr.tm σ) with
      | none => rw [h2] at e; cases e
      | some q =>
        rw [h2] at e
        have e : v :: q = l := by cases e; rfl
        subst e
        obtain ⟨us, g1, g2⟩ := results_list F Rp rs q h2
        obtain ⟨u, g3, g4⟩ := result_D F Rp h1
        refine ⟨u :: us, ?_, Dens.mk g4 g2⟩
        rw [List.mapM_cons, Sem.run_bind, g3]
        simp only [Result.andThen, Sem.run_bind, g1, Sem.run_pure]
theorem results_D {ρ : Rn} {n : Nat} {fr : Fr} {a : Act} {σ : St} {w : World} (F : FrOk ρ n fr a) (Rp : Rep P ρ σ w) {fn : Func} {v : EV} (e : resultsE P fn fr.tm σ = some v) : ∃ u, (results fn a.tmps).run P w = .ok u w ∧ Den ρ v u := by
  have key : ∀ (us : List Value), (fn.results.toList.mapM (resV a.tmps)).run P w = .ok us w →
      (results fn a.tmps).run P w = .ok (if h : us.toArray.size = 1 then us.toArray[0] else .tuple us.toArray) w := by
    intro us h
    rw [results_eq, Array.mapM_eq_mapM_toList, map_eq_pure_bind]
    simp only [Sem.run_bind, h, Result.andThen, Sem.run_pure]
  unfold resultsE at e
  split at e
  · next r hr =>
    obtain ⟨us, g1, g2⟩ := results_list F Rp [r] [v] (by rw [List.mapM_cons, List.mapM_nil, e]; rfl)
    rw [← hr] at g1
    obtain ⟨u, l, g3, g4, g5⟩ := g2.cons
    have g4 := g4.nil
    subst g4 g5
    exact ⟨u, key _ g1, g3⟩
  · next hr =>
    split at e
    · next l hl =>
      cases e
      obtain ⟨us, g1, g2⟩ := results_list F Rp _ l hl
      refine ⟨.tuple us.toArray, ?_, by simp only [Den]; exact ⟨us, g2, rfl⟩⟩
      rw [key us g1, dif_neg]
      intro h
      have hl2 := mapM_length hl
      have hus := Dens_len g2
      rw [List.size_toArray] at h
      match hq : fn.results.toList, hl2 with
      | [r], _ => exact hr r hq
      | [], h2 => simp only [List.length_nil] at h2; omega
      | _ :: _ :: _, h2 => simp only [List.length_cons] at h2; omega
    · cases e
where
  mapM_length {fr : Fr} {σ : St} : ∀ {rs : List ResultVar} {l : List EV}, rs.mapM (resultE P fr.tm σ) = some l → l.length = rs.length
    | [], l, e => by rw [List.mapM_nil] at e; cases e; rfl
    | r :: rs, l, e => by
      rw [List.mapM_cons] at e
      cases h1 : resultE P fr.tm σ r with
      | none => rw [h1] at e; cases e
      | some v =>
        rw [h1] at e
        cases h2 : rs.mapM (resultE P fr.tm σ) with
        | none => rw [h2] at e; cases e
        | some q =>
          rw [h2] at e
          cases e
          simp [mapM_length h2]
/-! ### a body's beginning -/
theorem args_get (args : List EV) (t : Nat) : (putAt .lf 0 args).get t = args[t]? := by
  rw [putAt_get]
  by_cases g : t < args.length
  · rw [if_pos (by omega), Nat.sub_zero]
  · rw [if_neg (by omega), TrV.get_lf, List.getElem?_eq_none (by omega)]
theorem args_at (vs : List Value) (n t : Nat) : (vs.toArray ++ Array.replicate n undef).getD t undef = (vs[t]?).getD undef := by
  rw [Array.getD_eq_getD_getElem?]
  by_cases g : t < vs.length
  · rw [Array.getElem?_append_left (by rw [List.size_toArray]; omega), List.getElem?_toArray]
  · rw [Array.getElem?_append_right (by rw [List.size_toArray]; omega), Array.getElem?_replicate, List.getElem?_eq_none (by omega)]
    split <;> rfl
theorem start_ok {ρ : Rn} {args : List EV} {vs : List Value} (d : Dens ρ args vs) {n : Nat} (h : args.length ≤ n) : FrOk ρ n { tm := argsT .lf 0 args, ds := [] } { tmps := vs.toArray ++ Array.replicate (n - vs.toArray.size) undef, defers := [] } := by
  have hl := Dens_len d
  refine ⟨?_, ?_, rfl⟩
  · show (vs.toArray ++ Array.replicate (n - vs.toArray.size) undef).size = n
    rw [Array.size_append, Array.size_replicate, List.size_toArray]
    omega
  · intro x
    cases x with
    | tmp t =>
      show Den ρ (Option.rec (motive := fun _ => EV) (.s undef) (fun v => v) ((putAt .lf 0 args).get t)) ((vs.toArray ++ Array.replicate (n - vs.toArray.size) undef).getD t undef)
      rw [args_get, args_at]
      cases e : args[t]? with
      | none =>
        have : vs[t]? = none := by
          have := List.getElem?_eq_none_iff.1 e
          exact List.getElem?_eq_none (by rw [hl]; exact this)
        rw [this]
        exact Den.sv undef
      | some v =>
        obtain ⟨u, h1, h2⟩ := Dens.nth d t e
        rw [h1]
        exact h2
    | const c => exact ofConst_D ρ c
    | global g => exact Den.sv _
    | func g =>
      show Den ρ (.f (.func g) [] []) (.func (.func g) #[] #[])
      simp only [Den]
      exact ⟨[], [], Dens.nilm, Dens.nilm, rfl⟩
/-! ### functions -/
/-- no function with a body bears the name of the one that the model answers by itself -/
def NamesOk (P : Program) : Prop := ∀ (f : FuncId) (fn : Func) (c : Code), P.funcs[f]? = some fn → fn.body = some c → (fn.name == "runtime.NumGoroutine") = false
def BodiesOk (P : Program) (D : Array Oper → Prop) : Prop := ∀ (f : FuncId) (fn : Func) (c : Code), P.funcs[f]? = some fn → fn.body = some c → COk D fn.ntmps c
theorem enters_run (hN : NamesOk P) {f : FuncId} {fn : Func} {c : Code} (hf : P.funcs[f]? = some fn) (hb : fn.body = some c) (args : Array Value) (w : World) : (callFunc f args).run P w = .ok (.enter f args) w := by
  have hp : (program).run P w = .ok P w := rfl
  have hn := hN f fn c hf hb
  have hb' : fn.body.isNone = false := by rw [hb]; rfl
  simp only [callFunc, Sem.run_bind, hp, Result.andThen, hf, hn, hb', Bool.false_eq_true, if_false, Sem.run_pure]
theorem endCall_ok {fn : Func} {f : FuncId} {fr : Fr} {r : R Unit} {v : EV} {σ' : St} (e : endCall P fn f fr r = .ok v σ') : ∃ σ2, r = .ok () σ2 ∧ σ2 = σ' ∧ resultsE P fn fr.tm σ2 = some v := by
  cases r with
  | err l => cases e
  | ok u σ2 =>
    unfold endCall at e
    cases h : resultsE P fn fr.tm σ2 with
    | none => simp only [h] at e; cases e
    | some x =>
      simp only [h] at e
      cases e
      exact ⟨_, rfl, rfl, h⟩
section
variable (hS : StrOk P) (hN : NamesOk P) {D : Array Oper → Prop} (hB : BodiesOk P D) {go : Go1} (G : GoOk P go) (hD : DrawS P D go)
include hS hN hB G hD
theorem dfr_ok {ρ : Rn} {σ : St} {w : World} (R : Rep P ρ σ w) {f : FuncId} {args : List EV} {vs : List Value} (da : Dens ρ args vs) {v : EV} {σ' : St} (e : dfrGo P go f args σ = .ok v σ') :
    (callFunc f vs.toArray).run P w = .ok (.enter f vs.toArray) w ∧ CallsD P f vs.toArray .returning w fun x u' w' => u' = .returning ∧ match x with | .returned _ => ∃ ρ', Stp P ρ σ w ρ' σ' w' | _ => False := by
  unfold dfrGo at e
  rw [atE_eq] at e
  cases hf : P.funcs[f]? with
  | none => rw [hf] at e; cases e
  | some fn =>
    rw [hf] at e
    have e : dfrC P go f args σ fn fn.body = .ok v σ' := e
    cases hb : fn.body with
    | none => rw [hb] at e; cases e
    | some c =>
      rw [hb] at e
      have e : dfrB P go f args σ fn c (Nat.ble (lenL args) fn.ntmps) = .ok v σ' := e
      cases hl : Nat.ble (lenL args) fn.ntmps with
      | false => rw [hl] at e; cases e
      | true =>
        rw [hl] at e
        have e : dfrOut P fn f (codeE P go c { tm := argsT .lf 0 args, ds := [] } σ) = .ok v σ' := e
        have hlen : args.length ≤ fn.ntmps := by rw [← lenL_eq]; exact Nat.le_of_ble_eq_true hl
        refine ⟨enters_run hN hf hb _ w, ?_⟩
        refine callsD_of_wp (R := fun x w' => match x with | .returned _ => ∃ ρ', Stp P ρ σ w ρ' σ' w' | _ => False) hf hb ?_
        cases hc : codeE P go c { tm := argsT .lf 0 args, ds := [] } σ with
        | err l => rw [hc] at e; cases e
        | ok x fr1 σ1 =>
          rw [hc] at e
          refine wp_mono (code_ok hS G hD c (hB f fn c hf hb) _ σ _ w ρ x fr1 σ1 hc (start_ok da hlen) R) ?_
          intro ex a1 w1 hq
          obtain ⟨h1, ρ1, F1, S1⟩ := hq
          have fin : dfrRet P fn f fr1 σ1 fr1.ds = .ok v σ' → a1.defers = [] ∧ ∃ u, (results fn a1.tmps).run P w1 = .ok u w1 ∧ ∃ ρ', Stp P ρ σ w ρ' σ' w1 := by
            intro e
            have F1d := F1.ds
            cases hds : fr1.ds with
            | cons d ds => rw [hds] at e; cases e
            | nil =>
              rw [hds] at e F1d
              obtain ⟨σ2, k1, k2, k3⟩ := endCall_ok (r := .ok () σ1) e
              cases k1
              subst k2
              obtain ⟨u, g1, g2⟩ := results_D F1 S1.rep k3
              exact ⟨F1d, u, g1, ρ1, S1⟩
          cases x with
          | nrm =>
            have h1 : ex = .normal := h1
            subst h1
            exact fin e
          | rt =>
            have h1 : ex = .ret := h1
            subst h1
            exact fin e
          | ex id => cases e
          | gt l => cases e
theorem defers_ok {fn : Func} {tmps : Array Value} {R : Ending → World → Prop} : ∀ (ds : List (FuncId × List EV)) (l : List Deferred) (ρ : Rn) (σ : St) (w : World) (σ' : St), defersE P go ds σ = .ok () σ' → Rep P ρ σ w → DefsD ρ ds l →
    (∀ ρ' w', Stp P ρ σ w ρ' σ' w' → ∃ v, (results fn tmps).run P w' = .ok v w' ∧ R (.returned v) w') → Leaves P fn tmps R l .returning w
  | [], l, ρ, σ, w, σ', e, Rp, d, H => by
    have e : Ev.R.ok () σ = .ok () σ' := e
    cases e
    rw [show l = [] from d]
    exact H ρ w (Stp.refl Rp)
  | (f, args) :: ds, l, ρ, σ, w, σ', e, Rp, d, H => by
    obtain ⟨x, r, ⟨cap, us, k1, k2, k3⟩, d2, rfl⟩ := d
    have e : dfrEnd (defersE P go ds) (dfrGo P go f args σ) = .ok () σ' := e
    cases hg : dfrGo P go f args σ with
    | err m => rw [hg] at e; cases e
    | ok v σ1 =>
      rw [hg] at e
      have e : defersE P go ds σ1 = .ok () σ' := e
      obtain ⟨h1, h2⟩ := dfr_ok hS hN hB G hD Rp k2 hg
      refine ⟨by simp, .func f, cap, f, us.toArray, k1, ?_, h2.mono ?_⟩
      · rw [k1]
        simp only [invoke]
        rw [k3]; exact h1
      · intro y u' w' hy
        obtain ⟨hu, hy⟩ := hy
        subst hu
        cases y with
        | returned u =>
          obtain ⟨ρ1, S1⟩ := hy
          exact defers_ok ds r ρ1 σ1 w' σ' e S1.rep (d2.mono S1.le) (fun ρ2 w2 S2 => H ρ2 w2 (S1.trans S2))
        | panicked c => exact hy.elim
        | outgrown => exact hy.elim
theorem go_ok {ρ : Rn} {σ : St} {w : World} (Rp : Rep P ρ σ w) {f : FuncId} {args : List EV} {vs : List Value} (da : Dens ρ args vs) {v : EV} {σ' : St} (e : goE P go f args σ (atE P.funcs f) = .ok v σ') :
    Runs P f vs.toArray w fun u w' => ∃ ρ', Den ρ' v u ∧ Stp P ρ σ w ρ' σ' w' := by
  rw [atE_eq] at e
  cases hf : P.funcs[f]? with
  | none => rw [hf] at e; cases e
  | some fn =>
    rw [hf] at e
    have e : enterE P go f args σ fn fn.body = .ok v σ' := e
    cases hb : fn.body with
    | none =>
      rw [hb] at e
      have e : libE P f σ (args.mapM isS) = .ok v σ' := e
      cases hm : args.mapM isS with
      | none => rw [hm] at e; cases e
      | some l =>
        rw [hm] at e
        unfold libE at e
        cases hs : semN P 99999 (callFunc f l.toArray) with
        | none => simp only [hs] at e; cases e
        | some x =>
          simp only [hs] at e
          cases x with
          | value u =>
            have e1 : v = .s u := by cases e; rfl
            have e2 : σ' = σ := by cases e; rfl
            subst e1 e2
            have hv := mapM_isS hm da
            subst hv
            exact .inr ⟨u, w, semN_run (P := P) 99999 hs w, ρ, Den.sv u, Stp.refl Rp⟩
          | _ => cases e
    | some c =>
      rw [hb] at e
      have e : enterB P go f args σ fn c (Nat.ble (lenL args) fn.ntmps) = .ok v σ' := e
      cases hl : Nat.ble (lenL args) fn.ntmps with
      | false => rw [hl] at e; cases e
      | true =>
        rw [hl] at e
        have e : bodyEnd P go fn f (codeE P go c { tm := argsT .lf 0 args, ds := [] } σ) = .ok v σ' := e
        have hlen : args.length ≤ fn.ntmps := by rw [← lenL_eq]; exact Nat.le_of_ble_eq_true hl
        refine .inl ⟨enters_run hN hf hb _ w, ?_⟩
        refine calls_of_wp_defers hf hb ?_
        cases hc : codeE P go c { tm := argsT .lf 0 args, ds := [] } σ with
        | err l => rw [hc] at e; cases e
        | ok x fr1 σ1 =>
          rw [hc] at e
          refine wp_mono (code_ok hS G hD c (hB f fn c hf hb) _ σ _ w ρ x fr1 σ1 hc (start_ok da hlen) Rp) ?_
          intro ex a1 w1 hq
          obtain ⟨h1, ρ1, F1, S1⟩ := hq
          have fin : endCall P fn f fr1 (defersE P go fr1.ds σ1) = .ok v σ' → Leaves P fn a1.tmps (fun | .returned u, w' => ∃ ρ', Den ρ' v u ∧ Stp P ρ σ w ρ' σ' w' | _, _ => False) a1.defers .returning w1 := by
            intro e
            obtain ⟨σ2, k1, k2, k3⟩ := endCall_ok e
            subst k2
            refine defers_ok hS hN hB G hD fr1.ds a1.defers ρ1 σ1 w1 σ2 k1 S1.rep F1.ds ?_
            intro ρ2 w2 S2
            obtain ⟨u, g1, g2⟩ := results_D (F1.mono S2.le) S2.rep k3
            exact ⟨u, g1, ρ2, g2, S1.trans S2⟩
          cases x with
          | nrm =>
            have h1 : ex = .normal := h1
            subst h1
            exact fin e
          | rt =>
            have h1 : ex = .ret := h1
            subst h1
            exact fin e
          | ex id => cases e
          | gt l => cases e
end
/-- what summaries promise -/
def ExtOk (P : Program) (ext : FuncId → List EV → St → Option (R EV)) : Prop := ∀ (ρ : Rn) (f : FuncId) (args : List EV) (σ : St) (w : World) (vs : List Value) (v : EV) (σ' : St), Rep P ρ σ w → Dens ρ args vs → ext f args σ = some (.ok v σ') →
  Runs P f vs.toArray w fun u w' => ∃ ρ', Den ρ' v u ∧ Stp P ρ σ w ρ' σ' w'
theorem run_ok (hS : StrOk P) (hN : NamesOk P) {D : Array Oper → Prop} (hB : BodiesOk P D) (hD : ∀ go, GoOk P go → DrawS P D go) {ext : FuncId → List EV → St → Option (R EV)} (hE : ExtOk P ext) : ∀ n, GoOk P (run P ext n)
  | 0 => fun ρ f args σ w vs v σ' _ _ e => by
    have e : R.err [199] = .ok v σ' := e
    cases e
  | n + 1 => fun ρ f args σ w vs v σ' Rp da e => by
    have G := run_ok hS hN hB hD hE n
    have e : extE P (run P ext n) f args σ (ext f args σ) = .ok v σ' := e
    cases hx : ext f args σ with
    | none =>
      rw [hx] at e
      exact go_ok hS hN hB G (hD _ G) Rp da e
    | some r =>
      rw [hx] at e
      cases r with
      | err l => cases e
      | ok x s =>
        cases e
        exact hE ρ f args σ w vs v σ' Rp da hx
end Ev
end Go.Proofs.YtkfhapidoolfdaaGreatDoor

namespace Go.Proofs.YtkfhapidoolfdaaGreatDoor
open Go
namespace Ev
variable {P : Program}

def Agree (tm tm' : TrV) (l : List Operand) : Prop := ∀ x ∈ l, ev tm x = ev tm' x ∧ sval tm x = sval tm' x
theorem Agree.sub {tm tm' : TrV} {l l' : List Operand} (A : Agree tm tm' l) (h : ∀ x ∈ l', x ∈ l) : Agree tm tm' l' := fun x hx => A x (h x hx)
theorem Agree.evs {tm tm' : TrV} : ∀ {l : List Operand}, Agree tm tm' l → Ev.evs tm l = Ev.evs tm' l
  | [], _ => rfl
  | x :: l, A => by
    show ev tm x :: Ev.evs tm l = ev tm' x :: Ev.evs tm' l
    rw [(A x (List.mem_cons_self ..)).1, Agree.evs (A.sub (fun y hy => List.mem_cons_of_mem _ hy))]
theorem Agree.parts {tm tm' : TrV} : ∀ {l : List (Nat × Operand)}, Agree tm tm' (l.map (·.2)) → evParts tm l = evParts tm' l
  | [], _ => rfl
  | x :: l, A => by
    show (x.1, ev tm x.2) :: evParts tm l = (x.1, ev tm' x.2) :: evParts tm' l
    rw [(A x.2 (by simp)).1, Agree.parts (l := l) (A.sub (fun y hy => by rw [List.map_cons]; exact List.mem_cons_of_mem _ hy))]
theorem Agree.evO {tm tm' : TrV} {x : Option Operand} (A : Agree tm tm' x.toList) : Ev.evO tm x = Ev.evO tm' x := by
  cases x with
  | none => rfl
  | some y => simp only [Ev.evO]; rw [(A y (by simp)).1]
/-- f looks at o's operands alone -/
def Local (o : Oper) (f : TrV → St → Out) : Prop := ∀ tm tm' σ, Agree tm tm' o.op.operands.toList → f tm σ = f tm' σ
theorem scalar_local {o : Oper} (hs : ∀ cs b, o.op ≠ .select cs b) : Local o (scalarF P o) := by
  intro tm tm' σ A
  have h1 : o.op.operands.toList.all (fun x => (sval tm x).isSome) = o.op.operands.toList.all (fun x => (sval tm' x).isSome) := by
    rw [Bool.eq_iff_iff, List.all_eq_true, List.all_eq_true]
    constructor
    · intro h x hx; rw [← (A x hx).2]; exact h x hx
    · intro h x hx; rw [(A x hx).2]; exact h x hx
  have h2 : execOp (sval1 tm) o = execOp (sval1 tm') o := by
    refine execOp_congr o hs ?_
    intro x hx
    have := (A x (by simpa using hx)).2
    simp only [sval1, this]
  unfold scalarF scalarE
  rw [h1, h2]
theorem none_local (o : Oper) : Local o noneF := fun _ _ _ _ => rfl
def KdLocal (o : Oper) : Kd → Prop
  | .plain f => Local o f
  | .mem f => Local o f
  | _ => True
theorem builtin_local {o : Oper} {c : Go.Call} {b : Builtin} (h : o.op = .call c) (hb : c.callee = .builtin b) : KdLocal o (builtinK P b o c.args.toList c.argTypes.toList) := by
  have sc : Local o (scalarF P o) := scalar_local (fun cs b q => by rw [h] at q; cases q)
  have ops : ∀ {tm tm' : TrV}, Agree tm tm' o.op.operands.toList → ∀ x ∈ c.args.toList, ev tm x = ev tm' x := by
    intro tm tm' A x hx
    refine (A x ?_).1
    rw [h]
    simp only [Op.operands, Go.Call.operands, hb]
    simpa using hx
  unfold builtinK
  split
  · next s x t ha ht =>
    intro tm tm' σ A
    simp only [appendF, ops A s (by rw [ha]; simp), ops A x (by rw [ha]; simp)]
  · next s x t u ha ht =>
    split
    · intro tm tm' σ A
      simp only [appendF, ops A s (by rw [ha]; simp), ops A x (by rw [ha]; simp)]
    · exact none_local o
  · next x t ts ha ht => intro tm tm' σ A; simp only [lenF, ops A x (by rw [ha]; simp)]
  · next x t ts ha ht => intro tm tm' σ A; simp only [capF, ops A x (by rw [ha]; simp)]
  · next d s t ts ha ht => intro tm tm' σ A; simp only [copyF, ops A d (by rw [ha]; simp), ops A s (by rw [ha]; simp)]
  · next x t ts ha ht => intro tm tm' σ A; simp only [clearF, ops A x (by rw [ha]; simp)]
  · next m k t ts ha ht => intro tm tm' σ A; simp only [deleteF, ops A m (by rw [ha]; simp), ops A k (by rw [ha]; simp)]
  · exact sc
  · exact sc
  · exact none_local o
theorem kind_local (o : Oper) : KdLocal o (kindOf P o) := by
  have one : ∀ {x : Operand}, o.op.operands = #[x] → ∀ {tm tm' : TrV}, Agree tm tm' o.op.operands.toList → ev tm x = ev tm' x := by
    intro x h tm tm' A
    exact (A x (by rw [h]; simp)).1
  have two : ∀ {x y : Operand}, o.op.operands = #[x, y] → ∀ {tm tm' : TrV}, Agree tm tm' o.op.operands.toList → ev tm x = ev tm' x ∧ ev tm y = ev tm' y := by
    intro x y h tm tm' A
    exact ⟨(A x (by rw [h]; simp)).1, (A y (by rw [h]; simp)).1⟩
  have three : ∀ {x y z : Operand}, o.op.operands = #[x, y, z] → ∀ {tm tm' : TrV}, Agree tm tm' o.op.operands.toList → ev tm x = ev tm' x ∧ ev tm y = ev tm' y ∧ ev tm z = ev tm' z := by
    intro x y z h tm tm' A
    exact ⟨(A x (by rw [h]; simp)).1, (A y (by rw [h]; simp)).1, (A z (by rw [h]; simp)).1⟩
  unfold kindOf
  split
  · next h => intro tm tm' σ A; simp only [moveF, one (by rw [h]; rfl) A]
  · next h => intro tm tm' σ A; simp only [moveF, one (by rw [h]; rfl) A]
  · next h => intro tm tm' σ A; obtain ⟨a, b, c⟩ := three (by rw [h]; rfl) A; simp only [pickF, a, b, c]
  · next h => intro tm tm' σ A; rfl
  · next h => intro tm tm' σ A; simp only [boxF, one (by rw [h]; rfl) A]
  · next t parts h =>
    intro tm tm' σ A
    have : evParts tm parts.toList = evParts tm' parts.toList := Agree.parts (A.sub (fun x hx => by rw [h]; simpa [Op.operands] using hx))
    simp only [buildF, this]
  · next t len parts h =>
    intro tm tm' σ A
    have : evParts tm parts.toList = evParts tm' parts.toList := Agree.parts (A.sub (fun x hx => by rw [h]; simpa [Op.operands] using hx))
    simp only [buildSliceF, this]
  · next h => intro tm tm' σ A; simp only [loadF, one (by rw [h]; rfl) A]
  · next h => intro tm tm' σ A; obtain ⟨a, b⟩ := two (by rw [h]; rfl) A; simp only [storeF, a, b]
  · next h => intro tm tm' σ A; simp only [nilF, one (by rw [h]; rfl) A]
  · next h =>
    intro tm tm' σ A
    obtain ⟨a, b⟩ := two (by rw [h]; rfl) A
    have sc := scalar_local (P := P) (o := o) (fun cs b q => by rw [h] at q; cases q) tm tm' σ A
    unfold binF binE binS binN
    rw [a, b, sc]
  · next h => exact scalar_local (fun cs b q => by rw [h] at q; cases q)
  · next h =>
    intro tm tm' σ A
    have sc := scalar_local (P := P) (o := o) (fun cs b q => by rw [h] at q; cases q) tm tm' σ A
    unfold convF convE
    rw [one (by rw [h]; rfl) A, sc]
  · next h => intro tm tm' σ A; simp only [arrF, one (by rw [h]; rfl) A]
  · next h => intro tm tm' σ A; simp only [mkIfF, one (by rw [h]; rfl) A]
  · next fn fs cs h =>
    intro tm tm' σ A
    have h1 : Ev.evs tm fs.toList = Ev.evs tm' fs.toList := Agree.evs (A.sub (fun x hx => by rw [h]; simp only [Op.operands]; simp at hx ⊢; exact .inl hx))
    have h2 : Ev.evs tm cs.toList = Ev.evs tm' cs.toList := Agree.evs (A.sub (fun x hx => by rw [h]; simp only [Op.operands]; simp at hx ⊢; exact .inr hx))
    simp only [mkFnF, h1, h2]
  · next h => intro tm tm' σ A; rfl
  · next h => intro tm tm' σ A; obtain ⟨a, b⟩ := two (by rw [h]; rfl) A; simp only [mkSlF, a, b]
  · next t x lo hi mx h =>
    intro tm tm' σ A
    have sc := scalar_local (P := P) (o := o) (fun cs b q => by rw [h] at q; cases q) tm tm' σ A
    have hx : ev tm x = ev tm' x := (A x (by rw [h]; simp [Op.operands])).1
    have h1 : Ev.evO tm lo = Ev.evO tm' lo := Agree.evO (A.sub (fun y hy => by rw [h]; simp only [Op.operands]; simp at hy ⊢; simp [hy]))
    have h2 : Ev.evO tm hi = Ev.evO tm' hi := Agree.evO (A.sub (fun y hy => by rw [h]; simp only [Op.operands]; simp at hy ⊢; simp [hy]))
    have h3 : Ev.evO tm mx = Ev.evO tm' mx := Agree.evO (A.sub (fun y hy => by rw [h]; simp only [Op.operands]; simp at hy ⊢; simp [hy]))
    unfold sliceF
    rw [hx, sc, h1, h2, h3]
  · next h => intro tm tm' σ A; simp only [fieldAddrF, one (by rw [h]; rfl) A]
  · next h => intro tm tm' σ A; simp only [fieldF, one (by rw [h]; rfl) A]
  · next h => intro tm tm' σ A; obtain ⟨a, b⟩ := two (by rw [h]; rfl) A; simp only [indexAddrF, a, b]
  · next h =>
    intro tm tm' σ A
    have sc := scalar_local (P := P) (o := o) (fun cs b q => by rw [h] at q; cases q) tm tm' σ A
    obtain ⟨a, b⟩ := two (by rw [h]; rfl) A
    unfold indexF indexX
    rw [a, b, sc]
  · next h => intro tm tm' σ A; obtain ⟨a, b⟩ := two (by rw [h]; rfl) A; simp only [lookupF, a, b]
  · next h => intro tm tm' σ A; obtain ⟨a, b, c⟩ := three (by rw [h]; rfl) A; simp only [updateF, a, b, c]
  · next h => intro tm tm' σ A; obtain ⟨a, b, c⟩ := three (by rw [h]; rfl) A; simp only [updateF, a, b, c]
  · next h => intro tm tm' σ A; obtain ⟨a, b⟩ := two (by rw [h]; rfl) A; simp only [entryF, a, b]
  · next h => intro tm tm' σ A; obtain ⟨a, b, c⟩ := three (by rw [h]; rfl) A; simp only [entryStoreF, a, b, c]
  · next h => intro tm tm' σ A; simp only [rangeF, one (by rw [h]; rfl) A]
  · next h => intro tm tm' σ A; simp only [nextF, one (by rw [h]; rfl) A]
  · next h => intro tm tm' σ A; simp only [entryAtF, one (by rw [h]; rfl) A]
  · next h => intro tm tm' σ A; simp only [assertF, one (by rw [h]; rfl) A]
  · next h => intro tm tm' σ A; simp only [extractF, one (by rw [h]; rfl) A]
  · next c h =>
    unfold callK
    split
    · next b hb => exact builtin_local h hb
    · trivial
    · trivial
  · trivial
  · exact none_local o
theorem callee_local {o : Oper} {c : Go.Call} (h : o.op = .call c) {tm tm' : TrV} (A : Agree tm tm' o.op.operands.toList) (σ : St) : calleeE P σ tm c = calleeE P σ tm' c := by
  have mem : ∀ x ∈ c.operands, ev tm x = ev tm' x := fun x hx => (A x (by rw [h]; simpa [Op.operands] using hx)).1
  have args : Ev.evs tm c.args.toList = Ev.evs tm' c.args.toList := Agree.evs (A.sub (fun x hx => by rw [h]; simp only [Op.operands, Go.Call.operands]; simp at hx ⊢; exact .inr hx))
  unfold calleeE
  cases hc : c.callee with
  | builtin b => rfl
  | value f => simp only [args, mem f (by simp [Go.Call.operands, hc])]
  | invoke r n => simp only [args, mem r (by simp [Go.Call.operands, hc])]
/-! ### an operation where its own operands are known -/
noncomputable def onlyTm (tm : TrV) : List Operand → TrV
  | [] => .lf
  | .tmp k :: l => (onlyTm tm l).put k (tm.get k)
  | _ :: l => onlyTm tm l
theorem onlyTm_get (tm : TrV) (k : Nat) : ∀ l : List Operand, (Operand.tmp k ∈ l → (onlyTm tm l).get k = tm.get k) ∧ (Operand.tmp k ∉ l → (onlyTm tm l).get k = none)
  | [] => ⟨fun h => (by cases h), fun _ => TrV.get_lf k⟩
  | .tmp j :: l => by
    obtain ⟨h1, h2⟩ := onlyTm_get tm k l
    have e : (onlyTm tm (.tmp j :: l)).get k = if k = j then tm.get j else (onlyTm tm l).get k := by
      rw [onlyTm, TrV.get_put]
    rw [e]
    by_cases g : k = j
    · subst g
      rw [if_pos rfl]
      exact ⟨fun _ => rfl, fun h => absurd (List.mem_cons_self ..) h⟩
    · rw [if_neg g]
      refine ⟨fun h => h1 ?_, fun h => h2 (fun q => h (List.mem_cons_of_mem _ q))⟩
      rcases List.mem_cons.1 h with q | q
      · cases q; exact absurd rfl g
      · exact q
  | .const c :: l => by
    obtain ⟨h1, h2⟩ := onlyTm_get tm k l
    refine ⟨fun h => h1 ?_, fun h => h2 (fun q => h (List.mem_cons_of_mem _ q))⟩
    rcases List.mem_cons.1 h with q | q
    · cases q
    · exact q
  | .global c :: l => by
    obtain ⟨h1, h2⟩ := onlyTm_get tm k l
    refine ⟨fun h => h1 ?_, fun h => h2 (fun q => h (List.mem_cons_of_mem _ q))⟩
    rcases List.mem_cons.1 h with q | q
    · cases q
    · exact q
  | .func c :: l => by
    obtain ⟨h1, h2⟩ := onlyTm_get tm k l
    refine ⟨fun h => h1 ?_, fun h => h2 (fun q => h (List.mem_cons_of_mem _ q))⟩
    rcases List.mem_cons.1 h with q | q
    · cases q
    · exact q
theorem agree_get {tm tm' : TrV} {l : List Operand} (h : ∀ k, Operand.tmp k ∈ l → tm'.get k = tm.get k) : Agree tm tm' l := by
  intro x hx
  cases x with
  | tmp k =>
    have e := h k hx
    constructor
    · show Option.rec (motive := fun _ => EV) (.s undef) (fun v => v) (tm.get k) = Option.rec (motive := fun _ => EV) (.s undef) (fun v => v) (tm'.get k)
      rw [e]
    · simp only [sval, e]
  | const c => exact ⟨rfl, rfl⟩
  | global g => exact ⟨rfl, rfl⟩
  | func g => exact ⟨rfl, rfl⟩
theorem agree_only (tm : TrV) (l : List Operand) : Agree tm (onlyTm tm l) l := agree_get (fun k hk => (onlyTm_get tm k l).1 hk)
open Classical in
noncomputable def onlyEta (η : Operand → Value) (l : List Operand) : Operand → Value
  | .tmp k => if Operand.tmp k ∈ l then η (.tmp k) else undef
  | .const c => c
  | .global g => .pointer (some ⟨g, 0, none⟩)
  | .func g => .func (.func g) #[] #[]
theorem only_D {ρ : Rn} {tm : TrV} {η : Operand → Value} {l : List Operand} (D : ∀ x ∈ l, Den ρ (ev tm x) (η x)) : (∀ x, Den ρ (ev (onlyTm tm l) x) (onlyEta η l x)) ∧ ∀ x ∈ l, η x = onlyEta η l x := by
  constructor
  · intro x
    cases x with
    | tmp k =>
      obtain ⟨h1, h2⟩ := onlyTm_get tm k l
      have e : ev (onlyTm tm l) (.tmp k) = Option.rec (motive := fun _ => EV) (.s undef) (fun v => v) ((onlyTm tm l).get k) := rfl
      by_cases g : Operand.tmp k ∈ l
      · rw [e, h1 g, onlyEta, if_pos g]
        exact D _ g
      · rw [e, h2 g, onlyEta, if_neg g]
        exact Den.sv undef
    | const c => exact ofConst_D ρ c
    | global g => exact Den.sv _
    | func g =>
      show Den ρ (.f (.func g) [] []) (.func (.func g) #[] #[])
      simp only [Den]
      exact ⟨[], [], Dens.nilm, Dens.nilm, rfl⟩
  · intro x hx
    have d := D x hx
    cases x with
    | tmp k => rw [onlyEta, if_pos hx]
    | const c => exact ofConst_inv d
    | global g => exact Den.s d
    | func g =>
      obtain ⟨us, vs, h1, h2, h3⟩ := Den.f (fn := .func g) (fs := []) (cs := []) d
      rw [h3, h1.nil, h2.nil]; rfl
/-- what an operation does within a part V of the memory -/
def Does (P : Program) (o : Oper) (tm : TrV) (V : St) (v : EV) (σ1 : St) : Prop := ∀ (ρ : Rn) (w : World) (η : Operand → Value), Rep P ρ V w → (∀ x ∈ o.op.operands.toList, Den ρ (ev tm x) (η x)) →
  OpEnds P o η w fun u w' => ∃ ρ', Den ρ' v u ∧ Stp P ρ V w ρ' σ1 w'
theorem OpEnds.congr {o : Oper} {η η' : Operand → Value} {w : World} {R : Value → World → Prop} (h : execOp η o = execOp η' o) (H : OpEnds P o η' w R) : OpEnds P o η w R := by
  unfold OpEnds
  rw [h]; exact H
theorem fn_does {o : Oper} {f : TrV → St → Out} (hk : OpOk P o f) (hl : Local o f) (hs : ∀ cs b, o.op ≠ .select cs b) {tm : TrV} {V : St} {v : EV} {σ1 : St} (e : f tm V = some (v, σ1)) : Does P o tm V v σ1 := by
  intro ρ w η R D
  obtain ⟨h1, h2⟩ := only_D D
  have e2 : f (onlyTm tm o.op.operands.toList) V = some (v, σ1) := by
    rw [← hl tm (onlyTm tm o.op.operands.toList) V (agree_only tm _)]; exact e
  refine OpEnds.congr (execOp_congr o hs (fun x hx => h2 x (by simpa using hx))) ?_
  exact OpOk.ends hk R h1 e2
theorem call_does {go : Go1} (G : GoOk P go) {o : Oper} {c : Go.Call} (h : o.op = .call c) {tm : TrV} {V : St} {g : FuncId} {as : List EV} (e : calleeE P V tm c = some (g, as)) {v : EV} {σ1 : St} (e2 : go g as V = .ok v σ1) : Does P o tm V v σ1 := by
  intro ρ w η R D
  obtain ⟨h1, h2⟩ := only_D D
  have e3 : calleeE P V (onlyTm tm o.op.operands.toList) c = some (g, as) := by
    rw [← callee_local h (agree_only tm _) V]; exact e
  refine OpEnds.congr (execOp_congr o (fun cs b q => by rw [h] at q; cases q) (fun x hx => h2 x (by simpa using hx))) ?_
  exact call_ends G R h1 h e3 e2
theorem kind_select {o : Oper} {cs : Array SelectCase} {b : Bool} (h : o.op = .select cs b) : kindOf P o = .plain noneF := by
  unfold kindOf; rw [h]
end Ev
end Go.Proofs.YtkfhapidoolfdaaGreatDoor
