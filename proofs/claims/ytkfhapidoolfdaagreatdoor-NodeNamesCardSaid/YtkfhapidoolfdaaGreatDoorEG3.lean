/-
  PLAIN, OVER ANY PROGRAM: places, parts; what is reckoned by the model itself. PLAIN, OVER ANY PROGRAM: places, parts; what is reckoned by the model itself. PLAIN, OVER ANY PROGRAM: what is reckoned by the model itself. PLAIN, OVER ANY PROGRAM: conversions, lengths, slices. PLAIN, OVER ANY PROGRAM: slices. PLAIN, OVER ANY PROGRAM: copies, clears.
-/
import Derived.Test.YtkfhapidoolfdaaGreatDoorEG2
import Derived.IntWalk
import Derived.Orders
import Derived.Laws.IdiomStrings
import Derived.Laws.Append
namespace Go.Proofs.YtkfhapidoolfdaaGreatDoor
open Go
namespace Ev
variable {P : Program}

theorem natE_some {e : EV} {n : Nat} (h : natE e = some n) : ∃ k, e = .s (.int k (.ofNat n)) := by
  unfold natE at h
  split at h
  · cases h; exact ⟨_, rfl⟩
  · cases h
theorem natE_D {ρ : Rn} {e : EV} {n : Nat} {x : Value} (h : natE e = some n) (d : Den ρ e x) : ∃ k, x = .int k (n : Int) := by
  obtain ⟨k, rfl⟩ := natE_some h
  exact ⟨k, d.s⟩
theorem op_makeSlice {o : Oper} {t : TypeId} {l c : Operand} (h : o.op = .makeSlice t l c) : OpOk P o (mkSlF P t l c) := by
  intro ρ tm σ w η v σ' R D e
  rw [mkSlF] at e
  cases e1 : underE P t with
  | none => rw [e1] at e; cases e
  | some d =>
    rw [e1] at e
    cases d with
    | slice el =>
      cases e2 : natE (ev tm l) with
      | none => simp only [elemE, e2] at e; cases e
      | some n =>
        cases e3 : natE (ev tm c) with
        | none => simp only [elemE, e2, e3] at e; cases e
        | some m =>
          simp only [elemE, e2, e3] at e
          obtain ⟨k1, h1⟩ := natE_D e2 (D l)
          obtain ⟨k2, h2⟩ := natE_D e3 (D c)
          cases e4 : mayMake P el m with
          | none => rw [e4] at e; cases e
          | some x =>
            rw [e4] at e
            cases e5 : Nat.ble n m with
            | false => simp only [mkSlE, e5] at e; cases e
            | true =>
              simp only [mkSlE, e5] at e
              cases e
              have hnm := Nat.le_of_ble_eq_true e5
              unfold mayMake at e4
              cases e6 : zeroR P el with
              | none => rw [e6] at e4; cases e4
              | some z =>
                cases e7 : infoE P el with
                | none => rw [e6, e7] at e4; cases e4
                | some i =>
                  rw [e6, e7] at e4
                  simp only at e4
                  cases e8 : (Nat.beq z.len i.size && Nat.ble m 60000 && Nat.ble i.bytes 1000000 && Nat.ble 1 i.size) with
                  | false => rw [e8] at e4; cases e4
                  | true =>
                    rw [e8] at e4
                    simp only [Bool.and_eq_true] at e8
                    obtain ⟨⟨⟨q1, q2⟩, q3⟩, q4⟩ := e8
                    have q1 := Nat.eq_of_beq_eq_true q1
                    have q2 := Nat.le_of_ble_eq_true q2
                    have q3 := Nat.le_of_ble_eq_true q3
                    have q4 := Nat.le_of_ble_eq_true q4
                    rw [zeroR] at e6
                    cases e9 : zeroE P el with
                    | none => rw [e9] at e6; cases e6
                    | some y =>
                      rw [e9] at e6
                      have e6 : rowT P el (rowOf y) = z := by cases e6; rfl
                      obtain ⟨u, g1, g2⟩ := run_zeroE e9
                      have hi := infoE_some e7
                      have dz : RowD (Rn.add ρ σ.nx w.heap.size 0) z u.cells.toList := by
                        rw [← e6]; exact rowT_D el (g2 _).row
                      have hz : u.cells.size = i.size := by
                        have := RowD.len dz
                        rw [q1, Array.length_toList] at this
                        exact this
                      have hl := zeros_list u.cells m i.size hz
                      have hat : ∀ j, j < m * i.size → ((Array.range (m * i.size)).map (u.cells[· % u.cells.size]!))[j]? = u.cells.toList[j % u.cells.toList.length]? := by
                        intro j hj
                        rw [← Array.getElem?_toList, hl]
                        exact flat_at u.cells.toList (by rw [Array.length_toList]; omega) m j (by rw [Array.length_toList, hz]; exact hj)
                      have hmod : ∀ j, j % u.cells.toList.length < u.cells.toList.length := fun j => Nat.mod_lt _ (by rw [Array.length_toList]; omega)
                      have hx : ObjD P (Rn.add ρ σ.nx w.heap.size 0) 0 x (.cells ((Array.range (m * i.size)).map (u.cells[· % u.cells.size]!)) el (0, 0)) := by
                        cases z with
                        | l cs =>
                          cases e4
                          refine ⟨_, rfl, by simp, fun _ => by simp, (fun e => by cases e), ?_⟩
                          intro j hj
                          rw [hat j hj]
                          have hlen := Dens_len dz
                          obtain ⟨v', p1, p2⟩ := nth_D dz (show j % u.cells.toList.length < cs.length by rw [← hlen]; exact hmod j)
                          refine ⟨v', p1, ?_⟩
                          rw [cellAt, TrV.get_lf]
                          show Den _ (nth cs (Nat.mod j (lenL cs))) v'
                          rw [lenL_eq, ← hlen]; exact p2
                        | y bs b =>
                          simp only [zeros] at e4
                          cases p1 : Nat.beq bs 0 with
                          | false => rw [p1] at e4; cases e4
                          | true =>
                            rw [p1] at e4
                            cases e4
                            have p2 : bs = 0 := Nat.eq_of_beq_eq_true p1
                            subst p2
                            refine ⟨_, rfl, by simp, fun _ => by simp, (fun e => by cases e), ?_⟩
                            intro j hj
                            rw [hat j hj]
                            have hb : u.cells.toList = unV 0 0 b := dz
                            have hbl : u.cells.toList.length = b := by rw [hb]; exact unV_len 0 b 0
                            rw [hb, unV_at 0 b 0 _ (by rw [← hb]; rw [← hbl]; exact hmod j)]
                            simp [byV, segB_eq]
                      obtain ⟨w', j1, j2⟩ := R.row 0 el _ hx
                      refine ⟨_, w', .value (.slice (some ⟨w.heap.size, 0, none⟩) n m), ?_, .inl ⟨_, rfl, ?_⟩, j2⟩
                      · have c1 : IntKind.i64.wrap (n : Int) = n := IntWalk.i64_in _ (by omega)
                        have c2 : IntKind.i64.wrap (m : Int) = m := IntWalk.i64_in _ (by omega)
                        have c3 : ((m : Int) < 0 || (i.bytes : Int) * m > 2 ^ 48) = false := by
                          have hb : i.bytes * m ≤ 60000000000 := Nat.mul_le_mul q3 q2
                          have hb' : (i.bytes : Int) * (m : Int) ≤ 60000000000 := by rw [← Int.natCast_mul]; exact Int.ofNat_le.2 hb
                          simp only [Bool.or_eq_false_iff, decide_eq_false_iff_not]
                          omega
                        have c4 : ((m : Int) < 0 || (i.bytes : Int) * m > 2 ^ 48 || (n : Int) < 0 || (n : Int) > m) = false := by
                          rw [c3]
                          simp only [Bool.false_or, Bool.or_eq_false_iff, decide_eq_false_iff_not]
                          omega
                        have c5 : ¬ m * i.bytes > roomBytes := by
                          have hb : m * i.bytes ≤ 60000000000 := Nat.mul_le_mul q2 q3
                          have : roomBytes = 140737488355328 := rfl
                          omega
                        have c6 : (typeInfo el).run P w = .ok i w := by simp [typeInfo, program, Sem.run, hi]
                        have c7 : szE P el = some i.size := by rw [szE, e7]
                        rw [execOp, h]
                        by_cases g : m * i.size = 0
                        · have hm0 : ((Array.range (m * i.size)).map (u.cells[· % u.cells.size]!)) = ((Array.range (m * i.size)).map ((#[] : Array Value)[· % (#[] : Array Value).size]!)) := by rw [g]; simp
                          rw [hm0] at j1
                          simp only [Instr.makeSlice, Sem.run_bind, run_underE e1, h1, h2, asInt, asIntOf, Result.andThen, Sem.run_pure, c6, c1, c2, c4, askRoom, Int.toNat_natCast, if_neg c5, run_sizeE c7, if_pos g, j1, Bool.false_eq_true, if_false]
                        · simp only [Instr.makeSlice, Sem.run_bind, run_underE e1, h1, h2, asInt, asIntOf, Result.andThen, Sem.run_pure, c6, c1, c2, c4, askRoom, Int.toNat_natCast, if_neg c5, run_sizeE c7, if_neg g, g1, j1, Bool.false_eq_true, if_false]
                      · simp only [Den]
                        exact ⟨_, _, Rn.add_self .., rfl⟩
    | _ => cases e
end Ev
end Go.Proofs.YtkfhapidoolfdaaGreatDoor

namespace Go.Proofs.YtkfhapidoolfdaaGreatDoor
open Go
namespace Ev
variable {P : Program}

/-- an operation that stays within values -/
theorem val_ok {o : Oper} {ρ : Rn} {σ : St} {w : World} {η : Operand → Value} {v : EV} {u : Value} (R : Rep P ρ σ w) (h1 : (execOp η o).run P w = .ok (.value u) w) (h2 : Den ρ v u) :
    ∃ ρ' w' n, (execOp η o).run P w = .ok n w' ∧ Ends ρ' v n ∧ Stp P ρ σ w ρ' σ w' := ⟨ρ, w, _, h1, .inl ⟨_, rfl, h2⟩, Stp.refl R⟩
theorem Den.pm {ρ : Rn} {b a c o : Nat} (h : ρ b = some (a, c)) : Den ρ (.p b o) (.pointer (some ⟨a, o, none⟩)) := by
  simp only [Den]
  exact ⟨_, _, h, rfl⟩
theorem op_fieldAddr {o : Oper} {t : TypeId} {x : Operand} {k : Nat} (h : o.op = .fieldAddr t x k) : OpOk P o (fieldAddrF P t x k) := by
  intro ρ tm σ w η v σ' R D e
  have dx := D x
  rw [fieldAddrF] at e
  generalize ev tm x = y at e dx
  cases y with
  | p b off =>
    obtain ⟨a, c, h1, h2⟩ := dx.p
    cases e1 : fieldOff P t k with
    | none => rw [e1] at e; cases e
    | some n =>
      rw [e1] at e
      cases e
      unfold fieldOff at e1
      cases e2 : underE P t with
      | none => rw [e2] at e1; cases e1
      | some d =>
        rw [e2] at e1
        cases d with
        | struct fs =>
          simp only at e1
          cases e3 : fs[k]? with
          | none => rw [e3] at e1; cases e1
          | some f =>
            rw [e3] at e1
            simp only at e1
            cases e4 : szE P f.type with
            | none => rw [e4] at e1; cases e1
            | some m =>
              rw [e4] at e1
              cases m with
              | zero => cases e1
              | succ m =>
                cases e1
                refine val_ok R (u := .pointer (some ⟨a, off + f.offset, none⟩)) ?_ (Den.pm h1)
                rw [execOp, h]
                simp only [Instr.fieldAt, Sem.run_bind, run_underE e2, e3, h2, Instr.sureAddr, fieldPlace, run_sizeE e4, Result.andThen, Sem.run_pure, Nat.succ_ne_zero, if_false, addr_add]
        | _ => cases e1
  | _ => cases e
theorem op_indexAddr {o : Oper} {t : TypeId} {x ix : Operand} (h : o.op = .indexAddr t x ix) : OpOk P o (indexAddrF P t x ix) := by
  intro ρ tm σ w η v σ' R D e
  have dx := D x
  rw [indexAddrF] at e
  cases e0 : natE (ev tm ix) with
  | none => rw [e0] at e; cases e
  | some i =>
    rw [e0] at e
    obtain ⟨kk, hi⟩ := natE_D e0 (D ix)
    generalize ev tm x = y at e dx
    have fin : ∀ b off n s, idxAt b off i n s σ = some (v, σ') → i < n ∧ v = .p b (off + i * s) ∧ σ' = σ := by
      intro b off n s q
      unfold idxAt at q
      cases e1 : Nat.ble (Nat.succ i) n with
      | false => rw [e1] at q; cases q
      | true => rw [e1] at q; cases q; exact ⟨Nat.le_of_ble_eq_true e1, rfl, rfl⟩
    unfold rowTy at e
    cases e2 : underE P t with
    | none => simp only [e2] at e; cases y <;> cases e
    | some d =>
      cases d with
      | slice el =>
        simp only [e2] at e
        cases e3 : szE P el with
        | none => rw [e3] at e; cases y <;> cases e
        | some s =>
          rw [e3] at e
          cases y with
          | sl b off n cap k =>
            obtain ⟨g1, g2, g3⟩ := fin b off n s e
            subst g2 g3
            obtain ⟨a, c, h1, h2⟩ := dx.sl
            refine val_ok R (u := .pointer (some ⟨a, off + i * s, none⟩)) ?_ (Den.pm h1)
            rw [execOp, h]
            have hb : (0 : Int) ≤ (i : Int) ∧ (i : Int) < (n : Int) := by omega
            simp only [Instr.indexAt, Sem.run_bind, run_underE e2, h2, hi, asIntOf, run_sizeE e3, Result.andThen, Sem.run_pure, if_pos hb, Int.toNat_natCast, addr_add]
          | _ => cases e
      | array n el =>
        simp only [e2] at e
        cases e3 : szE P el with
        | none => rw [e3] at e; cases y <;> cases e
        | some s =>
          rw [e3] at e
          cases y with
          | p b off =>
            obtain ⟨g1, g2, g3⟩ := fin b off n s e
            subst g2 g3
            obtain ⟨a, c, h1, h2⟩ := dx.p
            refine val_ok R (u := .pointer (some ⟨a, off + i * s, none⟩)) ?_ (Den.pm h1)
            rw [execOp, h]
            have hb : (0 : Int) ≤ (i : Int) ∧ (i : Int) < (n : Int) := by omega
            simp only [Instr.indexAt, Sem.run_bind, run_underE e2, h2, hi, asIntOf, Instr.sureAddr, run_sizeE e3, Result.andThen, Sem.run_pure, if_pos hb, Int.toNat_natCast, addr_add]
          | _ => cases e
      | _ => simp only [e2] at e; cases y <;> cases e
/-! ### parts -/
theorem takeE_eq : ∀ (l : List EV) (n : Nat) {r : List EV}, takeE l n = some r → n ≤ l.length ∧ r = l.take n
  | l, 0, r, e => by cases e; exact ⟨Nat.zero_le _, by rw [List.take_zero]⟩
  | [], n + 1, r, e => by cases e
  | c :: l, n + 1, r, e => by
    have e' : consO c (takeE l n) = some r := e
    cases e1 : takeE l n with
    | none => rw [e1] at e'; cases e'
    | some q =>
      rw [e1] at e'
      cases e'
      obtain ⟨h1, h2⟩ := takeE_eq l n e1
      exact ⟨by simp; omega, by rw [List.take_succ_cons, h2]⟩
theorem dropE_eq : ∀ (l : List EV) (n : Nat), dropE l n = l.drop n
  | l, 0 => by rw [List.drop_zero]; rfl
  | l, n + 1 => by
    show dropE (tl l) n = _
    rw [dropE_eq (tl l) n, tl_eq, List.drop_drop, Nat.add_comm]
theorem Dens.take {ρ : Rn} : ∀ {cs : List EV} {us : List Value} (_ : Dens ρ cs us) (n : Nat), Dens ρ (cs.take n) (us.take n)
  | [], us, d, n => by rw [d.nil]; simp only [List.take_nil]; exact Dens.nilm
  | c :: cs, us, d, 0 => by simp only [List.take_zero]; exact Dens.nilm
  | c :: cs, us, d, n + 1 => by
    obtain ⟨u, r, h1, h2, rfl⟩ := d.cons
    simp only [List.take_succ_cons]
    exact Dens.mk h1 (Dens.take h2 n)
theorem Dens.drop {ρ : Rn} : ∀ {cs : List EV} {us : List Value} (_ : Dens ρ cs us) (n : Nat), Dens ρ (cs.drop n) (us.drop n)
  | [], us, d, n => by rw [d.nil]; simp only [List.drop_nil]; exact Dens.nilm
  | c :: cs, us, d, 0 => by simp only [List.drop_zero]; exact d
  | c :: cs, us, d, n + 1 => by
    obtain ⟨u, r, h1, h2, rfl⟩ := d.cons
    simp only [List.drop_succ_cons]
    exact Dens.drop h2 n
theorem run_partE {ρ : Rn} {t : TypeId} {cs : List EV} {us : Array Value} {off : Nat} {v : EV} (d : Dens ρ cs us.toList) (e : partE P t cs off = some v) (w : World) : ∃ u, (part t us off).run P w = .ok u w ∧ Den ρ v u := by
  unfold partE at e
  cases e1 : aggB P t with
  | none => rw [e1] at e; cases e
  | some x =>
    rw [e1] at e
    cases x with
    | true =>
      cases e2 : szE P t with
      | none => rw [e2] at e; cases e
      | some n =>
        rw [e2] at e
        simp only at e
        cases e3 : takeE (dropE cs off) n with
        | none => rw [e3] at e; cases e
        | some l =>
          rw [e3] at e
          cases e
          obtain ⟨h1, h2⟩ := takeE_eq _ _ e3
          rw [dropE_eq] at h2
          refine ⟨.agg (us.extract off (off + n)), ?_, ?_⟩
          · simp only [part, Sem.run_bind, run_isAggE e1, run_sizeE e2, Result.andThen, Sem.run_pure, if_true]
          · simp only [Den]
            refine ⟨(us.toList.drop off).take n, ?_, ?_⟩
            · rw [h2]; exact (d.drop off).take n
            · congr 1
              apply Array.ext'
              rw [Array.toList_extract, List.extract_eq_take_drop, Nat.add_sub_cancel_left]
    | false =>
      simp only at e
      cases e2 : dropE cs off with
      | nil => rw [e2] at e; cases e
      | cons c r =>
        rw [e2] at e
        cases e
        rw [dropE_eq] at e2
        have hc : cs[off]? = some v := by
          have := congrArg (fun l : List EV => l[0]?) e2
          simpa using this
        obtain ⟨u, h1, h2⟩ := Dens.nth d off hc
        refine ⟨u, ?_, h2⟩
        rw [Array.getElem?_toList] at h1
        simp only [part, Sem.run_bind, run_isAggE e1, Result.andThen, Bool.false_eq_true, if_false, h1]
        rfl
theorem op_field {o : Oper} {t : TypeId} {x : Operand} {k : Nat} (h : o.op = .field t x k) : OpOk P o (fieldF P t x k) := by
  intro ρ tm σ w η v σ' R D e
  have dx := D x
  rw [fieldF] at e
  generalize ev tm x = y at e dx
  cases y with
  | a cs =>
    obtain ⟨us, h1, h2⟩ := dx.a
    unfold fieldTy at e
    cases e2 : underE P t with
    | none => simp only [e2] at e; cases e
    | some d =>
      cases d with
      | struct fs =>
        simp only [e2] at e
        cases e3 : fs[k]? with
        | none => rw [e3] at e; cases e
        | some f =>
          rw [e3] at e
          simp only [fieldE] at e
          cases e4 : partE P f.type cs f.offset with
          | none => rw [e4] at e; cases e
          | some q =>
            rw [e4] at e
            cases e
            obtain ⟨u, g1, g2⟩ := run_partE (us := us.toArray) h1 e4 w
            refine val_ok R (u := u) ?_ g2
            rw [execOp, h]
            simp only [Instr.field, Sem.run_bind, run_underE e2, e3, h2, asAgg, Result.andThen, Sem.run_pure, g1]
      | _ => simp only [e2] at e; cases e
  | _ => cases e
theorem op_nilCheck {o : Oper} {x : Operand} (h : o.op = .nilCheck x) : OpOk P o (nilF x) := by
  intro ρ tm σ w η v σ' R D e
  have dx := D x
  rw [nilF] at e
  generalize ev tm x = y at e dx
  cases y with
  | p b off =>
    cases e
    obtain ⟨a, c, h1, h2⟩ := dx.p
    refine val_ok R (u := η x) ?_ dx
    rw [execOp, h]; simp only [h2]; rfl
  | m b =>
    cases e
    obtain ⟨a, c, h1, h2⟩ := dx.m
    refine val_ok R (u := η x) ?_ dx
    rw [execOp, h]; simp only [h2]; rfl
  | f fn fs cs =>
    obtain ⟨us, vs, h1, h2, h3⟩ := dx.f
    cases fn with
    | func g =>
      cases e
      refine val_ok R (u := η x) ?_ dx
      rw [execOp, h]; simp only [h3]; rfl
    | _ => cases e
  | i t e' =>
    cases e
    obtain ⟨u, h1, h2⟩ := dx.i
    refine val_ok R (u := η x) ?_ dx
    rw [execOp, h]; simp only [h2]; rfl
  | _ => cases e
theorem ifaceB_under {t : TypeId} (h : ifaceB (underE P t) = false) : ∃ d, underE P t = some d ∧ ∀ ms, d ≠ .interface ms := by
  cases e : underE P t with
  | none => rw [e] at h; cases h
  | some d => exact ⟨d, rfl, fun ms hd => by rw [e, hd] at h; cases h⟩
theorem op_makeInterface {o : Oper} {t : TypeId} {x : Operand} (h : o.op = .makeInterface t x) : OpOk P o (mkIfF P t x) := by
  intro ρ tm σ w η v σ' R D e
  rw [mkIfF] at e
  cases e1 : ifaceB (underE P t) with
  | true => rw [e1] at e; cases e
  | false =>
    rw [e1] at e
    cases e
    obtain ⟨d, h1, h2⟩ := ifaceB_under e1
    refine val_ok R (u := .iface t (η x)) ?_ (by simp only [Den]; exact ⟨_, D x, rfl⟩)
    rw [execOp, h]
    simp only [Instr.makeInterface, Sem.run_bind, run_underE h1, Result.andThen]
    cases d with
    | interface ms => exact absurd rfl (h2 ms)
    | _ => rfl
theorem op_typeAssert {o : Oper} {x : Operand} {xt t : TypeId} {ok : Bool} (h : o.op = .typeAssert x xt t ok) : OpOk P o (assertF P x t ok) := by
  intro ρ tm σ w η v σ' R D e
  have dx := D x
  rw [assertF] at e
  cases e1 : ifaceB (underE P t) with
  | true => rw [e1] at e; cases e
  | false =>
    rw [e1] at e
    obtain ⟨d, h1, h2⟩ := ifaceB_under e1
    generalize ev tm x = y at e dx
    cases y with
    | i t' v' =>
      obtain ⟨u, g1, g2⟩ := dx.i
      simp only [assertE] at e
      cases e2 : Nat.beq t' t with
      | false => rw [e2] at e; cases e
      | true =>
        rw [e2] at e
        have e3 : t' = t := Nat.eq_of_beq_eq_true e2
        cases ok with
        | true =>
          cases e
          refine val_ok R (u := .tuple #[u, .bool true]) ?_ (by
            simp only [Den]
            exact ⟨[u, .bool true], Dens.mk g1 (Dens.mk (Den.sv _) Dens.nilm), rfl⟩)
          rw [execOp, h]
          simp only [Instr.typeAssert, Sem.run_bind, run_underE h1, Result.andThen, g2]
          cases d with
          | interface ms => exact absurd rfl (h2 ms)
          | _ => simp only [e3, if_true]; rfl
        | false =>
          cases e
          refine val_ok R (u := u) ?_ g1
          rw [execOp, h]
          simp only [Instr.typeAssert, Sem.run_bind, run_underE h1, Result.andThen, g2]
          cases d with
          | interface ms => exact absurd rfl (h2 ms)
          | _ => simp only [e3, if_true]; rfl
    | _ => cases e
theorem op_arr {o : Oper} {t : TypeId} {x : Operand} (h : o.op = .sliceToArrayPointer t x) : OpOk P o (arrF P t x) := by
  intro ρ tm σ w η v σ' R D e
  have dx := D x
  rw [arrF] at e
  generalize ev tm x = y at e dx
  cases y with
  | sl b off n cap k =>
    obtain ⟨a, c, h1, h2⟩ := dx.sl
    cases e2 : underE P t with
    | none => simp only [e2, arrLen, arrE] at e; cases e
    | some d =>
      cases d with
      | array m el =>
        simp only [e2, arrLen, arrE] at e
        cases e3 : Nat.ble m n with
        | false => rw [e3] at e; cases e
        | true =>
          rw [e3] at e
          cases e
          refine val_ok R (u := .pointer (some ⟨a, off, none⟩)) ?_ (Den.pm h1)
          rw [execOp, h]
          have : ¬ n < m := Nat.not_lt.2 (Nat.le_of_ble_eq_true e3)
          simp only [Instr.arrayAt, Sem.run_bind, run_underE e2, h2, Result.andThen, if_neg this, Sem.run_pure]
      | _ => simp only [e2, arrLen, arrE] at e; cases e
  | _ => cases e
end Ev
end Go.Proofs.YtkfhapidoolfdaaGreatDoor

namespace Go.Proofs.YtkfhapidoolfdaaGreatDoor
open Go
namespace Ev
variable {P : Program}

theorem semN_run {α : Type} : ∀ (n : Nat) {s : Sem α} {a : α}, semN P n s = some a → ∀ w, s.run P w = .ok a w
  | 0, s, a, e, w => by
    cases s with
    | pure x => simp only [semN] at e; cases e; rfl
    | _ => simp only [semN] at e; cases e
  | n + 1, s, a, e, w => by
    cases s with
    | pure x => simp only [semN] at e; cases e; rfl
    | program k => simp only [semN] at e; exact semN_run n e w
    | mark m k => simp only [semN] at e; exact semN_run n e w
    | _ => simp only [semN] at e; cases e
theorem mapM_isS {ρ : Rn} : ∀ {cs : List EV} {l us : List Value}, cs.mapM isS = some l → Dens ρ cs us → us = l
  | [], l, us, e, d => by
    rw [List.mapM_nil] at e
    cases e
    exact d.nil
  | c :: cs, l, us, e, d => by
    obtain ⟨u, r, h1, h2, rfl⟩ := d.cons
    rw [List.mapM_cons] at e
    cases c with
    | s v =>
      simp only [isS, Option.bind_eq_bind, Option.bind_some] at e
      cases e1 : cs.mapM isS with
      | none => rw [e1] at e; cases e
      | some q =>
        rw [e1] at e
        cases e
        rw [h1.s, mapM_isS e1 h2]
    | _ => cases e
theorem keyV_D {ρ : Rn} {e : EV} {u x : Value} (h : keyV e = some u) (d : Den ρ e x) : x = u := by
  cases e with
  | s v => cases h; exact d.s
  | a cs =>
    obtain ⟨us, h1, h2⟩ := d.a
    rw [keyV] at h
    cases e1 : cs.mapM isS with
    | none => rw [e1] at h; cases h
    | some l => rw [e1] at h; cases h; rw [h2, mapM_isS e1 h1]
  | by_ bs n =>
    have h2 := d.by_
    rw [keyV] at h
    cases e1 : (unB bs 0 n).mapM isS with
    | none => rw [e1] at h; cases h
    | some l => rw [e1] at h; cases h; rw [h2, mapM_isS e1 (Dens.un (ρ := ρ) bs n 0)]
  | _ => cases h
theorem Dens_sv_inv {ρ : Rn} : ∀ {l us : List Value}, Dens ρ (l.map EV.s) us → us = l
  | [], us, d => d.nil
  | v :: l, us, d => by
    obtain ⟨u, r, h1, h2, rfl⟩ := d.cons
    rw [h1.s, Dens_sv_inv h2]
theorem ofConst_inv {ρ : Rn} {v x : Value} (d : Den ρ (ofConst v) x) : x = v := by
  cases v with
  | agg cs =>
    obtain ⟨us, h1, h2⟩ := Den.a (cs := cs.toList.map EV.s) d
    rw [h2, Dens_sv_inv h1, Array.toArray_toList]
  | _ => exact Den.s d
theorem sval_D {ρ : Rn} {tm : TrV} {η : Operand → Value} (D : ∀ x, Den ρ (ev tm x) (η x)) {x : Operand} {u : Value} (h : sval tm x = some u) : η x = u := by
  cases x with
  | tmp t =>
    rw [sval] at h
    have d := D (.tmp t)
    have e : ev tm (.tmp t) = Option.rec (motive := fun _ => EV) (.s undef) (fun v => v) (tm.get t) := rfl
    rw [e] at d
    cases e1 : tm.get t with
    | none => rw [e1] at h; cases h
    | some v => rw [e1] at h d; exact keyV_D h d
  | const c =>
    have h : c = u := by cases h; rfl
    rw [← h]; exact ofConst_inv (D (.const c))
  | _ => cases h
theorem execOp_sval {ρ : Rn} {tm : TrV} {η : Operand → Value} (D : ∀ x, Den ρ (ev tm x) (η x)) {o : Oper} (hs : ∀ cs b, o.op ≠ .select cs b) (h : o.op.operands.toList.all (fun x => (sval tm x).isSome) = true) :
    execOp η o = execOp (sval1 tm) o := by
  refine execOp_congr o hs ?_
  intro x hx
  rw [List.all_eq_true] at h
  have := h x (by simpa using hx)
  cases e : sval tm x with
  | none => rw [e] at this; cases this
  | some v => rw [sval1, e]; exact sval_D D e
theorem op_scalar {o : Oper} (hs : ∀ cs b, o.op ≠ .select cs b) : OpOk P o (scalarF P o) := by
  intro ρ tm σ w η v σ' R D e
  unfold scalarF scalarE at e
  cases e1 : o.op.operands.toList.all (fun x => (sval tm x).isSome) with
  | false => rw [e1] at e; cases e
  | true =>
    rw [e1] at e
    simp only at e
    cases e2 : semN P 99999 (execOp (sval1 tm) o) with
    | none => rw [e2] at e; cases e
    | some n =>
      rw [e2] at e
      have h1 := execOp_sval D hs e1
      have h2 := semN_run (P := P) 99999 e2 w
      rw [← h1] at h2
      cases n with
      | value u =>
        cases e
        exact val_ok R h2 (ofConst_D ρ u)
      | _ => cases e
theorem op_index {o : Oper} {t : TypeId} {x ix : Operand} (h : o.op = .index t x ix) : OpOk P o (indexF P t x ix o) := by
  intro ρ tm σ w η v σ' R D e
  have dx := D x
  rw [indexF] at e
  have sc : scalarF P o tm σ = some (v, σ') → ∃ ρ' w' n, (execOp η o).run P w = .ok n w' ∧ Ends ρ' v n ∧ Stp P ρ σ w ρ' σ' w' :=
    fun q => op_scalar (fun cs b q' => by rw [h] at q'; cases q') ρ tm σ w η v σ' R D q
  have fin : ∀ (cs : List EV) (us : List Value), η x = .agg us.toArray → Dens ρ cs us → indexE P cs σ (arrTy P t) (natE (ev tm ix)) = some (v, σ') →
      ∃ ρ' w' n, (execOp η o).run P w = .ok n w' ∧ Ends ρ' v n ∧ Stp P ρ σ w ρ' σ' w' := by
    intro cs us h1 h2 q
    unfold arrTy at q
    cases e2 : underE P t with
    | none => simp only [e2, indexE] at q; cases q
    | some d =>
      cases d with
      | array n el =>
        simp only [e2] at q
        cases e3 : szE P el with
        | none => simp only [e3, indexE] at q; cases q
        | some s =>
          cases e0 : natE (ev tm ix) with
          | none => simp only [e3, e0, indexE] at q; cases q
          | some i =>
            simp only [e3, e0, indexE] at q
            obtain ⟨kk, hi⟩ := natE_D e0 (D ix)
            cases e4 : Nat.ble (Nat.succ i) n with
            | false => simp only [e4] at q; cases q
            | true =>
              simp only [e4] at q
              cases e5 : partE P el cs (i * s) with
              | none => rw [e5] at q; cases q
              | some r =>
                rw [e5] at q
                cases q
                obtain ⟨u, g1, g2⟩ := run_partE (us := us.toArray) h2 e5 w
                refine val_ok R (u := u) ?_ g2
                rw [execOp, h]
                have hb : (0 : Int) ≤ (i : Int) ∧ (i : Int) < (n : Int) := by
                  have := Nat.le_of_ble_eq_true e4
                  omega
                simp only [Instr.index, Sem.run_bind, run_underE e2, h1, hi, asIntOf, run_sizeE e3, Result.andThen, Sem.run_pure, if_pos hb, Int.toNat_natCast, g1]
      | _ => simp only [e2, indexE] at q; cases q
  generalize ev tm x = y at e dx
  cases y with
  | s c => exact sc e
  | a cs =>
    obtain ⟨us, h1, h2⟩ := dx.a
    exact fin cs us h2 h1 e
  | by_ bs n => exact fin _ _ dx.by_ (Dens.un bs n 0) e
  | _ => cases e
/-! ### whole numbers, nil -/
theorem inI64_D {x : Int} (h : inI64 x = true ∨ ∃ n, x = .negSucc n ∧ n ≤ 9223372036854775807) : -9223372036854775808 ≤ x ∧ x ≤ 9223372036854775807 := by
  rcases h with h | ⟨n, rfl, hn⟩
  · cases x with
    | ofNat n =>
      have : n ≤ 9223372036854775807 := Nat.le_of_ble_eq_true h
      have e : Int.ofNat n = (n : Int) := rfl
      omega
    | negSucc n =>
      have : n ≤ 9223372036854775807 := Nat.le_of_ble_eq_true h
      have e : Int.negSucc n = -((n : Int) + 1) := Int.negSucc_eq n
      omega
  · have e : Int.negSucc n = -((n : Int) + 1) := Int.negSucc_eq n
    omega
theorem sumI_some {x : Int} {v : Value} (h : sumI x = some v) : v = .int .i64 (IntKind.i64.wrap x) := by
  unfold sumI at h
  cases e : inI64 x with
  | false => rw [e] at h; cases h
  | true =>
    rw [e] at h
    cases h
    rw [IntWalk.i64_in x (inI64_D (.inl e))]
theorem eqI_eq (a b : Int) : eqI a b = (a == b) := by
  cases a with
  | ofNat m =>
    cases b with
    | ofNat n =>
      show Nat.beq m n = _
      rw [Bool.eq_iff_iff, beq_iff_eq, Nat.beq_eq, Int.ofNat.injEq]
    | negSucc n => rfl
  | negSucc m =>
    cases b with
    | ofNat n => rfl
    | negSucc n =>
      show Nat.beq m n = _
      rw [Bool.eq_iff_iff, beq_iff_eq, Nat.beq_eq, Int.negSucc.injEq]
theorem ltI_eq (a b : Int) : ltI a b = decide (a < b) := by
  cases a with
  | ofNat m =>
    cases b with
    | ofNat n =>
      show Nat.ble (m + 1) n = decide ((m : Int) < (n : Int))
      rw [Bool.eq_iff_iff, decide_eq_true_iff]
      constructor
      · intro h; have := Nat.le_of_ble_eq_true h; omega
      · intro h; exact Nat.ble_eq_true_of_le (by omega)
    | negSucc n =>
      have e : Int.negSucc n = -((n : Int) + 1) := Int.negSucc_eq n
      show false = _
      rw [eq_comm, decide_eq_false_iff_not, e]
      have e2 : Int.ofNat m = (m : Int) := rfl
      omega
  | negSucc m =>
    have e : Int.negSucc m = -((m : Int) + 1) := Int.negSucc_eq m
    cases b with
    | ofNat n =>
      show true = _
      rw [eq_comm, decide_eq_true_iff, e]
      have e2 : Int.ofNat n = (n : Int) := rfl
      omega
    | negSucc n =>
      have e2 : Int.negSucc n = -((n : Int) + 1) := Int.negSucc_eq n
      show Nat.ble (n + 1) m = _
      rw [e, e2, Bool.eq_iff_iff, decide_eq_true_iff]
      constructor
      · intro h; have := Nat.le_of_ble_eq_true h; omega
      · intro h; exact Nat.ble_eq_true_of_le (by omega)
theorem fast_run {op : BinOp} {t : TypeId} {x y : Operand} {a b : Value} {v : Value} (h : fastBin op a b = some v) (w : World) : (do eqGuard op t x y a b; binOp op t a b : Sem Value).run P w = .ok v w := by
  unfold fastBin at h
  split at h
  · next i j =>
    cases op <;> simp only at h <;> first | (cases h; done) | skip
    · rw [sumI_some h]; rfl
    · rw [sumI_some h]; rfl
    · cases h; rw [eqI_eq]; rfl
    · cases h
      rw [eqI_eq]; rfl
    · cases h; rw [ltI_eq]; rfl
    · cases h
      have : (!ltI j i) = decide (i ≤ j) := by
        rw [ltI_eq, Bool.eq_iff_iff]; simp
      rw [this]; rfl
    · cases h; rw [ltI_eq]; rfl
    · cases h
      have : (!ltI i j) = decide (i ≥ j) := by
        rw [ltI_eq, Bool.eq_iff_iff]; simp
      rw [this]; rfl
  · cases h
theorem nil_run {P : Program} {ρ : Rn} {op : BinOp} {t : TypeId} {x y : Operand} {a b : EV} {u v : Value} {r : EV} (e : eqE P op t a b = some r) (da : Den ρ a u) (db : Den ρ b v) (w : World) :
    ∃ k : Bool, r = .s (.bool k) ∧ (do eqGuard op t x y u v; binOp op t u v : Sem Value).run P w = .ok (.bool k) w := by
  unfold eqE at e
  cases e1 : eqKind P t a b with
  | false => rw [e1] at e; cases e
  | true =>
    cases e2 : nilEq a b with
    | none => rw [e1, e2] at e; cases e
    | some q =>
      rw [e1, e2] at e
      have fin : q = false → (∀ n, (Op.equal t u v).run P n = .ok false n) → (∀ n, (eqGuard op t x y u v).run P n = .ok () n) → (∀ n, (binOp .eql t u v).run P n = (do pure (.bool (← Op.equal t u v)) : Sem Value).run P n) → (∀ n, (binOp .neq t u v).run P n = (do pure (.bool (!(← Op.equal t u v))) : Sem Value).run P n) →
          ∃ k : Bool, r = .s (.bool k) ∧ (do eqGuard op t x y u v; binOp op t u v : Sem Value).run P w = .ok (.bool k) w := by
        intro hq h1 h2 h3 h4
        subst hq
        cases op <;> simp only at e <;> first | (cases e; done) | skip
        · cases e
          exact ⟨_, rfl, by simp only [Sem.run_bind, h2, h3, h1, Result.andThen, Sem.run_pure]⟩
        · cases e
          exact ⟨_, rfl, by simp only [Sem.run_bind, h2, h4, h1, Result.andThen, Sem.run_pure]⟩
      have key : ∀ d : Nat, (∀ d n, (Op.equalIn (d + 1) t u v).run P n = .ok false n) → ∀ n, (Op.equalIn (d + 1) t u v).run P n = .ok false n := fun d h n => h d n
      unfold eqKind at e1
      split at e1 <;> first | (cases e1; done) | skip
      all_goals (rename_i hu; clear e1)
      all_goals (unfold nilEq at e2; simp only at e2; split at e2 <;> first | (cases e2; done) | skip)
      all_goals (have hq : q = false := by cases e2; rfl)
      all_goals (clear e2)
      · obtain ⟨a, c, _, hv⟩ := db.p
        have hu' := da.s
        subst hv hu'
        exact fin hq (key 9999 (fun d n => by rw [Op.equalIn, Sem.run_bind, run_underE hu]; rfl)) (fun n => by cases op <;> rfl) (fun n => rfl) (fun n => rfl)
      · obtain ⟨a, c, _, hv⟩ := da.p
        have hu' := db.s
        subst hv hu'
        exact fin hq (key 9999 (fun d n => by rw [Op.equalIn, Sem.run_bind, run_underE hu]; rfl)) (fun n => by cases op <;> rfl) (fun n => rfl) (fun n => rfl)
      · obtain ⟨a, c, _, hv⟩ := db.sl
        have hu' := da.s
        subst hv hu'
        exact fin hq (key 9999 (fun d n => by rw [Op.equalIn, Sem.run_bind, run_underE hu]; rfl)) (fun n => by cases op <;> rfl) (fun n => rfl) (fun n => rfl)
      · obtain ⟨a, c, _, hv⟩ := da.sl
        have hu' := db.s
        subst hv hu'
        exact fin hq (key 9999 (fun d n => by rw [Op.equalIn, Sem.run_bind, run_underE hu]; rfl)) (fun n => by cases op <;> rfl) (fun n => rfl) (fun n => rfl)
      · obtain ⟨a, c, _, hv⟩ := db.m
        have hu' := da.s
        subst hv hu'
        exact fin hq (key 9999 (fun d n => by rw [Op.equalIn, Sem.run_bind, run_underE hu]; rfl)) (fun n => by cases op <;> rfl) (fun n => rfl) (fun n => rfl)
      · obtain ⟨a, c, _, hv⟩ := da.m
        have hu' := db.s
        subst hv hu'
        exact fin hq (key 9999 (fun d n => by rw [Op.equalIn, Sem.run_bind, run_underE hu]; rfl)) (fun n => by cases op <;> rfl) (fun n => rfl) (fun n => rfl)
      · obtain ⟨us, vs, _, _, hv⟩ := db.f
        have hu' := da.s
        subst hv hu'
        exact fin hq (key 9999 (fun d n => by rw [Op.equalIn, Sem.run_bind, run_underE hu]; rfl)) (fun n => by cases op <;> rfl) (fun n => rfl) (fun n => rfl)
      · obtain ⟨us, vs, _, _, hv⟩ := da.f
        have hu' := db.s
        subst hv hu'
        exact fin hq (key 9999 (fun d n => by rw [Op.equalIn, Sem.run_bind, run_underE hu]; rfl)) (fun n => by cases op <;> rfl) (fun n => rfl) (fun n => rfl)
theorem isS_some {e : EV} {v : Value} (h : isS e = some v) : e = .s v := by
  cases e <;> cases h
  rfl
theorem op_binOp {o : Oper} {op : BinOp} {t u : TypeId} {x y : Operand} (h : o.op = .binOp op t x y u) : OpOk P o (binF P op t x y o) := by
  intro ρ tm σ w η v σ' R D e
  have sc : scalarF P o tm σ = some (v, σ') → ∃ ρ' w' n, (execOp η o).run P w = .ok n w' ∧ Ends ρ' v n ∧ Stp P ρ σ w ρ' σ' w' :=
    fun q => op_scalar (fun cs b q' => by rw [h] at q'; cases q') ρ tm σ w η v σ' R D q
  have run : ∀ r : Value, (do eqGuard op t x y (η x) (η y); binOp op t (η x) (η y) : Sem Value).run P w = .ok r w → (execOp η o).run P w = .ok (.value r) w := by
    intro r hr
    rw [execOp, h]
    show ((do pure (.value (← (do eqGuard op t x y (η x) (η y); binOp op t (η x) (η y) : Sem Value))) : Sem Next)).run P w = _
    rw [Sem.run_bind, hr]; rfl
  have nilc : binN P o tm σ (eqE P op t (ev tm x) (ev tm y)) = some (v, σ') → ∃ ρ' w' n, (execOp η o).run P w = .ok n w' ∧ Ends ρ' v n ∧ Stp P ρ σ w ρ' σ' w' := by
    intro q
    cases e1 : eqE P op t (ev tm x) (ev tm y) with
    | none => rw [e1] at q; exact sc q
    | some r =>
      rw [e1] at q
      cases q
      obtain ⟨k, rfl, h2⟩ := nil_run (x := x) (y := y) e1 (D x) (D y) w
      exact val_ok R (run _ h2) (Den.sv _)
  unfold binF binE at e
  split at e
  · next a b h1 h2 =>
    have ha := D x
    rw [isS_some h1] at ha
    have hb := D y
    rw [isS_some h2] at hb
    cases e1 : fastBin op a b with
    | none => rw [e1] at e; exact sc e
    | some r =>
      rw [e1] at e
      cases e
      refine val_ok R (run r ?_) (Den.sv r)
      rw [ha.s, hb.s]
      exact fast_run e1 w
  · exact nilc e
end Ev
end Go.Proofs.YtkfhapidoolfdaaGreatDoor

namespace Go.Proofs.YtkfhapidoolfdaaGreatDoor
open Go
namespace Ev
variable {P : Program}

theorem bytes_D {ρ : Rn} : ∀ {l : List EV} {bs : List UInt8} {vs : List Value}, l.mapM byteOf? = some bs → Dens ρ l vs → ∃ ns : List Int, vs = ns.map (Value.int .u8) ∧ bs = ns.map fun n => UInt8.ofNat n.toNat
  | [], bs, vs, e, d => by
    rw [List.mapM_nil] at e
    cases e
    exact ⟨[], d.nil, rfl⟩
  | c :: l, bs, vs, e, d => by
    obtain ⟨u, r, h1, h2, rfl⟩ := d.cons
    rw [List.mapM_cons] at e
    cases e1 : byteOf? c with
    | none => rw [e1] at e; cases e
    | some b =>
      rw [e1] at e
      cases e2 : l.mapM byteOf? with
      | none => rw [e2] at e; cases e
      | some q =>
        rw [e2] at e
        have e : b :: q = bs := by cases e; rfl
        subst e
        obtain ⟨ns, g1, g2⟩ := bytes_D e2 h2
        unfold byteOf? at e1
        split at e1
        · next k =>
          cases e1
          exact ⟨(k : Int) :: ns, by rw [h1.s, g1]; rfl, by rw [g2]; rfl⟩
        · cases e1
theorem foldl_push (ns : List Int) : ∀ s : ByteArray, ns.foldl (fun r n => r.push (UInt8.ofNat n.toNat)) s = ⟨s.data ++ (ns.map fun n => UInt8.ofNat n.toNat).toArray⟩ := by
  induction ns with
  | nil => intro s; simp
  | cons n ns ih =>
    intro s
    rw [List.foldl_cons, ih]
    simp [ByteArray.push]
theorem op_convert {o : Oper} {s t : TypeId} {x : Operand} (h : o.op = .convert s t x) : OpOk P o (convF P s t x o) := by
  intro ρ tm σ w η v σ' R D e
  have dx := D x
  rw [convF] at e
  have sc : scalarF P o tm σ = some (v, σ') → ∃ ρ' w' n, (execOp η o).run P w = .ok n w' ∧ Ends ρ' v n ∧ Stp P ρ σ w ρ' σ' w' :=
    fun q => op_scalar (fun cs b q' => by rw [h] at q'; cases q') ρ tm σ w η v σ' R D q
  generalize ev tm x = y at e dx
  cases y with
  | s c => exact sc e
  | sl b off n cap k =>
    obtain ⟨a, c, h1, h2⟩ := dx.sl
    simp only [convE] at e
    cases e1 : bytesToStr P s t with
    | false => rw [e1] at e; cases e
    | true =>
      rw [e1] at e
      simp only at e
      cases e2 : loadN σ b off n with
      | none => rw [e2] at e; cases e
      | some r =>
        rw [e2] at e
        simp only [strOf] at e
        cases e3 : r.list.mapM byteOf? with
        | none => rw [e3] at e; cases e
        | some bs =>
          rw [e3] at e
          cases e
          obtain ⟨vs, g1, g2, g3⟩ := R.load h1 e2
          obtain ⟨ns, g4, g5⟩ := bytes_D e3 g2.list
          have hl := run_loadCells_list (P := P) w ⟨a, off, none⟩ vs (fun j v hv => by
            rw [addr_add]; exact g3 j v hv)
          rw [g1, g4] at hl
          refine val_ok R (u := .string ⟨bs.toArray⟩) ?_ (Den.sv _)
          unfold bytesToStr at e1
          split at e1
          · next el q1 q2 =>
            split at e1
            · next q3 =>
              have hb := run_bytesToString (P := P) w ⟨a, off, none⟩ n (capR cap c k) ns hl
              rw [foldl_push] at hb
              rw [execOp, h]
              simp only [h2, Sem.run_bind, run_convert_bytes_string (P := P) w s t el _ _ _ (underE_some q1) (underE_some q3) (underE_some q2), hb, Result.andThen, Sem.run_pure]
              have he : ByteArray.empty.data = #[] := rfl
              rw [he, g5]
              simp
            · cases e1
          · cases e1
  | _ => cases e
/-! ### builtins -/
theorem builtin_run {o : Oper} {c : Go.Call} {b : Builtin} (h : o.op = .call c) (hb : c.callee = .builtin b) (η : Operand → Value) (w : World) : ∃ consts, (execOp η o).run P w = (builtin b c.argTypes o.type consts (c.args.map η)).run P w := by
  refine ⟨c.args.map fun | .const _ => true | _ => false, ?_⟩
  rw [execOp, h]
  simp only [resolve, hb, Sem.run_bind, Sem.run_pure, Result.andThen, invoke]
  rfl
theorem Rep.map {ρ : Rn} {σ : St} {w : World} (R : Rep P ρ σ w) {b a c : Nat} {es : List ME} {cl : Nat} (hr : ρ b = some (a, c)) (hk : σ.h.get b = some (.m es cl)) : ∃ l, w.heap[a]? = some (.map l.toArray cl) ∧ EntD ρ es l := by
  obtain ⟨a', c', o, h1, h2, l, h3, h4⟩ := R.blk b _ hk
  rw [hr] at h1
  cases h1
  exact ⟨l, by rw [h2, h3], h4⟩
theorem EntD.len {ρ : Rn} : ∀ {es : List ME} {l : List Go.MapEntry}, EntD ρ es l → l.length = es.length
  | [], l, h => by rw [show l = [] from h]; rfl
  | _ :: _, _, ⟨_, _, _, _, _, h3, h4⟩ => by rw [h4, List.length_cons, List.length_cons, h3.len]
theorem run_getMap {w : World} {a : Nat} {es : Array Go.MapEntry} {cl : Nat} (h : w.heap[a]? = some (.map es cl)) : (getObj a).run P w = .ok (.map es cl) w := by
  simp [getObj, Sem.run, h]
theorem run_setMap {w : World} {a : Nat} {es : Array Go.MapEntry} {cl : Nat} (h : w.heap[a]? = some (.map es cl)) (o : Obj) : (setObj a o).run P w = .ok () { w with heap := w.heap.setIfInBounds a o } := by
  simp [setObj, Sem.run, h]
theorem args1 {c : Go.Call} {x : Operand} {t : TypeId} {ts : List TypeId} (ha : c.args.toList = [x]) (ht : c.argTypes.toList = t :: ts) (η : Operand → Value) : c.argTypes[0]? = some t ∧ (c.args.map η)[0]? = some (η x) := by
  constructor
  · rw [← Array.getElem?_toList, ht]; rfl
  · rw [← Array.getElem?_toList, Array.toList_map, ha]; rfl
theorem args2 {c : Go.Call} {x y : Operand} {t : TypeId} {ts : List TypeId} (ha : c.args.toList = [x, y]) (ht : c.argTypes.toList = t :: ts) (η : Operand → Value) : c.argTypes[0]? = some t ∧ (c.args.map η)[0]? = some (η x) ∧ (c.args.map η)[1]? = some (η y) := by
  refine ⟨?_, ?_, ?_⟩
  · rw [← Array.getElem?_toList, ht]; rfl
  · rw [← Array.getElem?_toList, Array.toList_map, ha]; rfl
  · rw [← Array.getElem?_toList, Array.toList_map, ha]; rfl
theorem op_len {o : Oper} {c : Go.Call} {x : Operand} {t : TypeId} {ts : List TypeId} (h : o.op = .call c) (hb : c.callee = .builtin .len) (ha : c.args.toList = [x]) (ht : c.argTypes.toList = t :: ts) : OpOk P o (lenF P t x) := by
  intro ρ tm σ w η v σ' R D e
  have dx := D x
  obtain ⟨q1, q2⟩ := args1 ha ht η
  have fin : ∀ u, v = .s u → σ' = σ → (∀ ty, (Builtin.len_ c.argTypes ty (c.args.map η)).run P w = .ok u w) → ∃ ρ' w' n, (execOp η o).run P w = .ok n w' ∧ Ends ρ' v n ∧ Stp P ρ σ w ρ' σ' w' := by
    intro u h1 h2 h3
    subst h1 h2
    obtain ⟨k, h4⟩ := builtin_run (P := P) h hb η w
    refine val_ok R (u := u) ?_ (Den.sv u)
    rw [h4]
    simp only [builtin, Sem.run_bind, h3, Result.andThen, Sem.run_pure]
  rw [lenF] at e
  generalize ev tm x = y at e dx
  cases e1 : lenE P σ t y with
  | none => rw [e1] at e; cases e
  | some r =>
    rw [e1] at e
    have e2 : r = v := by cases e; rfl
    have e3 : σ = σ' := by cases e; rfl
    subst e2 e3
    clear e
    unfold lenE at e1
    split at e1
    · next hu => cases e1; exact fin _ rfl rfl (fun ty => by simp only [Builtin.len_, q1, q2, dx.s, Sem.run_bind, run_underE hu, Result.andThen, Sem.run_pure])
    · next hu => cases e1; exact fin _ rfl rfl (fun ty => by simp only [Builtin.len_, q1, q2, Sem.run_bind, run_underE hu, Result.andThen, Sem.run_pure])
    · next hu =>
      split at e1
      · next hv => cases e1; exact fin _ rfl rfl (fun ty => by simp only [Builtin.len_, q1, q2, Sem.run_bind, run_underE hu, run_underE hv, Result.andThen, Sem.run_pure])
      · cases e1
    · next hu =>
      obtain ⟨a, d, h1, h2⟩ := dx.sl
      cases e1; exact fin _ rfl rfl (fun ty => by simp only [Builtin.len_, q1, q2, h2, Sem.run_bind, run_underE hu, Result.andThen, Sem.run_pure])
    · next hu => cases e1; exact fin _ rfl rfl (fun ty => by simp only [Builtin.len_, q1, q2, dx.s, Sem.run_bind, run_underE hu, Result.andThen, Sem.run_pure])
    · next hu =>
      obtain ⟨a, d, h2⟩ := dx.zl
      cases e1; exact fin _ rfl rfl (fun ty => by simp only [Builtin.len_, q1, q2, h2, Sem.run_bind, run_underE hu, Result.andThen, Sem.run_pure]; rfl)
    · next hu => cases e1; exact fin _ rfl rfl (fun ty => by simp only [Builtin.len_, q1, q2, dx.s, Sem.run_bind, run_underE hu, Result.andThen, Sem.run_pure])
    · next hu =>
      split at e1
      · next es cl hk =>
        obtain ⟨a, d, h1, h2⟩ := dx.m
        obtain ⟨l, h3, h4⟩ := R.map h1 hk
        cases e1
        refine fin _ rfl rfl (fun ty => ?_)
        simp only [Builtin.len_, q1, q2, h2, Sem.run_bind, run_underE hu, run_getMap h3, Result.andThen, Sem.run_pure, List.size_toArray, h4.len]
      · cases e1
    · cases e1
theorem op_cap {o : Oper} {c : Go.Call} {x : Operand} {t : TypeId} {ts : List TypeId} (h : o.op = .call c) (hb : c.callee = .builtin .cap) (ha : c.args.toList = [x]) (ht : c.argTypes.toList = t :: ts) : OpOk P o (capF P t x) := by
  intro ρ tm σ w η v σ' R D e
  have dx := D x
  obtain ⟨q1, q2⟩ := args1 ha ht η
  have fin : ∀ u, v = .s u → σ' = σ → (∀ ty, (Builtin.cap_ c.argTypes ty (c.args.map η)).run P w = .ok u w) → ∃ ρ' w' n, (execOp η o).run P w = .ok n w' ∧ Ends ρ' v n ∧ Stp P ρ σ w ρ' σ' w' := by
    intro u h1 h2 h3
    subst h1 h2
    obtain ⟨k, h4⟩ := builtin_run (P := P) h hb η w
    refine val_ok R (u := u) ?_ (Den.sv u)
    rw [h4]
    simp only [builtin, Sem.run_bind, h3, Result.andThen, Sem.run_pure]
  rw [capF] at e
  generalize ev tm x = y at e dx
  cases e1 : capE P t y with
  | none => rw [e1] at e; cases e
  | some r =>
    rw [e1] at e
    have e2 : r = v := by cases e; rfl
    have e3 : σ = σ' := by cases e; rfl
    subst e2 e3
    clear e
    unfold capE at e1
    split at e1
    · next hu =>
      obtain ⟨a, d, h1, h2⟩ := dx.sl
      cases e1; exact fin _ rfl rfl (fun ty => by simp only [Builtin.cap_, q1, q2, h2, Sem.run_bind, run_underE hu, Result.andThen, Sem.run_pure, capR])
    · next hu => cases e1; exact fin _ rfl rfl (fun ty => by simp only [Builtin.cap_, q1, q2, dx.s, Sem.run_bind, run_underE hu, Result.andThen, Sem.run_pure])
    · cases e1
end Ev
end Go.Proofs.YtkfhapidoolfdaaGreatDoor

namespace Go.Proofs.YtkfhapidoolfdaaGreatDoor
open Go
namespace Ev
variable {P : Program}

theorem Rep.openN {ρ : Rn} {σ : St} {w : World} (R : Rep P ρ σ w) {b a c : Nat} {el : TypeId} {m : Nat} (hr : ρ b = some (a, c)) (h : openN σ b = some (el, m)) :
    ∃ sz cs, szE P el = some sz ∧ w.heap[a]? = some (.cells cs el (0, 0)) ∧ m ≤ cs.size ∧ cs.size = c * sz ∧ c ≤ 9223372036854775807 := by
  unfold Ev.openN at h
  split at h
  · next hk =>
    obtain ⟨a', c', o, h1, h2, cs, h3, h4, _, h5, _⟩ := R.blk b _ hk
    rw [hr] at h1
    cases h1
    cases h
    obtain ⟨sz, h6, h7, h8⟩ := h5 rfl
    exact ⟨sz, cs, h6, by rw [h2, h3], h4, h7, h8⟩
  · next hk =>
    obtain ⟨a', c', o, h1, h2, cs, h3, h4, _, h5, _⟩ := R.blk b _ hk
    rw [hr] at h1
    cases h1
    cases h
    obtain ⟨sz, h6, h7, h8⟩ := h5 rfl
    exact ⟨sz, cs, h6, by rw [h2, h3], h4, h7, h8⟩
  · cases h
theorem Rep.told_le {ρ : Rn} {σ : St} {w : World} (R : Rep P ρ σ w) {b a c elem size k : Nat} (hr : ρ b = some (a, c)) (hs : szE P elem = some size) : told σ b elem size k ≤ c - k := by
  unfold told
  split
  · next el m h =>
    obtain ⟨sz, cs, h1, h2, h3, h4, _⟩ := R.openN hr h
    split
    · next h5 =>
      have h6 : el = elem := Nat.eq_of_beq_eq_true h5
      subst h6
      rw [hs] at h1
      cases h1
      show m / size - k ≤ c - k
      by_cases g : size = 0
      · subst g; simp
      · have : m / size ≤ c := by
          rw [Nat.div_le_iff_le_mul (by omega)]
          rw [Nat.mul_comm]
          have := Nat.mul_comm c size
          omega
        omega
    · exact Nat.zero_le _
  · exact Nat.zero_le _
theorem bound_one {ρ : Rn} {v : EV} {x : Value} {n y : Nat} (h : natE v = some n) (d : Den ρ v x) (hy : n ≤ y) (code : BoundsCode) (w : World) : (Instr.sliceBound x y code).run P w = .ok n w := by
  obtain ⟨k, rfl⟩ := natE_D h d
  have hb : (0 : Int) ≤ (n : Int) ∧ (n : Int) ≤ (y : Int) := by omega
  simp only [Instr.sliceBound, asIntOf, Sem.run_bind, Sem.run_pure, Result.andThen, if_pos hb, Int.toNat_natCast]
theorem bounds_none {ρ : Rn} {tm : TrV} {η : Operand → Value} (D : ∀ x, Den ρ (ev tm x) (η x)) {lo hi : Option Operand} {q : Bool} {len cap l h : Nat} (e1 : bound (evO tm lo) 0 = some l) (e2 : bound (evO tm hi) len = some h) (h1 : l ≤ h) (h2 : h ≤ cap) (w : World) :
    (Instr.sliceBounds q len cap (lo.map η) (hi.map η) none).run P w = .ok (l, h, cap) w := by
  cases hi with
  | none =>
    cases e2
    cases lo with
    | none =>
      cases e1
      simp only [Instr.sliceBounds, Option.map_none, Sem.run_bind, Sem.run_pure, Result.andThen]
    | some x =>
      simp only [Instr.sliceBounds, Option.map_none, Option.map_some, Sem.run_bind, Sem.run_pure, Result.andThen, bound_one e1 (D x) h1]
  | some y =>
    cases lo with
    | none =>
      cases e1
      simp only [Instr.sliceBounds, Option.map_none, Option.map_some, Sem.run_bind, Sem.run_pure, Result.andThen, bound_one e2 (D y) h2]
    | some x =>
      simp only [Instr.sliceBounds, Option.map_some, Sem.run_bind, Sem.run_pure, Result.andThen, bound_one e2 (D y) h2, bound_one e1 (D x) h1]
theorem bounds_some {ρ : Rn} {tm : TrV} {η : Operand → Value} (D : ∀ x, Den ρ (ev tm x) (η x)) {lo : Option Operand} {hi mx : Operand} {q : Bool} {len cap l h m : Nat} (e1 : bound (evO tm lo) 0 = some l) (e2 : natE (ev tm hi) = some h) (e3 : natE (ev tm mx) = some m) (h1 : l ≤ h) (h2 : h ≤ m) (h3 : m ≤ cap) (w : World) :
    (Instr.sliceBounds q len cap (lo.map η) (some (η hi)) (some (η mx))).run P w = .ok (l, h, m) w := by
  cases lo with
  | none =>
    cases e1
    simp only [Instr.sliceBounds, Option.map_none, Sem.run_bind, Sem.run_pure, Result.andThen, bound_one e2 (D hi) h2, bound_one e3 (D mx) h3]
  | some x =>
    simp only [Instr.sliceBounds, Option.map_some, Sem.run_bind, Sem.run_pure, Result.andThen, bound_one e2 (D hi) h2, bound_one e3 (D mx) h3, bound_one e1 (D x) h1]
theorem sl_at {ρ : Rn} {b a c o n k : Nat} {cap : Option Nat} (h : ρ b = some (a, c)) : Den ρ (.sl b o n cap k) (.slice (some ⟨a, o, none⟩) n (capR cap c k)) := by
  simp only [Den]
  exact ⟨_, _, h, rfl⟩
theorem op_slice {o : Oper} {t : TypeId} {x : Operand} {lo hi mx : Option Operand} (h : o.op = .slice t x lo hi mx) : OpOk P o (sliceF P t x lo hi mx o) := by
  intro ρ tm σ w η v σ' R D e
  have dx := D x
  rw [sliceF] at e
  have sc : scalarF P o tm σ = some (v, σ') → ∃ ρ' w' n, (execOp η o).run P w = .ok n w' ∧ Ends ρ' v n ∧ Stp P ρ σ w ρ' σ' w' :=
    fun q => op_scalar (fun cs b q' => by rw [h] at q'; cases q') ρ tm σ w η v σ' R D q
  generalize ev tm x = y at e dx
  cases e0 : strB y with
  | true => rw [e0] at e; exact sc e
  | false =>
    rw [e0] at e
    simp only at e
    cases e1 : sliceE P σ t y (evO tm lo) (evO tm hi) (evO tm mx) with
    | none => rw [e1] at e; cases e
    | some r =>
      rw [e1] at e
      have e2 : r = v := by cases e; rfl
      have e3 : σ = σ' := by cases e; rfl
      subst e2 e3
      clear e
      have fin : ∀ u, (Instr.sliceAt t (η x) (lo.map η) (hi.map η) (mx.map η)).run P w = .ok u w → Den ρ r u → ∃ ρ' w' n, (execOp η o).run P w = .ok n w' ∧ Ends ρ' r n ∧ Stp P ρ σ w ρ' σ w' := by
        intro u h1 h2
        refine val_ok R (u := u) ?_ h2
        rw [execOp, h]
        simp only [Sem.run_bind, h1, Result.andThen, Sem.run_pure]
      unfold sliceE at e1
      split at e1
      · next elem hu =>
        have step : ∀ (A : Option Addr) (len cap l h' m size : Nat), η x = .slice A len cap → szE P elem = some size → (Instr.sliceBounds true len cap (lo.map η) (hi.map η) (mx.map η)).run P w = .ok (l, h', m) w →
            (Instr.sliceAt t (η x) (lo.map η) (hi.map η) (mx.map η)).run P w = .ok (.slice (if m = l then A else A.map (·.add (l * size))) (h' - l) (m - l)) w := by
          intro A len cap l h' m size g1 g2 g3
          simp only [Instr.sliceAt, Instr.slice, Sem.run_bind, run_underE hu, Result.andThen, g1, g3, run_sizeE g2, Sem.run_pure]
        have nomx : evO tm mx = none → mx = none := by
          intro q
          cases mx with
          | none => rfl
          | some z => cases q
        split at e1
        · next hs =>
          split at e1
          · next g1 g2 g3 =>
            cases e1
            have g3 := nomx g3
            subst g3
            obtain ⟨sz, hs⟩ : ∃ sz, szE P elem = some sz := ⟨_, hs⟩
            refine fin _ (step none 0 0 0 0 0 sz dx.s hs (bounds_none D g1 g2 (Nat.le_refl _) (Nat.le_refl _) w)) ?_
            exact Den.sv _
          · cases e1
        · next hs =>
          split at e1
          · next g1 g2 g3 =>
            cases e1
            have g3 := nomx g3
            subst g3
            obtain ⟨sz, hs⟩ : ∃ sz, szE P elem = some sz := ⟨_, hs⟩
            obtain ⟨A, c, hx⟩ := dx.zl
            refine fin _ (step A 0 c 0 0 c sz hx hs (bounds_none D g1 g2 (Nat.le_refl _) (Nat.zero_le _) w)) ?_
            simp only [Den]
            by_cases q : c = 0
            · rw [if_pos q]; exact ⟨_, _, rfl⟩
            · rw [if_neg q]; exact ⟨_, _, rfl⟩
          · cases e1
        · next b off len cap k size hs =>
          obtain ⟨a, c, hr, hx⟩ := dx.sl
          have place : ∀ (m l : Nat), (if m = l then (some ⟨a, off, none⟩ : Option Addr) else (some (⟨a, off, none⟩ : Addr)).map (·.add (l * size))) = some ⟨a, (match Nat.beq m l with | true => off | false => off + l * size), none⟩ := by
            intro m l
            by_cases q : m = l
            · rw [if_pos q, q, Nat.beq_refl]
            · rw [if_neg q]
              have : Nat.beq m l = false := by
                cases z : Nat.beq m l with
                | false => rfl
                | true => exact absurd (Nat.eq_of_beq_eq_true z) q
              rw [this, Option.map_some, addr_add]
          split at e1
          · next l h' g1 g2 =>
            split at e1
            · next g3 =>
              have g3 := nomx g3
              subst g3
              split at e1
              · next cc =>
                split at e1
                · next g4 =>
                  cases e1
                  obtain ⟨g5, g6⟩ := Bool.and_eq_true_iff.1 g4
                  have g5 := Nat.le_of_ble_eq_true g5
                  have g6 := Nat.le_of_ble_eq_true g6
                  refine fin _ (step _ len cc l h' cc size hx hs (bounds_none D g1 g2 g5 g6 w)) ?_
                  rw [place]
                  exact sl_at hr
                · cases e1
              · have hle := R.told_le (k := k) hr hs
                split at e1
                · next g4 g7 =>
                  cases e1
                  obtain ⟨g5, g6⟩ := Bool.and_eq_true_iff.1 g4
                  have g5 := Nat.le_of_ble_eq_true g5
                  have g6 := Nat.le_of_ble_eq_true g6
                  refine fin _ (step _ len (c - k) l h' (c - k) size hx hs (bounds_none D g1 g2 g5 (by omega) w)) ?_
                  have hp : (if c - k = l then (some ⟨a, off, none⟩ : Option Addr) else (some (⟨a, off, none⟩ : Addr)).map (·.add (l * size))) = some ⟨a, off + l * size, none⟩ := by
                    by_cases q : l = 0
                    · subst q
                      by_cases q' : c - k = 0
                      · rw [if_pos q']; simp
                      · rw [if_neg q', Option.map_some, addr_add]
                    · rcases Bool.or_eq_true_iff.1 g7 with g8 | g8
                      · have := Nat.le_of_ble_eq_true g8
                        rw [if_neg (by omega), Option.map_some, addr_add]
                      · exact absurd (Nat.eq_of_beq_eq_true g8) q
                  rw [hp]
                  simp only [Den]
                  exact ⟨_, _, hr, by simp only [capR]; rw [Nat.sub_sub]⟩
                · next g4 g7 =>
                  cases e1
                  obtain ⟨g5, g6⟩ := Bool.and_eq_true_iff.1 g4
                  have g5 := Nat.le_of_ble_eq_true g5
                  have g6 := Nat.le_of_ble_eq_true g6
                  obtain ⟨g8, g9⟩ := Bool.or_eq_false_iff.1 g7
                  have g10 : ¬ l + 1 ≤ told σ b elem size k := fun q => by rw [Nat.ble_eq_true_of_le q] at g8; cases g8
                  have g11 : h' - l = 0 := by omega
                  refine fin _ (step _ len (c - k) l h' (c - k) size hx hs (bounds_none D g1 g2 g5 (by omega) w)) ?_
                  rw [place, g11]
                  simp only [Den]
                  exact ⟨_, _, rfl⟩
                · cases e1
            · next mv g3 =>
              split at e1
              · next hv m g4 g5 =>
                split at e1
                · next g6 =>
                  cases e1
                  cases mx with
                  | none => cases g3
                  | some zm =>
                    cases hi with
                    | none => cases g4
                    | some zh =>
                      have g3 : ev tm zm = mv := by cases g3; rfl
                      subst g3
                      obtain ⟨g7, g8⟩ := Bool.and_eq_true_iff.1 g6
                      obtain ⟨g9, g10⟩ := Bool.and_eq_true_iff.1 g7
                      have g9 := Nat.le_of_ble_eq_true g9
                      have g10 := Nat.le_of_ble_eq_true g10
                      have g11 : m ≤ capR cap c k := by
                        cases cap with
                        | none => exact Nat.le_trans (Nat.le_of_ble_eq_true g8) (R.told_le hr hs)
                        | some cc => exact Nat.le_of_ble_eq_true g8
                      refine fin _ (step _ len _ l h' m size hx hs (bounds_some D g1 g2 g5 g9 g10 g11 w)) ?_
                      rw [place]
                      exact sl_at hr
                · cases e1
              · cases e1
          · cases e1
        · cases e1
      · next n elem hu =>
        split at e1
        · next b off size l h' hs g2 g3 g4 =>
          split at e1
          · next g6 =>
            cases e1
            have g4' : mx = none := by
              cases mx with
              | none => rfl
              | some z => cases g4
            subst g4'
            obtain ⟨a, c, hr, hx⟩ := dx.p
            obtain ⟨g7, g8⟩ := Bool.and_eq_true_iff.1 g6
            have g7 := Nat.le_of_ble_eq_true g7
            have g8 := Nat.le_of_ble_eq_true g8
            have hb := bounds_none (P := P) (q := false) (len := n) D g2 g3 g7 g8 w
            refine fin (.slice (some ⟨a, (match Nat.beq n l with | true => off | false => off + l * size), none⟩) (h' - l) (n - l)) ?_ (sl_at hr)
            have hp : (if n = l then (⟨a, off, none⟩ : Addr) else (⟨a, off, none⟩ : Addr).add (l * size)) = ⟨a, (match Nat.beq n l with | true => off | false => off + l * size), none⟩ := by
              by_cases q : n = l
              · rw [if_pos q, q, Nat.beq_refl]
              · rw [if_neg q]
                have : Nat.beq n l = false := by
                  cases z : Nat.beq n l with
                  | false => rfl
                  | true => exact absurd (Nat.eq_of_beq_eq_true z) q
                rw [this, addr_add]
            rw [← hp]
            simp only [Instr.sliceAt, Sem.run_bind, run_underE hu, Result.andThen, hx, Instr.sureAddr, Option.map_none, hb, run_sizeE hs, Sem.run_pure]
          · cases e1
        · cases e1
      · cases e1
end Ev
end Go.Proofs.YtkfhapidoolfdaaGreatDoor

namespace Go.Proofs.YtkfhapidoolfdaaGreatDoor
open Go
namespace Ev
variable {P : Program}

theorem strB8_cons (t : ByteArray) (i : Nat) (b : UInt8) (l : List UInt8) : strB8 t i (b :: l) = b.toNat <<< (8 * i) + strB8 t (i + 1) l := rfl
theorem strB8_shift (t : ByteArray) : ∀ (l : List UInt8) (i : Nat), strB8 t i l = 2 ^ (8 * i) * strB8 t 0 l
  | [], i => rfl
  | b :: l, i => by
    rw [strB8_cons, strB8_cons, strB8_shift t l (i + 1), strB8_shift t l (0 + 1), Nat.shiftLeft_eq, Nat.shiftLeft_eq]
    have h : 2 ^ (8 * (i + 1)) = 2 ^ (8 * i) * 256 := by rw [Nat.mul_add, Nat.pow_add]
    rw [h]
    generalize 2 ^ (8 * i) = p
    show b.toNat * p + p * 256 * strB8 t 0 l = p * (b.toNat * 1 + 256 * strB8 t 0 l)
    rw [Nat.mul_one, Nat.mul_add, Nat.mul_comm b.toNat p, Nat.mul_assoc]
theorem segB_cons0 {b x : Nat} (h : b < 256) : segB (b + 2 ^ 8 * x) 0 1 = b := by
  rw [segB_eq]
  simp only [Nat.mul_zero, Nat.shiftRight_zero]
  show (b + 256 * x) % 256 = b
  rw [Nat.add_mul_mod_self_left, Nat.mod_eq_of_lt h]
theorem segB_consS {b x j : Nat} (h : b < 256) : segB (b + 2 ^ 8 * x) (j + 1) 1 = segB x j 1 := by
  rw [segB_eq, segB_eq]
  congr 1
  rw [show 8 * (j + 1) = 8 + 8 * j by omega, Nat.shiftRight_add]
  congr 1
  rw [Nat.shiftRight_eq_div_pow]
  show (b + 256 * x) / 256 = x
  rw [Nat.add_mul_div_left _ _ (by decide), Nat.div_eq_of_lt h, Nat.zero_add]
theorem strB8_at (t : ByteArray) : ∀ (l : List UInt8) (j : Nat) (b : UInt8), l[j]? = some b → segB (strB8 t 0 l) j 1 = b.toNat
  | [], j, b, h => by cases j <;> cases h
  | c :: l, j, b, h => by
    have e : strB8 t 0 (c :: l) = c.toNat + 2 ^ 8 * strB8 t 0 l := by
      rw [strB8_cons, strB8_shift t l (0 + 1), Nat.shiftLeft_eq]
      simp only [Nat.mul_zero, Nat.pow_zero, Nat.mul_one, Nat.zero_add]
    rw [e]
    cases j with
    | zero =>
      have h : c = b := by cases h; rfl
      rw [segB_cons0 c.toNat_lt, h]
    | succ j => rw [segB_consS c.toNat_lt]; exact strB8_at t l j b h
theorem str_list (t : ByteArray) (c : Nat) (h : c ≤ t.size) : ((t.extract 0 c).data.map fun b => Value.int .u8 b.toNat).toList = unV (strB8 t 0 t.data.toList) 0 c := by
  have hd : ((t.extract 0 c).data.map fun b => Value.int .u8 b.toNat).toList = (t.data.toList.take c).map fun b => Value.int .u8 b.toNat := by
    rw [Array.toList_map, ByteArray.data_extract, Array.toList_extract, List.extract_eq_take_drop]
    simp
  have hs : t.data.toList.length = t.size := by rw [Array.length_toList]; rfl
  rw [hd]
  refine list_byV (by rw [List.length_map, List.length_take, hs]; omega) ?_
  intro j hj
  have hj' : j < t.data.toList.length := by omega
  rw [List.getElem?_map, List.getElem?_take, if_pos hj, List.getElem?_eq_getElem hj', Option.map_some, Nat.zero_add, byV, strB8_at t _ j _ (List.getElem?_eq_getElem hj')]
  rfl
theorem unV_seg (bs c : Nat) : unV (segB bs 0 c) 0 c = unV bs 0 c := by
  refine (list_byV (unV_len _ c 0) ?_)
  intro j hj
  rw [unV_at _ c 0 j hj, Nat.zero_add, byV, byV, segB_segB bs 0 c j hj, Nat.zero_add]
/-- the cells that a copy reads -/
theorem Rep.src {ρ : Rn} {σ : St} {w : World} (R : Rep P ρ σ w) {s : EV} {x : Value} {sn c size : Nat} {r : Row} (d : Den ρ s x) (e1 : srcLen s = some sn) (hc : c ≤ sn) (e2 : srcN σ size c s = some r) :
    ∃ vs : List Value, (Builtin.lenOf x).run P w = .ok sn w ∧ (Builtin.firstCells size c x).run P w = .ok vs.toArray w ∧ RowD ρ r vs := by
  cases s with
  | s v =>
    rw [show x = v from d.s]
    cases v with
    | string t =>
      cases e1
      cases e2
      refine ⟨_, rfl, by simp only [Builtin.firstCells]; rw [Sem.run_pure, ← Array.toArray_toList (xs := (t.extract 0 c).data.map fun b => Value.int .u8 b.toNat), str_list t c hc], ?_⟩
      show _ = unV (segB (strB8 t 0 t.data.toList) 0 c) 0 c
      rw [unV_seg]
    | slice p n cp =>
      cases p with
      | none =>
        cases e1
        cases e2
        exact ⟨[], rfl, rfl, (Dens.nilm : Dens ρ [] [])⟩
      | some a => cases e2
    | _ => cases e1
  | sl b o n cap k =>
    obtain ⟨a, c', h1, rfl⟩ := d.sl
    cases e1
    obtain ⟨vs, g1, g2, g3⟩ := R.load h1 e2
    refine ⟨vs, rfl, ?_, g2⟩
    exact run_firstCells_some (P := P) w size c ⟨a, o, none⟩ _ _ vs g1 (fun j v hv => by rw [addr_add]; exact g3 j v hv)
  | zl =>
    obtain ⟨a, c', rfl⟩ := d.zl
    cases e1
    cases e2
    have hc0 : c = 0 := by omega
    subst hc0
    refine ⟨[], rfl, ?_, (Dens.nilm : Dens ρ [] [])⟩
    cases a with
    | none => rfl
    | some a => simp only [Builtin.firstCells, Nat.zero_mul]; rfl
  | _ => cases e1
theorem Rep.storeO {ρ : Rn} {σ σ' : St} {w : World} (R : Rep P ρ σ w) {b a c o : Nat} {r : Row} {vs : List Value} (hr : ρ b = some (a, c)) (d : RowD ρ r vs) (e : Ev.storeO σ b o r = some σ') :
    ∃ w', (storeCells ⟨a, o, none⟩ vs).run P w = .ok () w' ∧ Stp P ρ σ w ρ σ' w' := by
  unfold Ev.storeO at e
  cases h : oneR r with
  | false => rw [h] at e; cases e
  | true => rw [h] at e; exact R.store hr d h e
theorem elemSz_some {t : TypeId} {el : TypeId} {n : Nat} (h : elemSz P t = some (el, n)) : underE P t = some (.slice el) ∧ szE P el = some n := by
  unfold elemSz at h
  split at h
  · next hu =>
    split at h
    · next hs => cases h; exact ⟨hu, hs⟩
    · cases h
  · cases h
theorem op_copy {o : Oper} {c : Go.Call} {d s : Operand} {t : TypeId} {ts : List TypeId} (h : o.op = .call c) (hb : c.callee = .builtin .copy) (ha : c.args.toList = [d, s]) (ht : c.argTypes.toList = t :: ts) : OpOk P o (copyF P t d s) := by
  intro ρ tm σ w η v σ' R D e
  have dd := D d
  have ds := D s
  obtain ⟨q1, q2, q3⟩ := args2 ha ht η
  rw [copyF] at e
  generalize ev tm d = y at e dd
  generalize ev tm s = z at e ds
  unfold copyE at e
  split at e
  · next el size dn sn g1 g2 g3 =>
    obtain ⟨g4, g5⟩ := elemSz_some g1
    cases g6 : srcN σ size (Nat.min sn dn) z with
    | none => rw [g6] at e; cases e
    | some r =>
      rw [g6] at e
      obtain ⟨vs, k1, k2, k3⟩ := R.src ds g3 (Nat.min_le_left sn dn) g6
      have run : ∀ (A : Option Addr) (cp : Nat) (w' : World), η d = .slice A dn cp → (match A with | some a => storeCells a vs | none => pure ()).run P w = .ok () w' → (execOp η o).run P w = .ok (.value (goInt (Nat.min sn dn : Nat))) w' := by
        intro A cp w' j1 j2
        obtain ⟨k, h4⟩ := builtin_run (P := P) h hb η w
        rw [h4]
        cases A with
        | none =>
          cases j2
          simp only [builtin, Builtin.copy_, q1, q2, q3, Sem.run_bind, run_underE g4, j1, k1, run_sizeE g5, k2, Result.andThen, Sem.run_pure]
        | some a =>
          have j3 : (storeCells a vs).run P w = .ok () w' := j2
          simp only [builtin, Builtin.copy_, q1, q2, q3, Sem.run_bind, run_underE g4, j1, k1, run_sizeE g5, k2, j3, Result.andThen, Sem.run_pure]
      cases y with
      | sl b off n cap k =>
        obtain ⟨a, c', h1, h2⟩ := dd.sl
        cases g2
        simp only [copyTo] at e
        cases e3 : Ev.storeO σ b off r with
        | none => rw [e3] at e; cases e
        | some σ2 =>
          rw [e3] at e
          cases e
          obtain ⟨w', j1, j2⟩ := R.storeO h1 k3 e3
          exact ⟨ρ, w', _, run _ _ w' h2 j1, .inl ⟨_, rfl, Den.sv _⟩, j2⟩
      | zl =>
        obtain ⟨a, c', h2⟩ := dd.zl
        cases g2
        cases e
        have hm : Nat.min sn 0 = 0 := Nat.min_zero sn
        have hl : vs = [] := by
          rw [hm] at g6
          have hv : vs.length = 0 := by
            cases z with
            | s v =>
              cases v with
              | string t' => cases g6; exact RowD.len k3
              | slice p n cp => cases p <;> cases g6; exact RowD.len k3
              | _ => cases g6
            | sl b o n cap k =>
              have g6' : loadN σ b o (0 * size) = some r := g6
              obtain ⟨a', c'', h1', _⟩ := ds.sl
              obtain ⟨vs', p1, p2, p3⟩ := R.load h1' g6'
              rw [RowD.len k3, ← RowD.len p2, p1, Nat.zero_mul]
            | zl => cases g6; exact RowD.len k3
            | _ => cases g6
          exact List.eq_nil_of_length_eq_zero hv
        refine ⟨ρ, w, _, run a c' w h2 ?_, .inl ⟨_, rfl, Den.sv _⟩, Stp.refl R⟩
        rw [hl]
        cases a <;> rfl
      | s v' =>
        have hx := dd.s
        cases v' with
        | slice p n cp =>
          cases p with
          | none =>
            cases g2
            cases e
            exact ⟨ρ, w, _, run none cp w hx rfl, .inl ⟨_, rfl, Den.sv _⟩, Stp.refl R⟩
          | some a => cases g2
        | _ => cases g2
      | _ => cases g2
  · cases e
theorem zero_list {u : Value} {n : Nat} : (Builtin.zeroCells u.cells n).toList = (List.replicate n u.cells.toList).flatten := by
  rw [Builtin.zeroCells]
  exact zeros_list u.cells n u.cells.size rfl
theorem op_clear {o : Oper} {c : Go.Call} {x : Operand} {t : TypeId} {ts : List TypeId} (h : o.op = .call c) (hb : c.callee = .builtin .clear) (ha : c.args.toList = [x]) (ht : c.argTypes.toList = t :: ts) : OpOk P o (clearF P t x) := by
  intro ρ tm σ w η v σ' R D e
  have dx := D x
  obtain ⟨q1, q2⟩ := args1 ha ht η
  have fin : ∀ (ρ' : Rn) (w' : World), v = .t [] → (Builtin.clear_ c.argTypes o.type (c.args.map η)).run P w = .ok (.tuple #[]) w' → Stp P ρ σ w ρ' σ' w' → ∃ ρ' w' n, (execOp η o).run P w = .ok n w' ∧ Ends ρ' v n ∧ Stp P ρ σ w ρ' σ' w' := by
    intro ρ' w' h1 h2 h3
    obtain ⟨k, h4⟩ := builtin_run (P := P) h hb η w
    refine ⟨ρ', w', .value (.tuple #[]), ?_, .inl ⟨_, rfl, ?_⟩, h3⟩
    · rw [h4]
      simp only [builtin, Sem.run_bind, h2, Result.andThen, Sem.run_pure]
    · rw [h1]; simp only [Den]; exact ⟨[], Dens.nilm, rfl⟩
  rw [clearF] at e
  generalize ev tm x = y at e dx
  unfold clearE at e
  split at e
  · next elem b off n cap k hu =>
    obtain ⟨a, c', hr, hx⟩ := dx.sl
    split at e
    · cases e
      refine fin ρ w rfl ?_ (Stp.refl R)
      simp only [Builtin.clear_, q1, q2, Sem.run_bind, run_underE hu, hx, Result.andThen, Sem.run_pure]
    · next hn =>
      split at e
      · next z hz =>
        split at e
        · next s2 hs =>
          cases e
          obtain ⟨u, g1, g2⟩ := run_zeroE hz
          have dr : RowD ρ (.l (repl (cellsE z) n)) (Builtin.zeroCells u.cells n).toList := by
            rw [zero_list]
            exact repl_D (g2 ρ).row.list n
          obtain ⟨w', g3, g4⟩ := R.storeO hr dr hs
          refine fin ρ w' rfl ?_ g4
          cases n with
          | zero => exact absurd rfl hn
          | succ n =>
            simp only [Builtin.clear_, q1, q2, Sem.run_bind, run_underE hu, hx, g1, g3, Result.andThen, Sem.run_pure]
        · cases e
      · cases e
  · next hu =>
    cases e
    refine fin ρ w rfl ?_ (Stp.refl R)
    simp only [Builtin.clear_, q1, q2, Sem.run_bind, run_underE hu, dx.s, Result.andThen, Sem.run_pure]
  · next hu =>
    split at e
    · next es cl hk =>
      cases e
      obtain ⟨a, c', hr, hx⟩ := dx.m
      obtain ⟨l, h3, h4⟩ := R.map hr hk
      refine fin ρ { w with heap := w.heap.setIfInBounds a (.map #[] cl) } rfl ?_ (Stp.set R hk hr rfl ⟨[], rfl, rfl⟩ rfl rfl rfl)
      simp only [Builtin.clear_, q1, q2, Sem.run_bind, run_underE hu, hx, run_getMap h3, run_setMap h3, Result.andThen, Sem.run_pure]
    · cases e
  · cases e
end Ev
end Go.Proofs.YtkfhapidoolfdaaGreatDoor
