/-
  WALK: the law AgendaPlays.
-/
import Derived.Test.YtbaphdaipacihaaLawTakes
import Derived.Test.YtbaphdaipacihaaOpenOp
import Derived.BigQuiet
import Derived.BigRegion
namespace Go.Proofs.Ytbaphdaipacihaa
open Go.RowKit Go.Sort Go.Shelf

def PlaysRel (W : World) (n : Nat) (pa : Nat) (u i : Value) (wr : World) : Prop :=
  ∃ (k : Nat) (own : List Nat) (L : List Item), k ≤ n ∧ i = .int .i64 k ∧ One W wr pa own L ∧ Beside wr (pa :: own) u L
/-- a row that is new behind w is beside the agenda -/
theorem One.new {W w w' : World} {pa : Nat} {own : List Nat} {l : List Item} (T : One W w pa own l) {v : Value} {m : List Item}
    (h : w'.ownsRow w.heap.size 29 3 v m.length (m.flatMap encI)) : Beside w' (pa :: own) v m :=
  ⟨RdI.of_row h, fun k hk => (h.lt k (by simpa [ob] using hk)).2, fun k hk hx => by
    have := (h.lt k (by simpa [ob] using hk)).1
    have := T.ag.lts k hx
    omega⟩

theorem itvO_agg (o : Option Item) : ∃ z1 z2 z3, itvO o = .agg #[.int .i64 z1, .int .i64 z2, .int .i64 z3] := by
  cases o with
  | none => exact ⟨0, 0, 0, rfl⟩
  | some x => exact ⟨_, _, _, rfl⟩
theorem find_idx {l : List Item} (h : Keyed1 l) (kd key : Int) : (idxD l kd key = -1 ∧ l.find? (isB kd key) = none) ∨ ∃ k : Nat, k < l.length ∧ idxD l kd key = (k : Int) ∧ l.find? (isB kd key) = some (get l k) := by
  rcases idxD_cases l kd key with ⟨e, hn⟩ | ⟨k, hk, e, hb⟩
  · exact .inl ⟨e, List.find?_eq_none.2 fun x hx => by simp [hn x hx]⟩
  · exact .inr ⟨k, hk, e, find_at h (.refl _) hk hb⟩

set_option maxHeartbeats 4000000 in
set_option maxRecDepth 100000 in
theorem plays_any {W : World} {v : Value} {l : List (Int × Item)} (h : RdO W v l) :
    Calls Try.prog 4 #[v] W fun e w' => e = .returned (.bool true) ∧ Mod [] W w' := by
  have hll : l.length ≤ 9223372036854775807 := h.1
  go_enter Try.func4, Try.ntmps4
  go_wp2_with fail
  refine (awake_any _).mono ?_
  rintro e w1 ⟨rfl, hm1⟩
  go_wp2_with fail
  refine (new_any _).mono ?_
  rintro e w2 ⟨rfl, hr2, hg2, hs2⟩
  have T : One W w2 w1.heap.size [] [] := ⟨⟨⟨_, [], hr2, .refl _, rfl⟩, List.Pairwise.nil, List.Pairwise.nil, by simp⟩, ⟨hm1.gr hg2, by simp; exact hm1.size⟩⟩
  clear hr2 hg2 hs2 hm1
  generalize w1.heap.size = pa at T ⊢
  obtain ⟨p, cap, rfl⟩ := h.len
  have hB : Beside w2 (pa :: []) (.slice none 0 0) [] := ⟨⟨by simp, .inl ⟨none, 0, rfl, rfl⟩⟩, by simp [ob, Value.ownBlock], by simp [ob, Value.ownBlock]⟩
  go_wp2_with fail
  go_loopw [4, 28] (fun u i wr => PlaysRel W l.length pa u i wr) (fun _ i _ => l.length - (intOf i).toNat)
  case atStart => exact ⟨0, [], [], Nat.zero_le _, rfl, T, hB⟩
  case round =>
    clear T hB
    obtain ⟨k, own, L, hk, rfl, T, hB⟩ := hrel
    by_cases hlt : k < l.length
    · obtain ⟨b, off, cap', hv, hbw, o0, y1, y2, y3, c0, c1, c2, c3⟩ := (h.mod T.since.mod (by simp)).at_ k hlt
      simp only [Value.slice.injEq, true_and] at hv
      obtain ⟨rfl, rfl⟩ := hv
      have i1 : (0 : Int) ≤ (k : Int) := by omega
      have i2 : (k : Int) < (l.length : Int) := by omega
      have g0 : Gr wr ((wr.alloc (.cells #[.int .i64 o0, .int .i64 y1, .int .i64 y2, .int .i64 y3] 34)).alloc (.cells #[.int .i64 y1, .int .i64 y2, .int .i64 y3] 29)) := ((Gr.refl wr).alloc _).alloc _
      have T0 := T.gr g0
      have hB0 := hB.same (g0.mod [])
      have X0 := Aside.new (T.gr ((Gr.refl wr).alloc (.cells #[.int .i64 o0, .int .i64 y1, .int .i64 y2, .int .i64 y3] 34))).ag (.cells #[.int .i64 y1, .int .i64 y2, .int .i64 y3] 29)
      have e0 : (wr.alloc (.cells #[.int .i64 o0, .int .i64 y1, .int .i64 y2, .int .i64 y3] 34)).heap.size = wr.heap.size + 1 := Array.size_push _
      rw [e0] at X0
      clear e0 g0
      have hsm : L.length ≤ 100000 := by have := T0.ag.small; omega
      go_wp2_with fail
      all_goals clear T hB c0 c1 c2 c3
      · refine (rdrop_any hB0.rd hsm y2 y3).mono ?_
        rintro e w3 ⟨nv, rfl, hn, hm3⟩
        have T1 := T0.same hm3
        have hB1 := T0.new hn
        have X1 := X0.mod hm3
        clear T0 hB0 X0 hn hm3
        obtain ⟨np, nc, rfl⟩ := hB1.rd.len
        have q1 := X1.cell 0
        have q2 := X1.cell 1
        have q3 := X1.cell 2
        simp at q1 q2 q3
        go_wp2_with fail
        refine (drop_eq T1.ag y2 y3 rfl rfl).mono ?_
        rintro e w4 ⟨rfl, own4, hA4, ht4⟩
        have T4 := T1.to hA4 ht4
        have hB4 := hB1.to ht4
        clear T1 hB1 X1 q1 q2 q3 hA4 ht4
        go_wp2_with fail
        refine (aglen' T4.ag rfl).mono ?_
        rintro e w9 ⟨rfl, rfl⟩
        go_wp2_with fail
        go_roundw
        case rel => exact ⟨k + 1, own4, dropI L y2 y3, by omega, by go_num, T4, hB4⟩
        case measure => simp [intOf]; omega
      · refine (get_eq T0.ag y2 y3 rfl).mono ?_
        rintro e w3 ⟨rfl, hm3⟩
        obtain ⟨z1, z2, z3, hz⟩ := itvO_agg (L.find? (isB y2 y3))
        simp only [optV]
        rw [hz]
        have HZ := hide hz
        clear hz
        have T1 := (T0.same hm3).gr ((Gr.refl w3).alloc (.cells #[.int .i64 z1, .int .i64 z2, .int .i64 z3] 29))
        have hB1 := (hB0.same hm3).same (((Gr.refl w3).alloc (.cells #[.int .i64 z1, .int .i64 z2, .int .i64 z3] 29)).mod [])
        have X1 := (X0.mod hm3).mod (((Gr.refl w3).alloc (.cells #[.int .i64 z1, .int .i64 z2, .int .i64 z3] 29)).mod [])
        clear T0 hB0 X0 hm3
        have q1 := X1.cell 0
        have q2 := X1.cell 1
        have q3 := X1.cell 2
        simp at q1 q2 q3
        go_wp2_with fail
        refine (rfind_any hB1.rd y2 y3).mono ?_
        rintro e w4 ⟨rfl, rfl⟩
        clear q1 q2 q3 X1
        rcases find_idx T1.ag.keyed y2 y3 with ⟨ei, ef⟩ | ⟨j, hj, ei, ef⟩
        · have hz := HZ.out
          rw [ef] at hz
          simp only [itvO, itv, Value.agg.injEq] at hz
          simp at hz
          obtain ⟨rfl, rfl, rfl⟩ := hz
          rw [ei]
          simp only [ef, Option.isSome]
          clear ei ef HZ
          have hez := eql_item 0 0 0 0 0 0
          rw [eqB_self] at hez
          obtain ⟨np, nc, rfl⟩ := hB1.rd.len
          go_wp2_with fail
          go_quiet (fail)
          clear hez
          have T2 := T1.gr ((Gr.refl _).drewN nq)
          have hB2 := hB1.same (((Gr.refl _).drewN nq).mod [])
          clear T1 hB1
          go_wp2_with fail
          refine (aglen' T2.ag rfl).mono ?_
          rintro e w9 ⟨rfl, rfl⟩
          go_wp2_with fail
          go_roundw
          case rel => exact ⟨k + 1, own, L, by omega, by go_num, T2, hB2⟩
          case measure => simp [intOf]; omega
        · have hz := HZ.out
          rw [ef] at hz
          simp only [itvO, itv, Value.agg.injEq] at hz
          simp at hz
          obtain ⟨hz1, hz2, hz3⟩ := hz
          rw [ei]
          simp only [ef, Option.isSome]
          clear ei ef HZ
          obtain ⟨b', off', cap', rfl, hbw', hc'⟩ := hB1.rd.at_ j hj
          obtain ⟨c1, c2, c3⟩ := hc' j hj
          rw [hz1] at c1
          rw [hz2] at c2
          rw [hz3] at c3
          clear hc' hz1 hz2 hz3
          have i3 : (0 : Int) ≤ (j : Int) := by omega
          have i4 : (j : Int) < (L.length : Int) := by omega
          have i5 : decide ((j : Int) < 0) = false := by simp
          have i6 : decide ((0 : Int) ≤ (j : Int)) = true := by simp
          have hez := eql_item z1 z2 z3 z1 z2 z3
          rw [eqB_self] at hez
          go_wp2_with fail
          go_quiet (fail)
          clear hez c1 c2 c3 i3 i4 i5 i6
          have T2 := T1.gr ((Gr.refl _).drewN nq)
          have hB2 := hB1.same (((Gr.refl _).drewN nq).mod [])
          clear T1 hB1
          go_wp2_with fail
          refine (aglen' T2.ag rfl).mono ?_
          rintro e w9 ⟨rfl, rfl⟩
          go_wp2_with fail
          go_roundw
          case rel => exact ⟨k + 1, own, L, by omega, by go_num, T2, hB2⟩
          case measure => simp [intOf]; omega
      · cases L with
        | nil =>
          refine (first_eq T0.ag (o := none) rfl).mono ?_
          rintro e w3 ⟨rfl, hm3⟩
          simp only [optV, itvO, itv, Option.isSome]
          have T1 := (T0.same hm3).gr ((Gr.refl w3).alloc (.cells #[.int .i64 0, .int .i64 0, .int .i64 0] 29))
          have hB1 := (hB0.same hm3).same (((Gr.refl w3).alloc (.cells #[.int .i64 0, .int .i64 0, .int .i64 0] 29)).mod [])
          clear T0 hB0 X0 hm3
          obtain ⟨np, nc, rfl⟩ := hB1.rd.len
          have hez := eql_item 0 0 0 0 0 0
          rw [eqB_self] at hez
          simp only [List.length_nil] at hB1 ⊢
          go_wp2_with fail
          go_quiet (fail)
          clear hez
          have T2 := T1.gr ((Gr.refl _).drewN nq)
          have hB2 := hB1.same (((Gr.refl _).drewN nq).mod [])
          clear T1 hB1
          go_wp2_with fail
          refine (aglen' T2.ag rfl).mono ?_
          rintro e w9 ⟨rfl, rfl⟩
          go_wp2_with fail
          go_roundw
          case rel => exact ⟨k + 1, own, [], by omega, by go_num, T2, hB2⟩
          case measure => simp [intOf]; omega
        | cons z r =>
          obtain ⟨z1, z2, z3⟩ := z
          refine (first_eq T0.ag (o := some (z1, z2, z3)) rfl).mono ?_
          rintro e w3 ⟨rfl, hm3⟩
          simp only [optV, itvO, itv, Option.isSome]
          have T1 := (T0.same hm3).gr ((Gr.refl w3).alloc (.cells #[.int .i64 z1, .int .i64 z2, .int .i64 z3] 29))
          have hB1 := (hB0.same hm3).same (((Gr.refl w3).alloc (.cells #[.int .i64 z1, .int .i64 z2, .int .i64 z3] 29)).mod [])
          clear T0 hB0 X0 hm3
          obtain ⟨b', off', cap', rfl, hbw', hc'⟩ := hB1.rd.at_ 0 (by simp)
          obtain ⟨c1, c2, c3⟩ := hc' 0 (by simp)
          simp only [Nat.zero_mul, Nat.add_zero] at c1 c2 c3
          change _ = some (Value.int .i64 z1) at c1
          change _ = some (Value.int .i64 z2) at c2
          change _ = some (Value.int .i64 z3) at c3
          clear hc'
          have hln : ((((z1, z2, z3) : Item) :: r).length : Int) = (r.length : Int) + 1 := by simp
          have i3 : (0 : Int) < (r.length : Int) + 1 := by omega
          have i4 : ¬ (r.length : Int) + 1 = 0 := by omega
          have hez := eql_item z1 z2 z3 z1 z2 z3
          rw [eqB_self] at hez
          go_wp2_with fail
          go_quiet (fail)
          clear hez c1 c2 c3 i3 i4 hln
          have T2 := T1.gr ((Gr.refl _).drewN nq)
          have hB2 := hB1.same (((Gr.refl _).drewN nq).mod [])
          clear T1 hB1
          go_wp2_with fail
          refine (aglen' T2.ag rfl).mono ?_
          rintro e w9 ⟨rfl, rfl⟩
          go_wp2_with fail
          go_roundw
          case rel => exact ⟨k + 1, own, ((z1, z2, z3) : Item) :: r, by omega, by go_num, T2, hB2⟩
          case measure => simp [intOf]; omega
      · refine (rtake_any hB0.rd hsm T0.ag.keyed y1).mono ?_
        rintro e w3 ⟨nv, rfl, hn, hm3⟩
        have T1 := T0.same hm3
        have hB1 : Beside w3 (pa :: own) nv (takeI L y1).1 := by
          rcases hn with ⟨e1, rfl⟩ | e1
          · rw [e1]; exact hB0.same hm3
          · exact T0.new e1
        have X1 := X0.mod hm3
        clear T0 hB0 X0 hn hm3
        obtain ⟨np, nc, rfl⟩ := hB1.rd.len
        obtain ⟨o, ho⟩ : ∃ o, o = (takeI L y1).2 := ⟨_, rfl⟩
        have htk : takeI L y1 = ((takeI L y1).1, o) := by rw [ho]
        rw [← ho]
        have HT := hide htk
        clear ho htk
        generalize (takeI L y1).1 = L' at hB1 HT ⊢
        obtain ⟨z1, z2, z3, hz⟩ := itvO_agg o
        rw [hz]
        have HZ := hide hz
        clear hz
        generalize hob : o.isSome = ob' at HT HZ ⊢
        have HO := hide hob
        clear hob
        have T2 := T1.gr ((Gr.refl w3).alloc (.cells #[.int .i64 z1, .int .i64 z2, .int .i64 z3] 29))
        have hB2 := hB1.same (((Gr.refl w3).alloc (.cells #[.int .i64 z1, .int .i64 z2, .int .i64 z3] 29)).mod [])
        have X2 := X1.mod (((Gr.refl w3).alloc (.cells #[.int .i64 z1, .int .i64 z2, .int .i64 z3] 29)).mod [])
        have Z2 := Aside.new T1.ag (.cells #[.int .i64 z1, .int .i64 z2, .int .i64 z3] 29)
        clear T1 hB1 X1
        have q1 := X2.cell 0
        have q2 := X2.cell 1
        have q3 := X2.cell 2
        simp at q1 q2 q3
        go_wp2_with fail
        refine (take_eq T2.ag y1 HT.out).mono ?_
        rintro e w4 ⟨rfl, own4, hA4, ht4⟩
        have T4 := (T2.to hA4 ht4).gr ((Gr.refl w4).alloc (.cells #[.int .i64 z1, .int .i64 z2, .int .i64 z3] 29))
        have hB4 := (hB2.to ht4).same (((Gr.refl w4).alloc (.cells #[.int .i64 z1, .int .i64 z2, .int .i64 z3] 29)).mod [])
        have Z4 := (Z2.to ht4).mod (((Gr.refl w4).alloc (.cells #[.int .i64 z1, .int .i64 z2, .int .i64 z3] 29)).mod [])
        clear T2 hB2 X2 Z2 q1 q2 q3 hA4 ht4
        simp only [optV, HZ.out, HO.out]
        have q1 := Z4.cell 0
        have q2 := Z4.cell 1
        have q3 := Z4.cell 2
        simp at q1 q2 q3
        have hez := eql_item z1 z2 z3 z1 z2 z3
        rw [eqB_self] at hez
        clear Z4 HZ HO HT
        go_wp2_with fail
        clear q1 q2 q3 hez
        refine (aglen' T4.ag rfl).mono ?_
        rintro e w9 ⟨rfl, rfl⟩
        go_wp2_with fail
        go_roundw
        case rel => exact ⟨k + 1, own4, L', by omega, by go_num, T4, hB4⟩
        case measure => simp [intOf]; omega
      · refine (list_any T0.ag).mono ?_
        rintro e w3 ⟨lv, rfl, hn, hm3⟩
        have T1 := T0.same hm3
        have hB1 := hB0.same hm3
        clear T0 hB0 X0 hm3
        go_wp2_with fail
        refine (rsame_any (RdI.of_row hn) hB1.rd).mono ?_
        rintro e w4 ⟨rfl, hg4⟩
        have T4 := T1.gr hg4
        have hB4 := hB1.same (hg4.mod [])
        rw [decide_eq_true rfl]
        clear T1 hB1 hn hg4
        obtain ⟨np, nc, rfl⟩ := hB4.rd.len
        go_wp2_with fail
        refine (aglen' T4.ag rfl).mono ?_
        rintro e w9 ⟨rfl, rfl⟩
        go_wp2_with fail
        go_roundw
        case rel => exact ⟨k + 1, own, L, by omega, by go_num, T4, hB4⟩
        case measure => simp [intOf]; omega
      · refine (rput_any hB0.rd hsm y1 y2 y3).mono ?_
        rintro e w3 ⟨nv, rfl, hn, hm3⟩
        have T1 := T0.same hm3
        have hB1 : Beside w3 (pa :: own) nv (putI L (y1, y2, y3)).1 := by
          rcases hn with ⟨e1, rfl⟩ | e1
          · rw [e1]; exact hB0.same hm3
          · exact T0.new e1
        have X1 := X0.mod hm3
        clear T0 hB0 X0 hn hm3
        obtain ⟨np, nc, rfl⟩ := hB1.rd.len
        have q1 := X1.cell 0
        have q2 := X1.cell 1
        have q3 := X1.cell 2
        simp at q1 q2 q3
        go_wp2_with fail
        refine (put_eq T1.ag y1 y2 y3 (l' := (putI L (y1, y2, y3)).1) (c := (putI L (y1, y2, y3)).2) rfl).mono ?_
        rintro e w4 ⟨rfl, own4, hA4, ht4⟩
        have T4 := T1.to hA4 ht4
        have hB4 := hB1.to ht4
        clear T1 hB1 X1 q1 q2 q3 hA4 ht4
        go_wp2_with fail
        refine (aglen' T4.ag rfl).mono ?_
        rintro e w9 ⟨rfl, rfl⟩
        go_wp2_with fail
        go_roundw
        case rel => exact ⟨k + 1, own4, (putI L (y1, y2, y3)).1, by omega, by go_num, T4, hB4⟩
        case measure => simp [intOf]; omega
    · obtain rfl : k = l.length := by omega
      clear h
      go_wp2_with fail
      refine (list_any T.ag).mono ?_
      rintro e w3 ⟨lv, rfl, hn, hm3⟩
      have T1 := T.same hm3
      have hB1 := hB.same hm3
      clear T hB hm3
      go_wp2_with fail
      refine (rsame_any (RdI.of_row hn) hB1.rd).mono ?_
      rintro e w4 ⟨rfl, hg4⟩
      have T4 := T1.gr hg4
      rw [decide_eq_true rfl]
      clear T1 hB1 hn hg4
      go_wp2_with fail
      go_ret
      exact ⟨rfl, T4.since.mod⟩
end Go.Proofs.Ytbaphdaipacihaa
