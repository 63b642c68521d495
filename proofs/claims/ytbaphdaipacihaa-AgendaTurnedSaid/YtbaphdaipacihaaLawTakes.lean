/-
  WALK: the law AgendaTakes.
-/
import Derived.Test.YtbaphdaipacihaaTwo
import Derived.BigQuiet
import Derived.IntWalk
namespace Go.Proofs.Ytbaphdaipacihaa
open Go.RowKit Go.Sort Go.Shelf

/-- one agenda behind W, a slice beside it -/
structure One (W w : World) (pa : Nat) (own : List Nat) (l : List Item) : Prop where
  ag : Ag w pa own l
  since : Since W w pa own
theorem One.to {W w w' : World} {pa : Nat} {own own' : List Nat} {l l' : List Item} (h : One W w pa own l) (a : Ag w' pa own' l') (t : AgTo w pa own w' own') : One W w' pa own' l' := ⟨a, h.since.to t⟩
theorem One.same {W w w' : World} {pa : Nat} {own : List Nat} {l : List Item} (h : One W w pa own l) (m : Mod [] w w') : One W w' pa own l := ⟨h.ag.mod m (by simp) (by simp), h.since.then m⟩
theorem One.gr {W w w' : World} {pa : Nat} {own : List Nat} {l : List Item} (h : One W w pa own l) (m : Gr w w') : One W w' pa own l := h.same (m.mod [])
theorem Beside.to {w w' : World} {pa : Nat} {own own' : List Nat} {v : Value} {l : List Item} (h : Beside w (pa :: own) v l) (t : AgTo w pa own w' own') : Beside w' (pa :: own') v l :=
  h.kept t.mod (fun k hk hx => h.off k hk hx) t.news
theorem aglen' {w : World} {pa : Nat} {own : List Nat} {l : List Item} (h : Ag w pa own l) {n : Int} (hn : n = l.length) : Calls Try.prog 11 #[.pointer (some ⟨pa, 0, none⟩)] w fun e w' => e = .returned (.int .i64 n) ∧ w' = w :=
  (aglen h hn).mono fun _ _ ⟨a, b⟩ => ⟨a, b.symm⟩

def TakesRel1 (W : World) (l : List Item) (pa : Nat) (i : Value) (wr : World) : Prop := ∃ (k : Nat) (own : List Nat), k ≤ l.length ∧ i = .int .i64 k ∧ One W wr pa own (putAll [] (l.take k))
def TakesRel2 (W : World) (L : List Item) (pa : Nat) (v : Value) (i : Value) (wr : World) : Prop :=
  ∃ (k : Nat) (own : List Nat), k ≤ L.length ∧ i = .int .i64 k ∧ One W wr pa own (L.drop k) ∧ Beside wr (pa :: own) v L
theorem drop_cons {L : List Item} {k : Nat} (hk : k < L.length) : L.drop k = get L k :: L.drop (k + 1) := by
  rw [List.drop_eq_getElem_cons hk]; simp [get, hk]

theorem RdI.cell {w : World} {b off n cap : Nat} {l : List Item} (h : RdI w (.slice (some ⟨b, off, none⟩) n cap) l) (i : Nat) (hi : i < l.length) :
    w.cell? ⟨b, off + i * 3, none⟩ = some (.int .i64 (get l i).1) ∧ w.cell? ⟨b, off + i * 3 + 1, none⟩ = some (.int .i64 (get l i).2.1) ∧ w.cell? ⟨b, off + i * 3 + 2, none⟩ = some (.int .i64 (get l i).2.2) := by
  obtain ⟨b', off', cap', hv, _, hc⟩ := h.at_ i hi
  simp only [Value.slice.injEq, Option.some.injEq, Addr.mk.injEq, and_true] at hv
  obtain ⟨⟨rfl, rfl⟩, rfl, rfl⟩ := hv
  exact hc i hi
theorem get_drop (l : List Item) (i j : Nat) : get (l.drop i) j = get l (i + j) := by simp [get]
theorem RdI.drop {w : World} {b off n cap : Nat} {l : List Item} (h : RdI w (.slice (some ⟨b, off, none⟩) n cap) l) (i : Nat) (hi : i < l.length) (cap' : Nat) :
    RdI w (.slice (some ⟨b, off + i * 3, none⟩) (l.length - i) cap') (l.drop i) := by
  have hc0 := (h.cell i hi).1
  refine ⟨by rw [List.length_drop]; have := h.1; omega, .inr ⟨b, off + i * 3, cap', by rw [List.length_drop], World.block_lt_of_cell? w _ hc0, fun j hj => ?_⟩⟩
  rw [List.length_drop] at hj
  obtain ⟨q1, q2, q3⟩ := h.cell (i + j) (by omega)
  rw [get_drop]
  have e : off + (i + j) * 3 = off + i * 3 + j * 3 := by omega
  rw [e] at q1 q2 q3
  exact ⟨q1, q2, q3⟩
theorem eqB_self (a b c : Int) : eqB a b c a b c = true := by simp [eqB]

set_option maxHeartbeats 4000000 in
set_option maxRecDepth 100000 in
theorem takes_any {W : World} {v : Value} {l : List Item} (h : RdI W v l) (now : Int) :
    Calls Try.prog 5 #[v, .int .i64 now] W fun e w' => e = .returned (.bool true) ∧ Mod [] W w' := by
  have hgd := guard_item
  have hll : l.length ≤ 9223372036854775807 := h.1
  go_enter Try.func5, Try.ntmps5
  go_wp2_with fail
  refine (awake_any _).mono ?_
  rintro e w1 ⟨rfl, hm1⟩
  go_wp2_with fail
  refine (new_any _).mono ?_
  rintro e w2 ⟨rfl, hr2, hg2, hs2⟩
  have T : One W w2 w1.heap.size [] [] := ⟨⟨⟨_, [], hr2, .refl _, rfl⟩, List.Pairwise.nil, List.Pairwise.nil, by simp⟩, ⟨hm1.gr hg2, by simp; exact hm1.size⟩⟩
  clear hr2 hg2 hs2 hm1
  generalize w1.heap.size = pa at T ⊢
  obtain ⟨p, cap, rfl⟩ := h.len
  go_wp2_with fail
  go_loopw [21] (fun i wr => TakesRel1 W l pa i wr) (fun i _ => l.length - (intOf i).toNat)
  case atStart => exact ⟨0, [], Nat.zero_le _, rfl, T⟩
  case round =>
    clear T
    obtain ⟨k, own, hk, rfl, T⟩ := hrel
    by_cases hlt : k < l.length
    · obtain ⟨b, off, cap', hv, hbw, hc⟩ := (h.mod T.since.mod (by simp)).at_ k hlt
      simp only [Value.slice.injEq, true_and] at hv
      obtain ⟨rfl, rfl⟩ := hv
      obtain ⟨c1, c2, c3⟩ := hc k hlt
      have i1 : (0 : Int) ≤ (k : Int) := by omega
      have i2 : (k : Int) < (l.length : Int) := by omega
      obtain ⟨⟨y1, y2, y3⟩, hy⟩ : ∃ y, y = get l k := ⟨_, rfl⟩
      rw [← hy] at c1 c2 c3
      have hsn : putAll [] (l.take (k + 1)) = (putI (putAll [] (l.take k)) (y1, y2, y3)).1 := by rw [take_snoc' l k hlt, ← hy, putAll_snoc]
      have HS := hide hsn
      clear hc hy hsn
      have T1 := T.gr ((Gr.refl wr).alloc (.cells #[.int .i64 y1, .int .i64 y2, .int .i64 y3] 29))
      go_wp2_with fail
      refine (put_any T1.ag y1 y2 y3).mono ?_
      rintro e w10 ⟨rfl, o1', hA10, ht10⟩
      have T2 := T1.to hA10 ht10
      rw [← HS.out] at T2
      clear c1 c2 c3 T T1 hA10 ht10
      go_wp2_with fail
      go_roundw
      case rel => exact ⟨k + 1, o1', by omega, by go_num, T2⟩
      case measure => simp [intOf]; omega
    · obtain rfl : k = l.length := by omega
      rw [List.take_length] at T
      generalize putAll [] l = L at T
      clear h
      have hsm := T.ag.small
      go_wp2_with fail
      refine (list_any T.ag).mono ?_
      rintro e w12 ⟨pv, rfl, hp12, hm12⟩
      have T12 := T.same hm12
      have hB12 : Beside w12 (pa :: own) pv L := ⟨RdI.of_row hp12, fun k hk => (hp12.lt k (by simpa [ob] using hk)).2, fun k hk hx => by
        have := (hp12.lt k (by simpa [ob] using hk)).1
        have := T.ag.lts k hx
        omega⟩
      have hshape : pv = .slice none 0 0 ∨ ∃ g c, pv = .slice (some ⟨g, 0, none⟩) L.length c ∧ L.length ≤ c ∧ c ≤ maxLen := by
        rcases hp12.2 with ⟨e, _⟩ | ⟨g, c, _, e, _, _, h1, h2, _⟩
        · exact .inl e
        · exact .inr ⟨g, c, e, h1, h2⟩
      have hsrt := T.ag.srt
      clear hp12 T hm12
      obtain ⟨pp, pc, rfl⟩ := hB12.rd.len
      go_wp2_with fail
      refine (aglen T12.ag rfl).mono ?_
      rintro e w13 ⟨rfl, rfl⟩
      go_wp2_with fail
      go_loopw [12, 43] (fun _ i wr => TakesRel2 W L pa (.slice pp L.length pc) i wr) (fun _ i _ => L.length - (intOf i).toNat)
      case atStart => exact ⟨0, own, Nat.zero_le _, rfl, T12, hB12⟩
      case round =>
        clear T12 hB12
        obtain ⟨j, own, hj, rfl, T, hB⟩ := hrel
        by_cases hlt2 : j < L.length
        · have hcons := drop_cons hlt2
          obtain ⟨b, off, cap', hv, hbw, hc⟩ := hB.rd.at_ j hlt2
          simp only [Value.slice.injEq, true_and] at hv
          obtain ⟨rfl, rfl⟩ := hv
          obtain ⟨⟨y1, y2, y3⟩, hy⟩ : ∃ y, y = get L j := ⟨_, rfl⟩
          rw [← hy] at hcons
          have HC := hide hcons
          have HY := hide hy
          clear hcons hy hc
          have i1 : (0 : Int) ≤ (j : Int) := by omega
          have i2 : (j : Int) < (L.length : Int) := by omega
          by_cases hj0 : j = 0
          · have b0 : decide (0 < j) = false := by simp; omega
            have HJ := hide hj0
            clear hj0
            go_wp2_with fail
            go_quiet (fail)
            have T := T.gr ((Gr.refl wr).drewN nq)
            have hB := hB.same (((Gr.refl wr).drewN nq).mod [])
            generalize wr.drewN nq = wz at T hB ⊢
            clear b0
            obtain ⟨c1, c2, c3⟩ := hB.rd.cell j hlt2
            rw [← HY.out] at c1 c2 c3
            go_wp2_with fail
            refine (first_eq T.ag (o := some (y1, y2, y3)) (by rw [HC.out]; rfl)).mono ?_
            rintro e w20 ⟨rfl, hm20⟩
            have T20 := (T.same hm20).gr ((Gr.refl w20).alloc (.cells #[.int .i64 y1, .int .i64 y2, .int .i64 y3] 29))
            have hB20 := (hB.same hm20).same (((Gr.refl w20).alloc (.cells #[.int .i64 y1, .int .i64 y2, .int .i64 y3] 29)).mod [])
            clear T hB c1 c2 c3 hm20
            obtain ⟨c1, c2, c3⟩ := hB20.rd.cell j hlt2
            rw [← HY.out] at c1 c2 c3
            have hne := neq_item y1 y2 y3 y1 y2 y3
            rw [eqB_self] at hne
            simp only [optV, itvO, itv, Option.isSome]
            go_wp2_with fail
            go_quiet (fail)
            have T21 := T20.gr ((Gr.refl _).drewN nq)
            have hB21 := hB20.same (((Gr.refl _).drewN nq).mod [])
            clear T20 hB20 c1 c2 c3
            generalize (w20.alloc (.cells #[.int .i64 y1, .int .i64 y2, .int .i64 y3] 29)).drewN nq = w21 at T21 hB21 ⊢
            by_cases hdue : y1 ≤ now
            · have htk : takeI (L.drop j) now = (L.drop (j + 1), some (y1, y2, y3)) := by rw [HC.out]; simp only [takeI, if_pos hdue]
              go_wp2_with fail
              refine (take_eq T21.ag now htk).mono ?_
              rintro e w22 ⟨rfl, own2, hA22, ht22⟩
              have T22 := (T21.to hA22 ht22).gr ((Gr.refl w22).alloc (.cells #[.int .i64 y1, .int .i64 y2, .int .i64 y3] 29))
              have hB22 := (hB21.to ht22).same (((Gr.refl w22).alloc (.cells #[.int .i64 y1, .int .i64 y2, .int .i64 y3] 29)).mod [])
              clear T21 hB21 hA22 ht22 htk
              obtain ⟨c1, c2, c3⟩ := hB22.rd.cell j hlt2
              rw [← HY.out] at c1 c2 c3
              simp only [optV, itvO, itv, Option.isSome]
              go_wp2_with fail
              have hlenr : (L.length : Int) - (j : Int) - 1 = ((L.drop (j + 1)).length : Int) := by rw [List.length_drop]; omega
              have HLR := hide hlenr
              clear hlenr
              have hbn : (((L.length : Int) - (j : Int) - 1) != ((L.length : Int) - (j : Int) - 1)) = false := by simp
              go_quiet ((go_at_call 11; exact Calls.quiet_of_same (aglen' (T22.gr ((Gr.refl _).drewN _)).ag HLR.out)))
              have T23 := T22.gr ((Gr.refl _).drewN nq)
              have hB23 := hB22.same (((Gr.refl _).drewN nq).mod [])
              clear T22 hB22 c1 c2 c3 hbn
              clear hne
              go_wp2_with fail
              go_roundw
              case rel => exact ⟨j + 1, own2, by omega, by go_num, T23, hB23⟩
              case measure => simp [intOf]; omega
            · have htk : takeI (L.drop j) now = (L.drop j, none) := by rw [HC.out]; simp only [takeI, if_neg hdue]
              go_wp2_with fail
              refine (take_eq T21.ag now htk).mono ?_
              rintro e w22 ⟨rfl, own2, hA22, ht22⟩
              have T22 := (T21.to hA22 ht22).gr ((Gr.refl w22).alloc (.cells #[.int .i64 0, .int .i64 0, .int .i64 0] 29))
              have hB22 := (hB21.to ht22).same (((Gr.refl w22).alloc (.cells #[.int .i64 0, .int .i64 0, .int .i64 0] 29)).mod [])
              clear T21 hB21 hA22 ht22 htk
              obtain ⟨c1, c2, c3⟩ := hB22.rd.cell j hlt2
              rw [← HY.out] at c1 c2 c3
              simp only [optV, itvO, itv, Option.isSome]
              go_wp2_with fail
              have hpc : L.length ≤ pc ∧ pc ≤ maxLen := by
                rcases hshape with e | ⟨g, c, e, h1, h2⟩
                · cases e
                · cases e; exact ⟨h1, h2⟩
              have p1 : (j : Int) ≤ (L.length : Int) := by omega
              have p2 : (L.length : Int) ≤ (pc : Int) := by omega
              have jw : IntKind.i64.wrap ((L.length : Int) - (j : Int)) = (L.length : Int) - (j : Int) := IntWalk.i64_in _ (by omega)
              have hez := eql_item 0 0 0 0 0 0
              rw [eqB_self] at hez
              have hlenr : (L.length : Int) - (j : Int) = ((L.drop j).length : Int) := by rw [List.length_drop]; omega
              have HLR := hide hlenr
              have HLT := hide hlt2
              clear hlenr c1 c2 c3 hne
              go_region_held3 (fun w' => w'.cell? ⟨w22.heap.size, 0, none⟩ = some (.int .i64 0) ∧ w'.cell? ⟨w22.heap.size, 1, none⟩ = some (.int .i64 0) ∧ w'.cell? ⟨w22.heap.size, 2, none⟩ = some (.int .i64 0))
                (first | go_keep | (go_split_ands; refine ⟨?_, ?_, ?_⟩ <;> (refine hmz.kept ?_ (by simp); assumption)) | (go_split_ands; refine ⟨?_, ?_, ?_⟩ <;> (refine hgz.kept ?_; assumption)))
                (first | (go_at_call 11; refine (aglen' (T22.gr ((Gr.refl _).drew)).ag HLR.out).mono ?_; rintro e wz ⟨rfl, rfl⟩) | (go_at_call 20; refine (list_any (T22.gr ((Gr.refl _).drew)).ag).mono ?_; rintro e wz ⟨rv, rfl, hrow, hmz⟩) | (go_at_call 19; refine (rsame_any (RdI.of_row hrow) (((hB22.same (((Gr.refl _).drew).mod [])).same hmz).rd.drop j HLT.out _)).mono ?_; rintro e wy ⟨rfl, hgz⟩))
              go_wp2_with fail
              go_ret
              exact ⟨by simp, T22.since.mod.gr ((Gr.refl _).drew) |>.then hmz |>.gr hgz⟩
          · have j0 : decide (0 < j) = true := by simp; omega
            have j1 : (0 : Int) ≤ (j : Int) - 1 := by omega
            have jw : IntKind.i64.wrap ((j : Int) - 1) = (j : Int) - 1 := IntWalk.i64_in _ (by omega)
            have jn : ((j : Int) - 1).toNat = j - 1 := by omega
            have j2 : (j : Int) - 1 < (L.length : Int) := by omega
            have j3 : (1 : Int) ≤ (j : Int) := by omega
            have j4 : (j : Int) < (L.length : Int) + 1 := by omega
            have j5 : 0 < j := by omega
            have j6 : 1 ≤ j := by omega
            have j7 : j - 1 < L.length := by omega
            obtain ⟨c1, c2, c3⟩ := hB.rd.cell j hlt2
            obtain ⟨d1, d2, d3⟩ := hB.rd.cell (j - 1) (by omega)
            rw [← HY.out] at c1 c2 c3
            obtain ⟨⟨z1, z2, z3⟩, hz⟩ : ∃ z, z = get L (j - 1) := ⟨_, rfl⟩
            rw [← hz] at d1 d2 d3
            have hlt3 : ltI (z1, z2, z3) (y1, y2, y3) = true := by
              have := List.pairwise_iff_getElem.1 hsrt (j - 1) j (by omega) hlt2 (by omega)
              rw [hz, HY.out]
              simpa [get, hlt2, show j - 1 < L.length by omega] using this
            clear hz
            go_wp2_with fail
            go_region_held3 (fun w' => w'.cell? ⟨b, off + j * 3, none⟩ = some (.int .i64 y1) ∧ w'.cell? ⟨b, off + j * 3 + 1, none⟩ = some (.int .i64 y2) ∧ w'.cell? ⟨b, off + j * 3 + 2, none⟩ = some (.int .i64 y3) ∧ w'.cell? ⟨b, off + (j - 1) * 3, none⟩ = some (.int .i64 z1) ∧ w'.cell? ⟨b, off + (j - 1) * 3 + 1, none⟩ = some (.int .i64 z2) ∧ w'.cell? ⟨b, off + (j - 1) * 3 + 2, none⟩ = some (.int .i64 z3))
              (first | go_keep | (go_split_ands; refine ⟨?_, ?_, ?_, ?_, ?_, ?_⟩ <;> (refine hgz.kept ?_; assumption)))
              (first | (go_at_call 22; refine (before_any _ _ _ _ _ _ _).mono ?_; rintro e wz ⟨rfl, hgz⟩))
            have T := T.gr (((Gr.refl wr).drew).trans hgz)
            have hB := hB.same ((((Gr.refl wr).drew).trans hgz).mod [])
            clear c1 c2 c3 d1 d2 d3 hgz hlt3 jw jn j0 j1 j2 j3 j4 j5 j6 j7
            obtain ⟨c1, c2, c3⟩ := hB.rd.cell j hlt2
            rw [← HY.out] at c1 c2 c3
            go_wp2_with fail
            refine (first_eq T.ag (o := some (y1, y2, y3)) (by rw [HC.out]; rfl)).mono ?_
            rintro e w20 ⟨rfl, hm20⟩
            have T20 := (T.same hm20).gr ((Gr.refl w20).alloc (.cells #[.int .i64 y1, .int .i64 y2, .int .i64 y3] 29))
            have hB20 := (hB.same hm20).same (((Gr.refl w20).alloc (.cells #[.int .i64 y1, .int .i64 y2, .int .i64 y3] 29)).mod [])
            clear T hB c1 c2 c3 hm20
            obtain ⟨c1, c2, c3⟩ := hB20.rd.cell j hlt2
            rw [← HY.out] at c1 c2 c3
            have hne := neq_item y1 y2 y3 y1 y2 y3
            rw [eqB_self] at hne
            simp only [optV, itvO, itv, Option.isSome]
            go_wp2_with fail
            go_quiet (fail)
            have T21 := T20.gr ((Gr.refl _).drewN nq)
            have hB21 := hB20.same (((Gr.refl _).drewN nq).mod [])
            clear T20 hB20 c1 c2 c3
            generalize (w20.alloc (.cells #[.int .i64 y1, .int .i64 y2, .int .i64 y3] 29)).drewN nq = w21 at T21 hB21 ⊢
            by_cases hdue : y1 ≤ now
            · have htk : takeI (L.drop j) now = (L.drop (j + 1), some (y1, y2, y3)) := by rw [HC.out]; simp only [takeI, if_pos hdue]
              go_wp2_with fail
              refine (take_eq T21.ag now htk).mono ?_
              rintro e w22 ⟨rfl, own2, hA22, ht22⟩
              have T22 := (T21.to hA22 ht22).gr ((Gr.refl w22).alloc (.cells #[.int .i64 y1, .int .i64 y2, .int .i64 y3] 29))
              have hB22 := (hB21.to ht22).same (((Gr.refl w22).alloc (.cells #[.int .i64 y1, .int .i64 y2, .int .i64 y3] 29)).mod [])
              clear T21 hB21 hA22 ht22 htk
              obtain ⟨c1, c2, c3⟩ := hB22.rd.cell j hlt2
              rw [← HY.out] at c1 c2 c3
              simp only [optV, itvO, itv, Option.isSome]
              go_wp2_with fail
              have hlenr : (L.length : Int) - (j : Int) - 1 = ((L.drop (j + 1)).length : Int) := by rw [List.length_drop]; omega
              have HLR := hide hlenr
              clear hlenr
              have hbn : (((L.length : Int) - (j : Int) - 1) != ((L.length : Int) - (j : Int) - 1)) = false := by simp
              go_quiet ((go_at_call 11; exact Calls.quiet_of_same (aglen' (T22.gr ((Gr.refl _).drewN _)).ag HLR.out)))
              have T23 := T22.gr ((Gr.refl _).drewN nq)
              have hB23 := hB22.same (((Gr.refl _).drewN nq).mod [])
              clear T22 hB22 c1 c2 c3 hbn
              clear hne
              go_wp2_with fail
              go_roundw
              case rel => exact ⟨j + 1, own2, by omega, by go_num, T23, hB23⟩
              case measure => simp [intOf]; omega
            · have htk : takeI (L.drop j) now = (L.drop j, none) := by rw [HC.out]; simp only [takeI, if_neg hdue]
              go_wp2_with fail
              refine (take_eq T21.ag now htk).mono ?_
              rintro e w22 ⟨rfl, own2, hA22, ht22⟩
              have T22 := (T21.to hA22 ht22).gr ((Gr.refl w22).alloc (.cells #[.int .i64 0, .int .i64 0, .int .i64 0] 29))
              have hB22 := (hB21.to ht22).same (((Gr.refl w22).alloc (.cells #[.int .i64 0, .int .i64 0, .int .i64 0] 29)).mod [])
              clear T21 hB21 hA22 ht22 htk
              obtain ⟨c1, c2, c3⟩ := hB22.rd.cell j hlt2
              rw [← HY.out] at c1 c2 c3
              simp only [optV, itvO, itv, Option.isSome]
              go_wp2_with fail
              have hpc : L.length ≤ pc ∧ pc ≤ maxLen := by
                rcases hshape with e | ⟨g, c, e, h1, h2⟩
                · cases e
                · cases e; exact ⟨h1, h2⟩
              have p1 : (j : Int) ≤ (L.length : Int) := by omega
              have p2 : (L.length : Int) ≤ (pc : Int) := by omega
              have jw : IntKind.i64.wrap ((L.length : Int) - (j : Int)) = (L.length : Int) - (j : Int) := IntWalk.i64_in _ (by omega)
              have hez := eql_item 0 0 0 0 0 0
              rw [eqB_self] at hez
              have hlenr : (L.length : Int) - (j : Int) = ((L.drop j).length : Int) := by rw [List.length_drop]; omega
              have HLR := hide hlenr
              have HLT := hide hlt2
              clear hlenr c1 c2 c3 hne
              go_region_held3 (fun w' => w'.cell? ⟨w22.heap.size, 0, none⟩ = some (.int .i64 0) ∧ w'.cell? ⟨w22.heap.size, 1, none⟩ = some (.int .i64 0) ∧ w'.cell? ⟨w22.heap.size, 2, none⟩ = some (.int .i64 0))
                (first | go_keep | (go_split_ands; refine ⟨?_, ?_, ?_⟩ <;> (refine hmz.kept ?_ (by simp); assumption)) | (go_split_ands; refine ⟨?_, ?_, ?_⟩ <;> (refine hgz.kept ?_; assumption)))
                (first | (go_at_call 11; refine (aglen' (T22.gr ((Gr.refl _).drew)).ag HLR.out).mono ?_; rintro e wz ⟨rfl, rfl⟩) | (go_at_call 20; refine (list_any (T22.gr ((Gr.refl _).drew)).ag).mono ?_; rintro e wz ⟨rv, rfl, hrow, hmz⟩) | (go_at_call 19; refine (rsame_any (RdI.of_row hrow) (((hB22.same (((Gr.refl _).drew).mod [])).same hmz).rd.drop j HLT.out _)).mono ?_; rintro e wy ⟨rfl, hgz⟩))
              go_wp2_with fail
              go_ret
              exact ⟨by simp, T22.since.mod.gr ((Gr.refl _).drew) |>.then hmz |>.gr hgz⟩
        · obtain rfl : j = L.length := by omega
          clear hshape hsrt
          have htk : takeI (L.drop L.length) now = ([], none) := by rw [List.drop_length]; rfl
          go_wp2_with fail
          refine (take_eq T.ag now htk).mono ?_
          rintro e w20 ⟨rfl, own2, hA20, ht20⟩
          have T20 := (T.to hA20 ht20).gr ((Gr.refl w20).alloc (.cells #[.int .i64 0, .int .i64 0, .int .i64 0] 29))
          clear T hB hA20 ht20 htk
          simp only [optV, itvO, itv, Option.isSome]
          go_wp2_with fail
          refine (aglen' (n := 0) T20.ag rfl).mono ?_
          rintro e w21 ⟨rfl, rfl⟩
          go_wp2_with fail
          go_ret
          exact ⟨by simp, T20.since.mod⟩
end Go.Proofs.Ytbaphdaipacihaa
