/-
  WALK: the law AgendaTurned.
-/
import Derived.Test.YtbaphdaipacihaaLawTakes
import Derived.Test.YtbaphdaipacihaaTurnLaw
import Derived.Test.YtbaphdaipacihaaOpenN
import Derived.BigQuiet
import Derived.BigRegion
import Derived.IntWalk
namespace Go.Proofs.Ytbaphdaipacihaa
open Go.RowKit Go.Sort Go.Shelf

def FarOk (l : List Item) (k : Nat) : Prop := (∀ i, i < k → okI (get l i)) ∧ ∀ i, i < k → ∀ j, j < i → (get l i).2 ≠ (get l j).2
def TurnRel1 (W : World) (l : List Item) (i : Value) (wr : World) : Prop := ∃ k : Nat, k ≤ l.length ∧ i = .int .i64 k ∧ FarOk l k ∧ Mod [] W wr
def TurnRel3 (W : World) (l : List Item) (pa pb : Nat) (i : Value) (wr : World) : Prop :=
  ∃ (k : Nat) (oA : List Nat) (A : List Item) (oB : List Nat) (B : List Item), k ≤ l.length ∧ i = .int .i64 k ∧ Two W wr pa oA A pb oB B ∧ A.Perm (l.take k) ∧ (B.map (·.2)).Perm ((l.reverse.take k).map (·.2))
def TurnRel4 (W : World) (l A : List Item) (pa pb : Nat) (oA : List Nat) (i : Value) (wr : World) : Prop :=
  ∃ (k : Nat) (oB : List Nat) (B : List Item), k ≤ l.length ∧ i = .int .i64 k ∧ Two W wr pa oA A pb oB B ∧ Swap l B k
def TurnRel5 (W : World) (n : Nat) (pa pb : Nat) (i : Value) (wr : World) : Prop :=
  ∃ (k : Nat) (r : List Item) (oA oB : List Nat), k ≤ n ∧ i = .int .i64 k ∧ r.length = n - k ∧ AllOk r ∧ Two W wr pa oA r pb oB r

set_option maxHeartbeats 4000000 in
set_option maxRecDepth 100000 in
theorem turned_any {W : World} {v u : Value} {l : List Item} {m : List Int} (h : RdI W v l) (hm : RdN W u m) (hcap : ∀ q n c, v = .slice q n c → n ≤ c) :
    Calls Try.prog 6 #[v, u] W fun e w' => e = .returned (.bool true) ∧ Mod [] W w' := by
  have hll : l.length ≤ 9223372036854775807 := h.1
  have hmm : m.length ≤ 9223372036854775807 := hm.1
  obtain ⟨p, cap, rfl⟩ := h.len
  obtain ⟨mp, mcap, rfl⟩ := hm.len
  have hcp : l.length ≤ cap := hcap _ _ _ rfl
  clear hcap
  go_enter Try.func6, Try.ntmps6
  go_wp2_with fail
  refine (awake_any _).mono ?_
  rintro e w1 ⟨rfl, hm1⟩
  by_cases h32 : l.length ≤ 32
  · have g32 : ¬ (32 : Int) < (l.length : Int) := by omega
    go_wp2_with fail
    go_loopw [25] (fun i wr => TurnRel1 W l i wr) (fun i _ => l.length - (intOf i).toNat)
    case atStart => exact ⟨0, Nat.zero_le _, rfl, ⟨by simp, by simp⟩, hm1⟩
    case round =>
      clear hm1
      obtain ⟨k, hk, rfl, hF, hmw⟩ := hrel
      by_cases hlt : k < l.length
      · obtain ⟨b, off, cap', hv, hbw, hc⟩ := (h.mod hmw (by simp)).at_ k hlt
        simp only [Value.slice.injEq, true_and] at hv
        obtain ⟨rfl, rfl⟩ := hv
        obtain ⟨c1, c2, c3⟩ := hc k hlt
        have i1 : (0 : Int) ≤ (k : Int) := by omega
        have i2 : (k : Int) < (l.length : Int) := by omega
        have i3 : (k : Int) ≤ (cap : Int) := by omega
        have i4 : k ≤ cap := by omega
        obtain ⟨⟨y1, y2, y3⟩, hy⟩ : ∃ y, y = get l k := ⟨_, rfl⟩
        rw [← hy] at c1 c2 c3
        have HY := hide hy
        clear hy hc
        by_cases d1 : y1 < 0
        · go_wp2_with fail
          go_ret
          exact ⟨rfl, hmw⟩
        · by_cases d2 : 4611686018427387904 < y1
          · go_wp2_with fail
            go_ret
            exact ⟨rfl, hmw⟩
          · by_cases d3 : y2 < 1
            · go_wp2_with fail
              go_ret
              exact ⟨rfl, hmw⟩
            · by_cases d4 : 4 < y2
              · go_wp2_with fail
                go_ret
                exact ⟨rfl, hmw⟩
              · go_wp2_with fail
                go_loopw [62] (fun i wr => ∃ j : Nat, j ≤ k ∧ i = .int .i64 j ∧ (∀ j', j' < j → (get l k).2 ≠ (get l j').2) ∧ Mod [] W wr) (fun i _ => k - (intOf i).toNat)
                case atStart => exact ⟨0, Nat.zero_le _, rfl, by simp, hmw⟩
                case round =>
                  clear hmw c1 c2 c3
                  obtain ⟨j, hj, rfl, hD, hmw⟩ := hrel
                  by_cases hjt : j < k
                  · obtain ⟨c1, c2, c3⟩ := (h.mod hmw (by simp)).cell k hlt
                    obtain ⟨e1, e2, e3⟩ := (h.mod hmw (by simp)).cell j (by omega)
                    rw [← HY.out] at c1 c2 c3
                    obtain ⟨⟨x1, x2, x3⟩, hx⟩ : ∃ x, x = get l j := ⟨_, rfl⟩
                    rw [← hx] at e1 e2 e3
                    have HX := hide hx
                    have HD := hide hD
                    clear hx hD
                    have i5 : (0 : Int) ≤ (j : Int) := by omega
                    have i6 : (j : Int) < (k : Int) := by omega
                    have i7 : (j : Int) < (l.length : Int) := by omega
                    by_cases q2 : y2 = x2
                    · subst q2
                      by_cases q3 : y3 = x3
                      · subst q3
                        go_wp2_with fail
                        go_quiet (fail)
                        go_wp2_with fail
                        go_ret
                        exact ⟨rfl, hmw.gr ((Gr.refl _).drewN nq)⟩
                      · have b3 : (y3 == x3) = false := by simpa using q3
                        have Q := hide q3
                        clear q3
                        go_wp2_with fail
                        go_quiet (fail)
                        go_wp2_with fail
                        go_roundw
                        case rel => exact ⟨j + 1, by omega, by go_num, fun j' hj' => by
                          by_cases e : j' = j
                          · subst e; rw [← HX.out, ← HY.out]; intro h; simp at h; exact Q.out h
                          · exact HD.out j' (by omega), hmw.gr ((Gr.refl _).drewN nq)⟩
                        case measure => simp [intOf]; omega
                    · have b2 : (y2 == x2) = false := by simpa using q2
                      have Q := hide q2
                      clear q2
                      go_wp2_with fail
                      go_quiet (fail)
                      go_wp2_with fail
                      go_roundw
                      case rel => exact ⟨j + 1, by omega, by go_num, fun j' hj' => by
                        by_cases e : j' = j
                        · subst e; rw [← HX.out, ← HY.out]; intro h; simp at h; exact Q.out h.1
                        · exact HD.out j' (by omega), hmw.gr ((Gr.refl _).drewN nq)⟩
                      case measure => simp [intOf]; omega
                  · obtain rfl : j = k := by omega
                    have HD := hide hD
                    clear hD
                    go_wp2_with fail
                    go_roundw
                    case rel => exact ⟨j + 1, by omega, by go_num, ⟨fun i hi => by
                      by_cases e : i = j
                      · subst e; rw [← HY.out]; exact ⟨by simpa using d1, by simpa using d2, by simpa using d3, by simpa using d4⟩
                      · exact hF.1 i (by omega), fun i hi j' hj' => by
                      by_cases e : i = j
                      · subst e; exact HD.out j' hj'
                      · exact hF.2 i (by omega) j' hj'⟩, hmw⟩
                    case measure => simp [intOf]; omega
      · obtain rfl : k = l.length := by omega
        have hV : Valid l := ⟨h32, fun y hy => by
          obtain ⟨i, hi, rfl⟩ := List.getElem_of_mem hy
          have := hF.1 i hi
          simpa [get, hi] using this, by
          rw [List.Nodup, List.pairwise_map, List.pairwise_iff_getElem]
          intro i j hi hj hij e
          refine hF.2 j hj i hij ?_
          simpa [get, hi, hj] using e.symm⟩
        clear hF
        go_wp2_with fail
        refine (new_any _).mono ?_
        rintro e w8 ⟨rfl, hr8, hg8, hs8⟩
        have hA8 : Ag w8 wr.heap.size [] [] := ⟨⟨_, [], hr8, .refl _, rfl⟩, List.Pairwise.nil, List.Pairwise.nil, by simp⟩
        go_wp2_with fail
        refine (new_any _).mono ?_
        rintro e w9 ⟨rfl, hr9, hg9, hs9⟩
        have hA9 : Ag w9 w8.heap.size [] [] := ⟨⟨_, [], hr9, .refl _, rfl⟩, List.Pairwise.nil, List.Pairwise.nil, by simp⟩
        have T : Two W w9 wr.heap.size [] [] w8.heap.size [] [] := ⟨(hmw.gr hg8).gr hg9, hA8.gr hg9, hA9, by simp; omega, by simp; exact hmw.size, by simp; have := hmw.size; omega⟩
        clear hr8 hr9 hg8 hg9 hA8 hA9 hs8 hs9 hmw
        generalize wr.heap.size = pa at T ⊢
        generalize w8.heap.size = pb at T ⊢
        go_wp2_with fail
        go_loopw [95] (fun i wr => TurnRel3 W l pa pb i wr) (fun i _ => l.length - (intOf i).toNat)
        case atStart => exact ⟨0, [], [], [], [], Nat.zero_le _, rfl, T, by simp, by simp⟩
        case round =>
          clear T
          obtain ⟨k, oA, A, oB, B, hk, rfl, T, hA, hB⟩ := hrel
          by_cases hlt : k < l.length
          · obtain ⟨A', ea, hA'⟩ := turn_a hV hlt hA
            obtain ⟨b, off, cap', hv, hbw, hc⟩ := (h.mod T.mod (by simp)).at_ k hlt
            simp only [Value.slice.injEq, true_and] at hv
            obtain ⟨rfl, rfl⟩ := hv
            obtain ⟨c1, c2, c3⟩ := hc k hlt
            obtain ⟨⟨y1, y2, y3⟩, hy⟩ : ∃ y, y = get l k := ⟨_, rfl⟩
            rw [← hy] at c1 c2 c3 ea
            have i1 : (0 : Int) ≤ (k : Int) := by omega
            have i2 : (k : Int) < (l.length : Int) := by omega
            clear hy hc hA
            have HA := hide ea
            clear ea
            go_wp2_with fail
            refine (put_eq T.a y1 y2 y3 HA.out).mono ?_
            rintro e w3 ⟨rfl, oA', hA3, ht3⟩
            have T3 := T.left hA3 ht3
            clear T hA3 ht3 c1 c2 c3 HA
            obtain ⟨c1, c2, c3⟩ := (h.mod T3.mod (by simp)).cell (l.length - 1 - k) (by omega)
            obtain ⟨⟨x1, x2, x3⟩, hx⟩ : ∃ x, x = get l (l.length - 1 - k) := ⟨_, rfl⟩
            rw [← hx] at c1 c2 c3
            have HX := hide hx
            clear hx
            have j1 : IntKind.i64.wrap ((l.length : Int) - 1) = (l.length : Int) - 1 := IntWalk.i64_in _ (by omega)
            have j2 : IntKind.i64.wrap ((l.length : Int) - 1 - (k : Int)) = (l.length : Int) - 1 - (k : Int) := IntWalk.i64_in _ (by omega)
            have j3 : (0 : Int) ≤ (l.length : Int) - 1 - (k : Int) := by omega
            have j4 : (l.length : Int) - 1 - (k : Int) < (l.length : Int) := by omega
            have j5 : ((l.length : Int) - 1 - (k : Int)).toNat = l.length - 1 - k := by omega
            have hkx : okI (x1, x2, x3) := by rw [HX.out]; exact hV.at_ (by omega)
            have HK := hide hkx
            have T4 := T3.gr ((Gr.refl w3).alloc (.cells #[.int .i64 x1, .int .i64 x2, .int .i64 x3] 29))
            clear hkx
            by_cases q1 : k < m.length
            · obtain ⟨b2, off2, rfl, hb2, cm⟩ := (hm.mod T4.mod (by simp)).at_ k q1
              generalize m.getD k 0 = d at cm
              have i3 : (k : Int) < (m.length : Int) := by omega
              by_cases q2 : d < 0
              · go_wp2_with fail
                clear c1 c2 c3 cm
                obtain ⟨B', eb, hB'⟩ := turn_b hV.reverse (by simpa using hlt) hB (x := (x1, x2, x3)) HK.out (by rw [get_rev l hlt, ← HX.out])
                refine (put_eq T4.b x1 x2 x3 eb).mono ?_
                clear eb
                rintro e w5 ⟨rfl, oB', hB5, ht5⟩
                have T5 := T4.right hB5 ht5
                clear T4 hB5 ht5 j1 j2 j3 j4 j5
                go_wp2_with fail
                go_roundw
                case rel => exact ⟨k + 1, oA', A', oB', B', by omega, by go_num, T5, hA', hB'⟩
                case measure => simp [intOf]; omega
              · by_cases q3 : 4611686018427387904 < d
                · go_wp2_with fail
                  clear c1 c2 c3 cm
                  obtain ⟨B', eb, hB'⟩ := turn_b hV.reverse (by simpa using hlt) hB (x := (x1, x2, x3)) HK.out (by rw [get_rev l hlt, ← HX.out])
                  refine (put_eq T4.b x1 x2 x3 eb).mono ?_
                  clear eb
                  rintro e w5 ⟨rfl, oB', hB5, ht5⟩
                  have T5 := T4.right hB5 ht5
                  clear T4 hB5 ht5 j1 j2 j3 j4 j5
                  go_wp2_with fail
                  go_roundw
                  case rel => exact ⟨k + 1, oA', A', oB', B', by omega, by go_num, T5, hA', hB'⟩
                  case measure => simp [intOf]; omega
                · go_wp2_with fail
                  have T6 := T3.gr ((Gr.refl w3).alloc (.cells #[.int .i64 d, .int .i64 x2, .int .i64 x3] 29))
                  clear c1 c2 c3 cm T4
                  obtain ⟨B', eb, hB'⟩ := turn_b hV.reverse (by simpa using hlt) hB (x := (d, x2, x3)) ⟨by simpa using q2, by simpa using q3, HK.out.2.2⟩ (by rw [get_rev l hlt, ← HX.out])
                  refine (put_eq T6.b d x2 x3 eb).mono ?_
                  clear eb
                  rintro e w5 ⟨rfl, oB', hB5, ht5⟩
                  have T5 := T6.right hB5 ht5
                  clear T6 hB5 ht5 j1 j2 j3 j4 j5
                  go_wp2_with fail
                  go_roundw
                  case rel => exact ⟨k + 1, oA', A', oB', B', by omega, by go_num, T5, hA', hB'⟩
                  case measure => simp [intOf]; omega
            · have i3 : ¬ (k : Int) < (m.length : Int) := by omega
              go_wp2_with fail
              clear c1 c2 c3
              obtain ⟨B', eb, hB'⟩ := turn_b hV.reverse (by simpa using hlt) hB (x := (x1, x2, x3)) HK.out (by rw [get_rev l hlt, ← HX.out])
              refine (put_eq T4.b x1 x2 x3 eb).mono ?_
              clear eb
              rintro e w5 ⟨rfl, oB', hB5, ht5⟩
              have T5 := T4.right hB5 ht5
              clear T4 hB5 ht5 j1 j2 j3 j4 j5
              go_wp2_with fail
              go_roundw
              case rel => exact ⟨k + 1, oA', A', oB', B', by omega, by go_num, T5, hA', hB'⟩
              case measure => simp [intOf]; omega
          · obtain rfl : k = l.length := by omega
            have hA : A.Perm l := by rw [List.take_length] at hA; exact hA
            have hS := Swap.start hB
            clear hB
            go_wp2_with fail
            go_loopw [143] (fun i wr => TurnRel4 W l A pa pb oA i wr) (fun i _ => l.length - (intOf i).toNat)
            case atStart => exact ⟨0, oB, B, Nat.zero_le _, rfl, T, hS⟩
            case round =>
              clear T hS
              obtain ⟨k, oB, B, hk, rfl, T, hS⟩ := hrel
              by_cases hlt : k < l.length
              · obtain ⟨B', eb, hS'⟩ := hS.put hV hlt
                obtain ⟨b, off, cap', hv, hbw, hc⟩ := (h.mod T.mod (by simp)).at_ k hlt
                simp only [Value.slice.injEq, true_and] at hv
                obtain ⟨rfl, rfl⟩ := hv
                obtain ⟨c1, c2, c3⟩ := hc k hlt
                obtain ⟨⟨y1, y2, y3⟩, hy⟩ : ∃ y, y = get l k := ⟨_, rfl⟩
                rw [← hy] at c1 c2 c3 eb
                have i1 : (0 : Int) ≤ (k : Int) := by omega
                have i2 : (k : Int) < (l.length : Int) := by omega
                have HB := hide eb
                clear hy hc eb hS
                go_wp2_with fail
                refine (put_eq T.b y1 y2 y3 HB.out).mono ?_
                rintro e w3 ⟨rfl, oB', hB3, ht3⟩
                have T3 := T.right hB3 ht3
                clear T hB3 ht3 c1 c2 c3 HB
                go_wp2_with fail
                go_roundw
                case rel => exact ⟨k + 1, oB', B', by omega, by go_num, T3, hS'⟩
                case measure => simp [intOf]; omega
              · obtain rfl : k = l.length := by omega
                obtain rfl : A = B := srt_unique T.a.srt T.b.srt (hA.trans hS.done.symm)
                have hn := hA.length_eq
                have hok : AllOk A := fun y hy => hV.ok y (hA.mem_iff.1 hy)
                have HN := hide hn
                clear hS hA hV hn
                go_wp2_with fail
                refine (list_any T.a).mono ?_
                rintro e w3 ⟨xv, rfl, hx, hm3⟩
                have T3 := T.same hm3
                have hQ := Beside.new T hx
                clear T hx hm3
                go_wp2_with fail
                refine (list_any T3.b).mono ?_
                rintro e w4 ⟨yv, rfl, hy, hm4⟩
                have T4 := T3.same hm4
                have hQ4 := hQ.same hm4
                clear T3 hQ hm4
                obtain ⟨xp, xc, rfl⟩ := hQ4.rd.len
                go_wp2_with fail
                refine (rsame_any hQ4.rd (RdI.of_row hy)).mono ?_
                rintro e w5 ⟨rfl, hg5⟩
                have T5 := T4.gr hg5
                rw [decide_eq_true rfl]
                clear T4 hQ4 hy hg5
                rw [HN.out]
                go_wp2_with fail
                go_loopw [171] (fun i wr => TurnRel5 W l.length pa pb i wr) (fun i _ => l.length - (intOf i).toNat)
                case atStart => exact ⟨0, A, oA, oB, Nat.zero_le _, rfl, HN.out, hok, T5⟩
                case round =>
                  clear T5
                  obtain ⟨k, r, oA, oB, hk, rfl, hr, hok, T⟩ := hrel
                  cases r with
                  | nil =>
                    have hkn : ¬ k < l.length := by simp at hr; omega
                    have hkn' : ¬ (k : Int) < (l.length : Int) := by omega
                    go_wp2_with fail
                    refine (aglen' (n := 0) T.a rfl).mono ?_
                    rintro e w6 ⟨rfl, rfl⟩
                    go_wp2_with fail
                    refine (aglen' (n := 0) T.b rfl).mono ?_
                    rintro e w6 ⟨rfl, rfl⟩
                    go_wp2_with fail
                    go_ret
                    exact ⟨rfl, T.mod⟩
                  | cons y r =>
                    obtain ⟨y1, y2, y3⟩ := y
                    have hkn : k < l.length := by simp at hr; omega
                    have hrr : r.length = l.length - (k + 1) := by simp at hr; omega
                    have hkn' : (k : Int) < (l.length : Int) := by omega
                    have htk := take_ok hok
                    have hok' : AllOk r := fun z hz => hok z (List.mem_cons_of_mem _ hz)
                    clear hr hok
                    go_wp2_with fail
                    refine (take_eq T.a 4611686018427387904 htk).mono ?_
                    rintro e w6 ⟨rfl, oA6, hA6, ht6⟩
                    have T6 := T.left hA6 ht6
                    simp only [optV, itvO, itv, Option.isSome]
                    have T7 := T6.gr ((Gr.refl w6).alloc (.cells #[.int .i64 y1, .int .i64 y2, .int .i64 y3] 29))
                    have h7 := heap_alloc_new w6 (.cells #[.int .i64 y1, .int .i64 y2, .int .i64 y3] 29)
                    have hoff : w6.heap.size ∉ pb :: oB := fun hx => by have := T6.b.lts _ hx; omega
                    clear T T6 hA6 ht6
                    go_wp2_with fail
                    refine (take_eq T7.b 4611686018427387904 htk).mono ?_
                    rintro e w8 ⟨rfl, oB8, hB8, ht8⟩
                    have T8 := (T7.right hB8 ht8).gr ((Gr.refl w8).alloc (.cells #[.int .i64 y1, .int .i64 y2, .int .i64 y3] 29))
                    have h8 := blk_alloc (ht8.mod.at_ h7 hoff) (.cells #[.int .i64 y1, .int .i64 y2, .int .i64 y3] 29)
                    have q1 := blk_cell h8 0
                    have q2 := blk_cell h8 1
                    have q3 := blk_cell h8 2
                    simp at q1 q2 q3
                    clear T7 h7 hB8 ht8 htk h8 hoff
                    have hne := neq_item y1 y2 y3 y1 y2 y3
                    rw [eqB_self] at hne
                    simp only [optV, itvO, itv, Option.isSome]
                    go_wp2_with fail
                    go_roundw
                    case rel => exact ⟨k + 1, r, oA6, oB8, by omega, by go_num, hrr, hok', T8⟩
                    case measure => simp [intOf]; omega
  · have g32 : (32 : Int) < (l.length : Int) := by omega
    go_wp2_with fail
    go_ret
    exact ⟨rfl, hm1⟩
end Go.Proofs.Ytbaphdaipacihaa
