/-
  WALKS: the document's answer for the agenda: Before, Put.
-/
import Derived.Test.YtbaphdaipacihaaRefW
import Derived.BigQuiet
namespace Go.Proofs.Ytbaphdaipacihaa
open Go.RowKit Go.Sort Go.Shelf

set_option maxHeartbeats 400000 in
theorem before_any (x1 x2 x3 y1 y2 y3 : Int) (w : World) :
    Calls Try.prog 22 #[.agg #[.int .i64 x1, .int .i64 x2, .int .i64 x3], .agg #[.int .i64 y1, .int .i64 y2, .int .i64 y3]] w fun e w' => e = .returned (.bool (ltI (x1, x2, x3) (y1, y2, y3))) ∧ Gr w w' := by
  have key : ∀ b : Bool, (b = true ↔ BefI (x1, x2, x3) (y1, y2, y3)) → ltI (x1, x2, x3) (y1, y2, y3) = b := fun b hb => by
    rw [Bool.eq_iff_iff, ltI_iff]; exact hb.symm
  have K := hide key
  clear key
  by_cases e1 : x1 = y1
  · by_cases e2 : x2 = y2
    · subst e1 e2
      go_enter Try.func22, Try.ntmps22
      go_wp2
      go_ret
      exact ⟨by rw [K.out (decide (x3 < y3)) (by simp [BefI])]; rfl, by repeat (first | exact Gr.refl _ | apply Gr.drew | apply Gr.alloc)⟩
    · have b2 : (x2 != y2) = true := by simpa using e2
      subst e1
      have E2 := hide e2
      clear e2
      go_enter Try.func22, Try.ntmps22
      go_wp2
      go_ret
      exact ⟨by rw [K.out (decide (x2 < y2)) (by have := E2.out; simp [BefI, this])]; rfl, by repeat (first | exact Gr.refl _ | apply Gr.drew | apply Gr.alloc)⟩
  · have b1 : (x1 != y1) = true := by simpa using e1
    have E1 := hide e1
    clear e1
    go_enter Try.func22, Try.ntmps22
    go_wp2
    go_ret
    exact ⟨by rw [K.out (decide (x1 < y1)) (by have := E1.out; simp [BefI, this])]; rfl, by repeat (first | exact Gr.refl _ | apply Gr.drew | apply Gr.alloc)⟩

theorem insI_split (x : Item) (l : List Item) (k : Nat) (hk : k ≤ l.length) (h1 : ∀ j, j < k → ltI (get l j) x = true) (h2 : k = l.length ∨ ltI (get l k) x = false) : insI x l = l.take k ++ x :: l.drop k := by
  induction l generalizing k with
  | nil => simp at hk; subst hk; rfl
  | cons y r ih =>
    cases k with
    | zero =>
      unfold insI
      rw [if_neg (by rcases h2 with e | e
                     · simp at e
                     · rw [show get (y :: r) 0 = y from rfl] at e; rw [e]; decide)]
      simp
    | succ k =>
      unfold insI
      rw [if_pos (by have := h1 0 (Nat.succ_pos _); exact this)]
      rw [ih k (by simpa using hk) (fun j hj => by have := h1 (j + 1) (by omega); exact this) (h2.imp (fun e => by simpa using e) (fun e => e))]
      rfl

theorem row_base {w : World} {base base' : Nat} {e : TypeId} {size : Nat} {v : Value} {n : Nat} {xs : List Value} (h : w.ownsRow base e size v n xs) (hb : base' ≤ base) : w.ownsRow base' e size v n xs :=
  ⟨h.1, h.2.imp id fun ⟨g, cap, cur, a, b, c⟩ => ⟨g, cap, cur, a, Nat.le_trans hb b, c⟩⟩
def RPutRel1 (w0 : World) (base : Nat) (rest : List Item) (x : Item) (u i : Value) (wr : World) : Prop :=
  ∃ k : Nat, k ≤ rest.length ∧ i = .int .i64 k ∧ (∀ j, j < k → ltI (get rest j) x = true) ∧ wr.ownsRow base 29 3 u (rest.take k).length ((rest.take k).flatMap encI) ∧ Mod [] w0 wr
def RPutRel2 (w0 : World) (base : Nat) (rest : List Item) (x : Item) (k0 : Nat) (u i : Value) (wr : World) : Prop :=
  ∃ k : Nat, k0 ≤ k ∧ k ≤ rest.length ∧ i = .int .i64 k ∧ wr.ownsRow base 29 3 u (rest.take k0 ++ x :: (rest.drop k0).take (k - k0)).length ((rest.take k0 ++ x :: (rest.drop k0).take (k - k0)).flatMap encI) ∧ Mod [] w0 wr

/-- what Put answers: the slice that came in, or a new one -/
def RPutTo (w : World) (v : Value) (l : List Item) (x : Item) (e : Ending) (w' : World) : Prop :=
  ∃ v', e = .returned (.tuple #[v', .int .i64 (putI l x).2]) ∧ (((putI l x).1 = l ∧ v' = v) ∨ w'.ownsRow w.heap.size 29 3 v' (putI l x).1.length ((putI l x).1.flatMap encI)) ∧ Mod [] w w'

set_option maxHeartbeats 1000000 in
set_option maxRecDepth 100000 in
theorem rput_bad {w : World} {v : Value} {l : List Item} (x1 x2 x3 : Int) (hb : ¬ okI (x1, x2, x3)) :
    Calls Try.prog 21 #[v, .agg #[.int .i64 x1, .int .i64 x2, .int .i64 x3]] w fun e w' => RPutTo w v l (x1, x2, x3) e w' := by
  have e1 : putI l (x1, x2, x3) = (l, 2) := by unfold putI; rw [if_pos hb]
  have fin : ∀ w', Gr w w' → RPutTo w v l (x1, x2, x3) (.returned (.tuple #[v, .int .i64 2])) w' := fun w' g =>
    ⟨v, by rw [e1], .inl ⟨by rw [e1], rfl⟩, g.mod _⟩
  have F := hide fin
  unfold okI at hb
  simp only at hb
  clear fin e1
  by_cases h1 : x1 < 0
  · clear hb
    go_enter Try.func21, Try.ntmps21
    go_wp2_with fail
    go_ret2
    exact F.out _ (by repeat (first | exact Gr.refl _ | apply Gr.drew | apply Gr.alloc))
  · by_cases h2 : 4611686018427387904 < x1
    · clear hb
      go_enter Try.func21, Try.ntmps21
      go_wp2_with fail
      go_ret2
      exact F.out _ (by repeat (first | exact Gr.refl _ | apply Gr.drew | apply Gr.alloc))
    · by_cases h3 : x2 < 1
      · clear hb
        go_enter Try.func21, Try.ntmps21
        go_wp2_with fail
        go_ret2
        exact F.out _ (by repeat (first | exact Gr.refl _ | apply Gr.drew | apply Gr.alloc))
      · have h4 : 4 < x2 := by omega
        clear hb
        go_enter Try.func21, Try.ntmps21
        go_wp2_with fail
        go_ret2
        exact F.out _ (by repeat (first | exact Gr.refl _ | apply Gr.drew | apply Gr.alloc))

set_option maxHeartbeats 2000000 in
set_option maxRecDepth 100000 in
theorem rput_ok {w : World} {v : Value} {l : List Item} (h : RdI w v l) (hsm : l.length ≤ 100000) (x1 x2 x3 : Int) (hk : okI (x1, x2, x3)) :
    Calls Try.prog 21 #[v, .agg #[.int .i64 x1, .int .i64 x2, .int .i64 x3]] w fun e w' => RPutTo w v l (x1, x2, x3) e w' := by
  obtain ⟨i0, hi0, hz0, hz1, hz2⟩ := info_parts info_item
  have hk' := hk
  unfold okI at hk'
  simp only at hk'
  obtain ⟨k1, k2, k3, k4⟩ := hk'
  have h0 := h.gr ((Gr.refl w).alloc (.cells #[.int .i64 x1, .int .i64 x2, .int .i64 x3] 29))
  have HK := hide hk
  clear hk
  go_enter Try.func21, Try.ntmps21
  go_wp2_with fail
  refine (rdrop_any h0 hsm x2 x3).mono ?_
  rintro e w1 ⟨rv, rfl, hrr, hm1⟩
  have hB := hm1.at_ (heap_alloc_new w _) (by simp)
  have hC := blk_cell hB
  have hF := blk_free hB
  obtain ⟨p, cap, rfl⟩ := h.len
  have hmw : Mod [] w w1 := (((Gr.refl w).alloc (.cells #[.int .i64 x1, .int .i64 x2, .int .i64 x3] 29)).mod []).then hm1
  have hle : (dropI l x2 x3).length ≤ l.length := (dropI_sub l x2 x3).length_le
  by_cases hfull : (dropI l x2 x3).length = l.length ∧ l.length = 32
  · have e1 : putI l (x1, x2, x3) = (l, 51) := by unfold putI; rw [if_neg (fun x => x HK.out), if_pos hfull]
    have b1 : decide ((dropI l x2 x3).length < l.length) = false := by simp; omega
    have b2 : ((l.length : Int) == 32) = true := by rw [beq_iff_eq]; omega
    have E := hide e1
    rw [b1]
    clear e1 b1 hfull hle hrr h0 h
    go_wp2_with fail
    go_ret2
    exact ⟨_, by rw [E.out]; rfl, .inl ⟨by rw [E.out], rfl⟩, hmw⟩
  · have e1 : putI l (x1, x2, x3) = (insI (x1, x2, x3) (dropI l x2 x3), 0) := by unfold putI; rw [if_neg (fun x => x HK.out), if_neg hfull]
    have E := hide e1
    have hrd := RdI.of_row hrr
    clear e1
    generalize dropI l x2 x3 = rest at hrr hle hfull E hrd ⊢
    obtain ⟨p', cap', rfl⟩ := hrd.len
    have hsl : rest.length ≤ 100000 := by omega
    by_cases hlt : rest.length < l.length
    · have b1 : decide (rest.length < l.length) = true := by simp; omega
      rw [b1]
      clear b1 hfull h0 h hrr
      go_wp2_with fail
      go_loopw [8, 9] (fun u i wr => RPutRel1 w1 w1.heap.size rest (x1, x2, x3) u i wr) (fun _ i _ => rest.length - (intOf i).toNat)
      case atStart => exact ⟨0, Nat.zero_le _, rfl, fun j hj => absurd hj (Nat.not_lt_zero _), World.ownsRow_nil _ _ _ _, Mod.refl _ _⟩
      case round =>
        obtain ⟨k, hk, rfl, hlts, hown, hm⟩ := hrel
        have HLT := hide hlts
        have hwr : w1.heap.size ≤ wr.heap.size := hm.size
        have hCr := blk_cell (hm.at_ hB (by simp))
        have hrr := hrd.mod hm (by simp)
        have hmin : (rest.take k).length = k := by simp; omega
        clear hlts hC hF
        by_cases hkl : k < rest.length
        · obtain ⟨b0, off0, cap0, hv, hbw, hc⟩ := hrr.at_ k hkl
          simp only [Value.slice.injEq, true_and] at hv
          obtain ⟨rfl, rfl⟩ := hv
          obtain ⟨c1, c2, c3⟩ := hc k hkl
          obtain ⟨⟨y1, y2, y3⟩, hy⟩ : ∃ y, y = get rest k := ⟨_, rfl⟩
          rw [← hy] at c1 c2 c3
          have HY := hide hy
          clear hc hrr hy
          have i1 : (0 : Int) ≤ (k : Int) := by omega
          have i2 : (k : Int) < (rest.length : Int) := by omega
          have HM := hide hmin
          clear hmin
          by_cases hb : ltI (y1, y2, y3) (x1, x2, x3) = true
          · have hlen : (rest.take k).length ≤ 100001 := by rw [HM.out]; omega
            have hnx : rest.take (k + 1) = rest.take k ++ [(y1, y2, y3)] := by
              rw [List.take_succ_eq_append_getElem hkl, HY.out]; simp [get, hkl]
            have HN := hide hnx
            clear hnx
            generalize hmk : rest.take k = mk at hown hlen HN
            clear hmk
            go_wp2_with fail
            go_still_tail 10, (by kernel_rfl)
            go_wp2_with fail
            refine (before_any _ _ _ _ _ _ _).mono ?_
            rintro e wb ⟨rfl, hgb⟩
            rw [hb]
            have hgw := ((Gr.refl wr).drew).trans hgb
            have c1b := hgw.kept c1
            have c2b := hgw.kept c2
            have c3b := hgw.kept c3
            have hownb := (hgw.mod []).row hown (by simp)
            have hmb := hm.gr hgw
            have hwb : w1.heap.size ≤ wb.heap.size := hmb.size
            clear c1 c2 c3 hown hm hgb hgw hCr
            go_wp2_with (at_builtin; refine wpList_append_own _ rfl _ _ 32 rfl w1.heap.size 29 i0 _ 3 24 Try.underlying32 hi0 hz0 hz1 hz2 rfl (by decide) _ _ _ rfl (hownb.alloc _) ⟨wb.heap.size, 0, none⟩ 1 1 [.int .i64 y1, .int .i64 y2, .int .i64 y3] rfl rfl (World.news_of_block (cs := #[.int .i64 y1, .int .i64 y2, .int .i64 y3]) (t := 29) (fr := (0, 0)) (heap_alloc_new wb _)) (by simp [Value.oneCell']) (by unfold maxLen; omega) (by omega) (by simp; omega) ?_; intro u' w2 ho2 hg2 _)
            have hm2 : Mod [] w1 w2 := fresh_mod hownb hmb hg2
            rw [flat_snoc] at ho2
            clear hownb hg2 hmb c1b c2b c3b
            go_wp2_with fail
            go_roundw
            case rel => exact ⟨k + 1, by omega, by go_num, fun j hj => by
              by_cases e : j = k
              · subst e; rw [← HY.out]; exact hb
              · exact HLT.out j (by omega), by rw [HN.out, List.length_append]; exact ho2, hm2⟩
            case measure => simp [intOf]; omega
          · have hb : ltI (y1, y2, y3) (x1, x2, x3) = false := by simpa using hb
            have hI : insI (x1, x2, x3) rest = rest.take k ++ (x1, x2, x3) :: rest.drop k := insI_split _ _ _ hk HLT.out (.inr (by rw [← HY.out]; exact hb))
            have HI := hide hI
            clear hI
            go_wp2_with fail
            go_still_tail 10, (by kernel_rfl)
            go_wp2_with fail
            refine (before_any _ _ _ _ _ _ _).mono ?_
            rintro e wz ⟨rfl, hgb⟩
            rw [hb]
            have hgw := ((Gr.refl wr).drew).trans hgb
            have hownz := (hgw.mod []).row hown (by simp)
            have hmz := hm.gr hgw
            have hwz : w1.heap.size ≤ wz.heap.size := hmz.size
            have hmin := HM.out
            have hCz := blk_cell (hmz.at_ hB (by simp))
            clear c1 c2 c3 hown hm hgb hgw hCr
            go_wp2_with (at_builtin; refine wpList_append_own _ rfl _ _ 32 rfl w1.heap.size 29 i0 _ 3 24 Try.underlying32 hi0 hz0 hz1 hz2 rfl (by decide) _ _ _ rfl (hownz.alloc _) ⟨wz.heap.size, 0, none⟩ 1 1 [.int .i64 x1, .int .i64 x2, .int .i64 x3] rfl rfl (World.news_of_block (cs := #[.int .i64 x1, .int .i64 x2, .int .i64 x3]) (t := 29) (fr := (0, 0)) (heap_alloc_new wz _)) (by simp [Value.oneCell']) (by unfold maxLen; omega) (by omega) (by simp; omega) ?_; intro u' w2 ho2 hg2 _)
            have hm2 : Mod [] w1 w2 := fresh_mod hownz hmz hg2
            rw [flat_snoc] at ho2
            have hq2 : RPutRel2 w1 w1.heap.size rest (x1, x2, x3) k u' (.int .i64 k) w2 := ⟨k, Nat.le_refl _, hk, rfl, by simpa [hmin] using ho2, hm2⟩
            clear hownz ho2 hg2 hmz hCz
            go_wp2_with fail
            go_loopw [8, 9] (fun u i wr => RPutRel2 w1 w1.heap.size rest (x1, x2, x3) k u i wr) (fun _ i _ => rest.length - (intOf i).toNat)
            case atStart => exact hq2
            case round =>
              clear hq2 hm2
              obtain ⟨j, hkj, hj, rfl, hown, hm⟩ := hrel
              have hwr : w1.heap.size ≤ wr.heap.size := hm.size
              have hrr := hrd.mod hm (by simp)
              by_cases hjl : j < rest.length
              · obtain ⟨b, off, cap'', hv, hbw, hc⟩ := hrr.at_ j hjl
                simp only [Value.slice.injEq, Option.some.injEq, Addr.mk.injEq, true_and, and_true] at hv
                obtain ⟨⟨rfl, rfl⟩, rfl⟩ := hv
                obtain ⟨c1, c2, c3⟩ := hc j hjl
                obtain ⟨⟨y1, y2, y3⟩, hy⟩ : ∃ y, y = get rest j := ⟨_, rfl⟩
                rw [← hy] at c1 c2 c3
                have HY := hide hy
                clear hc hrr hy
                have i1 : (0 : Int) ≤ (j : Int) := by omega
                have i2 : (j : Int) < (rest.length : Int) := by omega
                have hlen : (rest.take k ++ (x1, x2, x3) :: (rest.drop k).take (j - k)).length ≤ 100001 := by simp; omega
                have hnx : rest.take k ++ (x1, x2, x3) :: (rest.drop k).take (j + 1 - k) = (rest.take k ++ (x1, x2, x3) :: (rest.drop k).take (j - k)) ++ [(y1, y2, y3)] := by
                  have e : j + 1 - k = (j - k) + 1 := by omega
                  rw [e, List.take_succ_eq_append_getElem (by simp; omega)]
                  have e2 : (rest.drop k)[j - k]'(by simp; omega) = (y1, y2, y3) := by
                    rw [List.getElem_drop, HY.out]
                    simp [get, show k + (j - k) = j by omega, hjl]
                  rw [e2]; simp
                have HN := hide hnx
                clear hnx
                generalize rest.take k ++ (x1, x2, x3) :: (rest.drop k).take (j - k) = mm at hown hlen HN
                go_wp2_with (at_builtin; refine wpList_append_own _ rfl _ _ 32 rfl w1.heap.size 29 i0 _ 3 24 Try.underlying32 hi0 hz0 hz1 hz2 rfl (by decide) _ _ _ rfl (hown.alloc _) ⟨wr.heap.size, 0, none⟩ 1 1 [.int .i64 y1, .int .i64 y2, .int .i64 y3] rfl rfl (World.news_of_block (cs := #[.int .i64 y1, .int .i64 y2, .int .i64 y3]) (t := 29) (fr := (0, 0)) (heap_alloc_new wr _)) (by simp [Value.oneCell']) (by unfold maxLen; omega) (by omega) (by simp; omega) ?_; intro u3 w3 ho3 hg3 _)
                have hm3 : Mod [] w1 w3 := fresh_mod hown hm hg3
                rw [flat_snoc] at ho3
                clear hown hm hg3 c1 c2 c3
                go_wp2_with fail
                go_roundw
                case rel => exact ⟨j + 1, by omega, by omega, by go_num, by rw [HN.out, List.length_append]; exact ho3, hm3⟩
                case measure => simp [intOf]; omega
              · have e : j = rest.length := by omega
                subst e
                have hfin : rest.take k ++ (x1, x2, x3) :: (rest.drop k).take (rest.length - k) = insI (x1, x2, x3) rest := by
                  rw [HI.out, show (rest.drop k).take (rest.length - k) = rest.drop k from List.take_of_length_le (by simp)]
                rw [hfin] at hown
                clear hrr hfin
                go_wp2_with fail
                go_ret2
                exact ⟨_, by rw [E.out]; rfl, .inr (by rw [E.out]; exact row_base hown hmw.size), hmw.then hm⟩
        · have hkn : k = rest.length := by omega
          have b3 : ((k : Int) < (rest.length : Int)) = False := by simp; omega
          have b4 : decide ((k : Int) < (rest.length : Int)) = false := by simp; omega
          have hI : insI (x1, x2, x3) rest = rest.take k ++ (x1, x2, x3) :: rest.drop k := insI_split _ _ _ hk HLT.out (.inl hkn)
          have HI := hide hI
          clear hI
          have HKN := hide hkn
          have HMN := hide hmin
          clear hkn hmin b3 hrr
          go_wp2_with fail
          go_quiet (fail)
          have hownz := (((Gr.refl wr).drewN nq).mod []).row hown (by simp)
          have hmz := hm.gr ((Gr.refl wr).drewN nq)
          have hCz := blk_cell (hmz.at_ hB (by simp))
          generalize wr.drewN nq = wz at hownz hmz hCz ⊢
          have hmin := HMN.out
          have hwz : w1.heap.size ≤ wz.heap.size := hmz.size
          clear hown hm hCr b4
          go_wp2_with (at_builtin; refine wpList_append_own _ rfl _ _ 32 rfl w1.heap.size 29 i0 _ 3 24 Try.underlying32 hi0 hz0 hz1 hz2 rfl (by decide) _ _ _ rfl (hownz.alloc _) ⟨wz.heap.size, 0, none⟩ 1 1 [.int .i64 x1, .int .i64 x2, .int .i64 x3] rfl rfl (World.news_of_block (cs := #[.int .i64 x1, .int .i64 x2, .int .i64 x3]) (t := 29) (fr := (0, 0)) (heap_alloc_new wz _)) (by simp [Value.oneCell']) (by unfold maxLen; omega) (by omega) (by simp; omega) ?_; intro u' w2 ho2 hg2 _)
          have hm2 : Mod [] w1 w2 := fresh_mod hownz hmz hg2
          rw [flat_snoc] at ho2
          have hq2 : RPutRel2 w1 w1.heap.size rest (x1, x2, x3) k u' (.int .i64 k) w2 := ⟨k, Nat.le_refl _, hk, rfl, by simpa [hmin] using ho2, hm2⟩
          clear hownz ho2 hg2 hmz hCz
          go_wp2_with fail
          go_loopw [8, 9] (fun u i wr => RPutRel2 w1 w1.heap.size rest (x1, x2, x3) k u i wr) (fun _ i _ => rest.length - (intOf i).toNat)
          case atStart => exact hq2
          case round =>
            clear hq2 hm2
            obtain ⟨j, hkj, hj, rfl, hown, hm⟩ := hrel
            have hwr : w1.heap.size ≤ wr.heap.size := hm.size
            have hrr := hrd.mod hm (by simp)
            by_cases hjl : j < rest.length
            · exact absurd hjl (by have := HKN.out; omega)
            · have e : j = rest.length := by omega
              subst e
              have hfin : rest.take k ++ (x1, x2, x3) :: (rest.drop k).take (rest.length - k) = insI (x1, x2, x3) rest := by
                rw [HI.out, show (rest.drop k).take (rest.length - k) = rest.drop k from List.take_of_length_le (by simp)]
              rw [hfin] at hown
              clear hrr hfin
              go_wp2_with fail
              go_ret2
              exact ⟨_, by rw [E.out]; rfl, .inr (by rw [E.out]; exact row_base hown hmw.size), hmw.then hm⟩
    · have b1 : decide (rest.length < l.length) = false := by simp; omega
      have b2 : ((l.length : Int) == 32) = false := by rw [beq_eq_false_iff_ne]; intro e; exact hfull ⟨by omega, by omega⟩
      rw [b1]
      clear b1 hfull h0 h hrr
      go_wp2_with fail
      go_loopw [8, 9] (fun u i wr => RPutRel1 w1 w1.heap.size rest (x1, x2, x3) u i wr) (fun _ i _ => rest.length - (intOf i).toNat)
      case atStart => exact ⟨0, Nat.zero_le _, rfl, fun j hj => absurd hj (Nat.not_lt_zero _), World.ownsRow_nil _ _ _ _, Mod.refl _ _⟩
      case round =>
        obtain ⟨k, hk, rfl, hlts, hown, hm⟩ := hrel
        have HLT := hide hlts
        have hwr : w1.heap.size ≤ wr.heap.size := hm.size
        have hCr := blk_cell (hm.at_ hB (by simp))
        have hrr := hrd.mod hm (by simp)
        have hmin : (rest.take k).length = k := by simp; omega
        clear hlts hC hF
        by_cases hkl : k < rest.length
        · obtain ⟨b0, off0, cap0, hv, hbw, hc⟩ := hrr.at_ k hkl
          simp only [Value.slice.injEq, true_and] at hv
          obtain ⟨rfl, rfl⟩ := hv
          obtain ⟨c1, c2, c3⟩ := hc k hkl
          obtain ⟨⟨y1, y2, y3⟩, hy⟩ : ∃ y, y = get rest k := ⟨_, rfl⟩
          rw [← hy] at c1 c2 c3
          have HY := hide hy
          clear hc hrr hy
          have i1 : (0 : Int) ≤ (k : Int) := by omega
          have i2 : (k : Int) < (rest.length : Int) := by omega
          have HM := hide hmin
          clear hmin
          by_cases hb : ltI (y1, y2, y3) (x1, x2, x3) = true
          · have hlen : (rest.take k).length ≤ 100001 := by rw [HM.out]; omega
            have hnx : rest.take (k + 1) = rest.take k ++ [(y1, y2, y3)] := by
              rw [List.take_succ_eq_append_getElem hkl, HY.out]; simp [get, hkl]
            have HN := hide hnx
            clear hnx
            generalize hmk : rest.take k = mk at hown hlen HN
            clear hmk
            go_wp2_with fail
            go_still_tail 10, (by kernel_rfl)
            go_wp2_with fail
            refine (before_any _ _ _ _ _ _ _).mono ?_
            rintro e wb ⟨rfl, hgb⟩
            rw [hb]
            have hgw := ((Gr.refl wr).drew).trans hgb
            have c1b := hgw.kept c1
            have c2b := hgw.kept c2
            have c3b := hgw.kept c3
            have hownb := (hgw.mod []).row hown (by simp)
            have hmb := hm.gr hgw
            have hwb : w1.heap.size ≤ wb.heap.size := hmb.size
            clear c1 c2 c3 hown hm hgb hgw hCr
            go_wp2_with (at_builtin; refine wpList_append_own _ rfl _ _ 32 rfl w1.heap.size 29 i0 _ 3 24 Try.underlying32 hi0 hz0 hz1 hz2 rfl (by decide) _ _ _ rfl (hownb.alloc _) ⟨wb.heap.size, 0, none⟩ 1 1 [.int .i64 y1, .int .i64 y2, .int .i64 y3] rfl rfl (World.news_of_block (cs := #[.int .i64 y1, .int .i64 y2, .int .i64 y3]) (t := 29) (fr := (0, 0)) (heap_alloc_new wb _)) (by simp [Value.oneCell']) (by unfold maxLen; omega) (by omega) (by simp; omega) ?_; intro u' w2 ho2 hg2 _)
            have hm2 : Mod [] w1 w2 := fresh_mod hownb hmb hg2
            rw [flat_snoc] at ho2
            clear hownb hg2 hmb c1b c2b c3b
            go_wp2_with fail
            go_roundw
            case rel => exact ⟨k + 1, by omega, by go_num, fun j hj => by
              by_cases e : j = k
              · subst e; rw [← HY.out]; exact hb
              · exact HLT.out j (by omega), by rw [HN.out, List.length_append]; exact ho2, hm2⟩
            case measure => simp [intOf]; omega
          · have hb : ltI (y1, y2, y3) (x1, x2, x3) = false := by simpa using hb
            have hI : insI (x1, x2, x3) rest = rest.take k ++ (x1, x2, x3) :: rest.drop k := insI_split _ _ _ hk HLT.out (.inr (by rw [← HY.out]; exact hb))
            have HI := hide hI
            clear hI
            go_wp2_with fail
            go_still_tail 10, (by kernel_rfl)
            go_wp2_with fail
            refine (before_any _ _ _ _ _ _ _).mono ?_
            rintro e wz ⟨rfl, hgb⟩
            rw [hb]
            have hgw := ((Gr.refl wr).drew).trans hgb
            have hownz := (hgw.mod []).row hown (by simp)
            have hmz := hm.gr hgw
            have hwz : w1.heap.size ≤ wz.heap.size := hmz.size
            have hmin := HM.out
            have hCz := blk_cell (hmz.at_ hB (by simp))
            clear c1 c2 c3 hown hm hgb hgw hCr
            go_wp2_with (at_builtin; refine wpList_append_own _ rfl _ _ 32 rfl w1.heap.size 29 i0 _ 3 24 Try.underlying32 hi0 hz0 hz1 hz2 rfl (by decide) _ _ _ rfl (hownz.alloc _) ⟨wz.heap.size, 0, none⟩ 1 1 [.int .i64 x1, .int .i64 x2, .int .i64 x3] rfl rfl (World.news_of_block (cs := #[.int .i64 x1, .int .i64 x2, .int .i64 x3]) (t := 29) (fr := (0, 0)) (heap_alloc_new wz _)) (by simp [Value.oneCell']) (by unfold maxLen; omega) (by omega) (by simp; omega) ?_; intro u' w2 ho2 hg2 _)
            have hm2 : Mod [] w1 w2 := fresh_mod hownz hmz hg2
            rw [flat_snoc] at ho2
            have hq2 : RPutRel2 w1 w1.heap.size rest (x1, x2, x3) k u' (.int .i64 k) w2 := ⟨k, Nat.le_refl _, hk, rfl, by simpa [hmin] using ho2, hm2⟩
            clear hownz ho2 hg2 hmz hCz
            go_wp2_with fail
            go_loopw [8, 9] (fun u i wr => RPutRel2 w1 w1.heap.size rest (x1, x2, x3) k u i wr) (fun _ i _ => rest.length - (intOf i).toNat)
            case atStart => exact hq2
            case round =>
              clear hq2 hm2
              obtain ⟨j, hkj, hj, rfl, hown, hm⟩ := hrel
              have hwr : w1.heap.size ≤ wr.heap.size := hm.size
              have hrr := hrd.mod hm (by simp)
              by_cases hjl : j < rest.length
              · obtain ⟨b, off, cap'', hv, hbw, hc⟩ := hrr.at_ j hjl
                simp only [Value.slice.injEq, Option.some.injEq, Addr.mk.injEq, true_and, and_true] at hv
                obtain ⟨⟨rfl, rfl⟩, rfl⟩ := hv
                obtain ⟨c1, c2, c3⟩ := hc j hjl
                obtain ⟨⟨y1, y2, y3⟩, hy⟩ : ∃ y, y = get rest j := ⟨_, rfl⟩
                rw [← hy] at c1 c2 c3
                have HY := hide hy
                clear hc hrr hy
                have i1 : (0 : Int) ≤ (j : Int) := by omega
                have i2 : (j : Int) < (rest.length : Int) := by omega
                have hlen : (rest.take k ++ (x1, x2, x3) :: (rest.drop k).take (j - k)).length ≤ 100001 := by simp; omega
                have hnx : rest.take k ++ (x1, x2, x3) :: (rest.drop k).take (j + 1 - k) = (rest.take k ++ (x1, x2, x3) :: (rest.drop k).take (j - k)) ++ [(y1, y2, y3)] := by
                  have e : j + 1 - k = (j - k) + 1 := by omega
                  rw [e, List.take_succ_eq_append_getElem (by simp; omega)]
                  have e2 : (rest.drop k)[j - k]'(by simp; omega) = (y1, y2, y3) := by
                    rw [List.getElem_drop, HY.out]
                    simp [get, show k + (j - k) = j by omega, hjl]
                  rw [e2]; simp
                have HN := hide hnx
                clear hnx
                generalize rest.take k ++ (x1, x2, x3) :: (rest.drop k).take (j - k) = mm at hown hlen HN
                go_wp2_with (at_builtin; refine wpList_append_own _ rfl _ _ 32 rfl w1.heap.size 29 i0 _ 3 24 Try.underlying32 hi0 hz0 hz1 hz2 rfl (by decide) _ _ _ rfl (hown.alloc _) ⟨wr.heap.size, 0, none⟩ 1 1 [.int .i64 y1, .int .i64 y2, .int .i64 y3] rfl rfl (World.news_of_block (cs := #[.int .i64 y1, .int .i64 y2, .int .i64 y3]) (t := 29) (fr := (0, 0)) (heap_alloc_new wr _)) (by simp [Value.oneCell']) (by unfold maxLen; omega) (by omega) (by simp; omega) ?_; intro u3 w3 ho3 hg3 _)
                have hm3 : Mod [] w1 w3 := fresh_mod hown hm hg3
                rw [flat_snoc] at ho3
                clear hown hm hg3 c1 c2 c3
                go_wp2_with fail
                go_roundw
                case rel => exact ⟨j + 1, by omega, by omega, by go_num, by rw [HN.out, List.length_append]; exact ho3, hm3⟩
                case measure => simp [intOf]; omega
              · have e : j = rest.length := by omega
                subst e
                have hfin : rest.take k ++ (x1, x2, x3) :: (rest.drop k).take (rest.length - k) = insI (x1, x2, x3) rest := by
                  rw [HI.out, show (rest.drop k).take (rest.length - k) = rest.drop k from List.take_of_length_le (by simp)]
                rw [hfin] at hown
                clear hrr hfin
                go_wp2_with fail
                go_ret2
                exact ⟨_, by rw [E.out]; rfl, .inr (by rw [E.out]; exact row_base hown hmw.size), hmw.then hm⟩
        · have hkn : k = rest.length := by omega
          have b3 : ((k : Int) < (rest.length : Int)) = False := by simp; omega
          have b4 : decide ((k : Int) < (rest.length : Int)) = false := by simp; omega
          have hI : insI (x1, x2, x3) rest = rest.take k ++ (x1, x2, x3) :: rest.drop k := insI_split _ _ _ hk HLT.out (.inl hkn)
          have HI := hide hI
          clear hI
          have HKN := hide hkn
          have HMN := hide hmin
          clear hkn hmin b3 hrr
          go_wp2_with fail
          go_quiet (fail)
          have hownz := (((Gr.refl wr).drewN nq).mod []).row hown (by simp)
          have hmz := hm.gr ((Gr.refl wr).drewN nq)
          have hCz := blk_cell (hmz.at_ hB (by simp))
          generalize wr.drewN nq = wz at hownz hmz hCz ⊢
          have hmin := HMN.out
          have hwz : w1.heap.size ≤ wz.heap.size := hmz.size
          clear hown hm hCr b4
          go_wp2_with (at_builtin; refine wpList_append_own _ rfl _ _ 32 rfl w1.heap.size 29 i0 _ 3 24 Try.underlying32 hi0 hz0 hz1 hz2 rfl (by decide) _ _ _ rfl (hownz.alloc _) ⟨wz.heap.size, 0, none⟩ 1 1 [.int .i64 x1, .int .i64 x2, .int .i64 x3] rfl rfl (World.news_of_block (cs := #[.int .i64 x1, .int .i64 x2, .int .i64 x3]) (t := 29) (fr := (0, 0)) (heap_alloc_new wz _)) (by simp [Value.oneCell']) (by unfold maxLen; omega) (by omega) (by simp; omega) ?_; intro u' w2 ho2 hg2 _)
          have hm2 : Mod [] w1 w2 := fresh_mod hownz hmz hg2
          rw [flat_snoc] at ho2
          have hq2 : RPutRel2 w1 w1.heap.size rest (x1, x2, x3) k u' (.int .i64 k) w2 := ⟨k, Nat.le_refl _, hk, rfl, by simpa [hmin] using ho2, hm2⟩
          clear hownz ho2 hg2 hmz hCz
          go_wp2_with fail
          go_loopw [8, 9] (fun u i wr => RPutRel2 w1 w1.heap.size rest (x1, x2, x3) k u i wr) (fun _ i _ => rest.length - (intOf i).toNat)
          case atStart => exact hq2
          case round =>
            clear hq2 hm2
            obtain ⟨j, hkj, hj, rfl, hown, hm⟩ := hrel
            have hwr : w1.heap.size ≤ wr.heap.size := hm.size
            have hrr := hrd.mod hm (by simp)
            by_cases hjl : j < rest.length
            · exact absurd hjl (by have := HKN.out; omega)
            · have e : j = rest.length := by omega
              subst e
              have hfin : rest.take k ++ (x1, x2, x3) :: (rest.drop k).take (rest.length - k) = insI (x1, x2, x3) rest := by
                rw [HI.out, show (rest.drop k).take (rest.length - k) = rest.drop k from List.take_of_length_le (by simp)]
              rw [hfin] at hown
              clear hrr hfin
              go_wp2_with fail
              go_ret2
              exact ⟨_, by rw [E.out]; rfl, .inr (by rw [E.out]; exact row_base hown hmw.size), hmw.then hm⟩


theorem rput_any {w : World} {v : Value} {l : List Item} (h : RdI w v l) (hsm : l.length ≤ 100000) (x1 x2 x3 : Int) :
    Calls Try.prog 21 #[v, .agg #[.int .i64 x1, .int .i64 x2, .int .i64 x3]] w fun e w' => RPutTo w v l (x1, x2, x3) e w' := by
  by_cases hk : okI (x1, x2, x3)
  · exact rput_ok h hsm x1 x2 x3 hk
  · exact rput_bad x1 x2 x3 hk
end Go.Proofs.Ytbaphdaipacihaa
