/-
  THE LAW PathsetTurned: its walk.
-/
import Derived.Test.YthkcbennfochmaaDoorPsTurn
import Derived.Deep.RegionHeld3
namespace Go.Proofs.YthkcbennfochmaaDoor
open Go.RowKit Go.Maps

theorem same_eq {w : World} {u v : Value} {l : List Ent} (hu : RdE w u l) (hv : RdE w v l) : Calls Tryd.prog 15 #[u, v] w fun e w' => e = .returned (.bool true) ∧ Mod [] w w' :=
  (same_any hu hv).mono fun _ _ ⟨h1, h2⟩ => ⟨by rw [h1, decide_eq_true rfl], h2.mod []⟩
theorem sameInts_eq {w : World} {u v : Value} {l : List Int} (hu : RdN w u l) (hv : RdN w v l) : Calls Tryd.prog 17 #[u, v] w fun e w' => e = .returned (.bool true) ∧ Mod [] w w' :=
  (sameInts_any hu hv).mono fun _ _ ⟨h1, h2⟩ => ⟨by rw [h1, decide_eq_true rfl], h2.mod []⟩
theorem RowN.rd {w w' : World} {base : Nat} {v : Value} {m : List Int} (h : RowN w base v m) (k : Mod [] w w') : RdN w' v m := (RdN.of_row h).mod k (by simp)
theorem RowE.rd {w w' : World} {base : Nat} {v : Value} {m : List Ent} (h : RowE w base v m) (k : Mod [] w w') : RdE w' v m := (RdE.of_row h).same k
theorem len_mod {w : World} {o : Option Addr} {N : List Nd} {l : List Ent} (h : SetQ w o N l) {k : Int} (hk : (l.length : Int) = k) : Calls Tryd.prog 13 #[.pointer o] w fun e w' => e = .returned (.int .i64 k) ∧ Mod [] w w' :=
  (len_eq h hk).mono fun _ _ ⟨h1, h2⟩ => ⟨h1, by rw [h2]; exact Mod.refl _ _⟩
/-- a world that has only grown since w6 -/
def TLive (w6 w' : World) : Prop := Mod [] w6 w'
theorem TLive.mod {w6 w' : World} (h : TLive w6 w') : Mod [] w6 w' := h
theorem tl_of {w6 w' : World} {b : Nat} {ai am aw : Int} {ap : ByteArray} (hb : w6.heap[b]? = some (objE ai ap am aw)) (h : Mod [] w6 w') : TLive w6 w' ∧ w'.cell? ⟨b, 1, none⟩ = some (.string ap) ∧ w'.cell? ⟨b, 2, none⟩ = some (.int .i64 am) ∧ w'.cell? ⟨b, 3, none⟩ = some (.int .i64 aw) := by
  have C := blk_cell (h.at_ hb (by simp))
  exact ⟨h, C 1, C 2, C 3⟩
def Apart (l : List Ent) (x : Ent) (k : Nat) : Prop := ∀ i, i < k → (l.getD i default).id ≠ x.id ∧ ∀ j, j < i → (l.getD i default).id ≠ (l.getD j default).id
def Turn1 (W : World) (l : List Ent) (x : Ent) (i : Value) (wr : World) : Prop := ∃ k : Nat, k ≤ l.length ∧ i = .int .i64 k ∧ Apart l x k ∧ Mod [] W wr
def Turn2 (W : World) (l : List Ent) (k : Nat) (i : Value) (wr : World) : Prop := ∃ j : Nat, j ≤ k ∧ i = .int .i64 j ∧ (∀ j', j' < j → (l.getD k default).id ≠ (l.getD j' default).id) ∧ Mod [] W wr
def Turn3 (w3 : World) (l : List Ent) (x : Ent) (sb wb : Nat) (i : Value) (wr : World) : Prop := ∃ (k : Nat) (N : List Nd), k ≤ l.length ∧ i = .int .i64 ((l.length : Int) - 1 - k) ∧ SS w3 wr sb wb N (fillS ((x :: l.reverse).take (k + 1)))
theorem turnOk_of {l : List Ent} {x : Ent} (h : Apart l x l.length) (hl : l.length ≤ 60) : TurnOk l x := by
  refine ⟨?_, fun e he => ?_, hl⟩
  · rw [List.pairwise_iff_getElem]
    intro i j hi hj hij e
    have := (h j hj).2 i hij
    simp [hi, hj] at this
    exact this e.symm
  · obtain ⟨i, hi, rfl⟩ := List.mem_iff_getElem.1 he
    have := (h i hi).1
    simpa [hi] using this
set_option maxHeartbeats 4000000 in
set_option maxRecDepth 100000 in
theorem turned_any {W : World} {q : Option Addr} {c : Nat} {l : List Ent} (h : RdE W (.slice q l.length c) l) (hin : ∀ e, e ∈ l → inE e) (hcap : l.length ≤ c) (xi xm xw ai am aw : Int) (xp ap : ByteArray) (hx1 : (Lit.int .i64 xi).wf = true) (hx2 : xp.size ≤ 9223372036854775807) (ha2 : ap.size ≤ 9223372036854775807) :
    Calls Tryd.prog 4 #[.slice q l.length c, .agg #[.int .i64 xi, .string xp, .int .i64 xm, .int .i64 xw], .agg #[.int .i64 ai, .string ap, .int .i64 am, .int .i64 aw]] W fun e w' => e = .returned (.bool true) ∧ Mod [] W w' := by
  have hll : l.length ≤ 9223372036854775807 := h.1
  have b1 := blk_alloc (heap_alloc_new W (objE xi xp xm xw)) (objE ai ap am aw)
  have b2 := heap_alloc_new (W.alloc (objE xi xp xm xw)) (objE ai ap am aw)
  have gB := ((Gr.refl W).alloc (objE xi xp xm xw)).alloc (objE ai ap am aw)
  rw [World.size_alloc] at b2
  have HX := hide (And.intro h (And.intro hin (And.intro hx1 (And.intro hx2 ha2))))
  have HB0 := hide (And.intro b1 (And.intro b2 (gB.mod [])))
  clear h hin hx1 hx2 ha2 b1 b2 gB
  go_enter Tryd.func4, Tryd.ntmps4
  go_wp2_with fail
  refine (awake_any _).mono ?_
  rintro e w1 ⟨rfl, hm1⟩
  have HB := hide (And.intro (hm1.at_ HB0.out.1 (by simp)) (And.intro (hm1.at_ HB0.out.2.1 (by simp)) (HB0.out.2.2.then hm1)))
  clear hm1 HB0
  by_cases h60 : l.length ≤ 60
  · have g60 : ¬ (60 : Int) < (l.length : Int) := by omega
    go_wp2_with fail
    go_loopw [20] (fun i wr => Turn1 w1 l ⟨xi, xp, xm, xw⟩ i wr) (fun i _ => l.length - (intOf i).toNat)
    case atStart => exact ⟨0, Nat.zero_le _, rfl, fun i hi => absurd hi (Nat.not_lt_zero _), Mod.refl _ _⟩
    case round =>
      obtain ⟨k, hk, rfl, hF, hmw⟩ := hrel
      have HF := hide hF
      clear hF
      by_cases hlt : k < l.length
      · have i1 : (0 : Int) ≤ (k : Int) := by omega
        have i2 : (k : Int) < (l.length : Int) := by omega
        have i3 : (k : Int) ≤ (c : Int) := by omega
        have i4 : k ≤ c := by omega
        go_wp2_with fail
        go_loopw [27] (fun i wr => Turn2 w1 l k i wr) (fun i _ => k - (intOf i).toNat)
        case atStart => exact ⟨0, Nat.zero_le _, rfl, by simp, hmw⟩
        case round =>
          clear hmw
          obtain ⟨j, hj, rfl, hD, hmw⟩ := hrel
          have hmW := HB.out.2.2.then hmw
          have HD := hide hD
          clear hD
          obtain ⟨b, off, rfl, hb, c0, -, -, -⟩ := (HX.out.1.same hmW).at_ hlt
          obtain ⟨y, hy⟩ : ∃ y, (l.getD k default).id = y := ⟨_, rfl⟩
          rw [hy] at c0
          have HY := hide hy
          clear hy
          by_cases hjt : j < k
          · obtain ⟨b', off', e', -, d0, -, -, -⟩ := (HX.out.1.same hmW).at_ (i := j) (by omega)
            obtain ⟨rfl, rfl⟩ : b = b' ∧ off = off' := by simpa using e'
            clear e'
            obtain ⟨z, hz⟩ : ∃ z, (l.getD j default).id = z := ⟨_, rfl⟩
            rw [hz] at d0
            have HZ := hide hz
            clear hz
            have i5 : (0 : Int) ≤ (j : Int) := by omega
            have i6 : (j : Int) < (k : Int) := by omega
            have i7 : (j : Int) < (l.length : Int) := by omega
            have HM := hide hmW
            have HM1 := hide hmw
            clear hmW hmw
            by_cases he : y = z
            · subst he
              go_wp2_with fail
              go_quiet (fail)
              go_wp2_with fail
              go_ret
              exact ⟨rfl, HM.out.drewN _⟩
            · have hb2 : (y == z) = false := by simpa using he
              have HE := hide he
              clear he
              go_wp2_with fail
              go_quiet (fail)
              go_wp2_with fail
              go_roundw
              case rel => exact ⟨j + 1, by omega, by go_num, fun j' hj' => by
                by_cases e : j' = j
                · subst e; rw [HY.out, HZ.out]; exact HE.out
                · exact HD.out j' (by omega), HM1.out.drewN _⟩
              case measure => simp [intOf]; omega
          · obtain rfl : j = k := by omega
            have B1 := hmw.at_ HB.out.1 (by simp)
            have CB := blk_cell B1
            have HM := hide hmW
            have HM1 := hide hmw
            clear hmW hmw B1
            by_cases he : y = xi
            · subst he
              go_wp2_with fail
              go_quiet (fail)
              go_wp2_with fail
              go_ret
              exact ⟨rfl, HM.out.drewN _⟩
            · have hb2 : (y == xi) = false := by simpa using he
              have HE := hide he
              clear he
              go_wp2_with fail
              go_quiet (fail)
              go_wp2_with fail
              go_roundw
              case rel => exact ⟨j + 1, by omega, by go_num, fun i' hi' => by
                by_cases e : i' = j
                · subst e; exact ⟨by rw [HY.out]; exact HE.out, HD.out⟩
                · exact HF.out i' (by omega), HM1.out.drewN _⟩
              case measure => simp [intOf]; omega
      · obtain rfl : k = l.length := by omega
        have HT := hide (turnOk_of HF.out h60)
        clear HF
        have hmW := HB.out.2.2.then hmw
        have HBr := hide (And.intro (hmw.at_ HB.out.1 (by simp)) (hmw.at_ HB.out.2.1 (by simp)))
        have HMr := hide hmW
        clear hmw hmW HB
        go_wp2_with fail
        refine (filled_any (HX.out.1.same HMr.out) HX.out.2.1).mono ?_
        rintro e w3 ⟨sa, wa, Na, rfl, sA⟩
        have HA := hide sA
        have HB3 := hide (And.intro (sA.mod.at_ HBr.out.1 (by simp)) (And.intro (sA.mod.at_ HBr.out.2 (by simp)) (HMr.out.then sA.mod)))
        clear sA HBr HMr
        go_wp2_with fail
        refine (new_eq (Mod.refl [] w3)).mono ?_
        rintro e w4 ⟨sb, wb, Nb, rfl, sB, -⟩
        have HSB := hide sB
        have C1 := blk_cell (sB.mod.at_ HB3.out.1 (by simp))
        obtain ⟨k0, hk0⟩ : ∃ k, (putS5 [] ⟨xi, xp, xm, xw⟩).2 = k := ⟨_, rfl⟩
        obtain ⟨fb, hfb⟩ : ∃ fb, okE ⟨xi, xp, xm, xw⟩ = fb := ⟨_, rfl⟩
        have hkb : (k0 == 0) = fb := by
          have := (put_fresh (l := []) (e := ⟨xi, xp, xm, xw⟩) (by simp) (by simp)).2
          rw [hk0, hfb] at this
          rw [← this]; rfl
        have HK := hide (And.intro hk0 hfb)
        clear sB hk0 hfb
        go_wp2_with fail
        refine (put_eq HSB.out xi xp xm xw HX.out.2.2.2.1 HX.out.2.2.1 (l' := (putS5 [] ⟨xi, xp, xm, xw⟩).1) (k := k0) (by rw [← HK.out.1])).mono ?_
        rintro e w5 ⟨rfl, N5, sB, -⟩
        have H5 := hide sB
        clear sB HSB C1
        have j1 : IntKind.i64.wrap ((l.length : Int) - 1) = (l.length : Int) - 1 := IntWalk.i64_in _ (by omega)
        go_wp2_with fail
        go_loopw [12] (fun i wr => Turn3 w3 l ⟨xi, xp, xm, xw⟩ sb wb i wr) (fun i _ => (intOf i + 1).toNat)
        case atStart => exact ⟨0, N5, Nat.zero_le _, by simp, H5.out⟩
        case round =>
          clear H5
          obtain ⟨k, N6, hk, rfl, sB⟩ := hrel
          have H6 := hide sB
          clear sB
          by_cases hlt : k < l.length
          · have hmW := HB3.out.2.2.then H6.out.mod
            obtain ⟨b, off, rfl, hb, c0, c1, c2, c3⟩ := (HX.out.1.same hmW).at_ (i := l.length - 1 - k) (by omega)
            have hmem : inE (l.getD (l.length - 1 - k) default) := HX.out.2.1 _ (by
              have : l.length - 1 - k < l.length := by omega
              simp [this])
            have hst := turn_step (x := ⟨xi, xp, xm, xw⟩) hlt
            obtain ⟨⟨yi, yp, ym, yw⟩, hy⟩ : ∃ y, l.getD (l.length - 1 - k) default = y := ⟨_, rfl⟩
            rw [hy] at c0 c1 c2 c3 hmem hst
            dsimp only at c0 c1 c2 c3
            have HM := hide (And.intro hmem hst)
            have j2 : IntKind.i64.wrap ((l.length : Int) - 1 - (k : Int) - 1) = (l.length : Int) - 1 - (k : Int) - 1 := IntWalk.i64_in _ (by omega)
            have j3 : (0 : Int) ≤ (l.length : Int) - 1 - (k : Int) := by omega
            have j4 : (l.length : Int) - 1 - (k : Int) < (l.length : Int) := by omega
            have j5 : ((l.length : Int) - 1 - (k : Int)).toNat = l.length - 1 - k := by omega
            clear hmem hst hy hmW
            go_wp2_with fail
            refine (put_eq H6.out yi yp ym yw HM.out.1.2 HM.out.1.1 rfl).mono ?_
            rintro e w7 ⟨rfl, N7, sB, -⟩
            have H7 := hide sB
            clear sB H6 c0 c1 c2 c3
            go_wp2_with fail
            go_roundw
            case rel => exact ⟨k + 1, N7, by omega, by congr 1; omega, by rw [HM.out.2]; exact H7.out⟩
            case measure => simp [intOf]; omega
          · obtain rfl : k = l.length := by omega
            obtain ⟨-, hfb⟩ := HK.out
            have H6b := H6.out
            rw [List.take_of_length_le (by simp)] at H6b
            have HB5 := hide H6b
            have C6 := blk_cell (H6b.mod.at_ HB3.out.1 (by simp))
            have j6 : ¬ (0 : Int) ≤ (l.length : Int) - 1 - (l.length : Int) := by omega
            have HT2 := hide (And.intro (turn_same HT.out) ((turn_fits HT.out).trans hfb))
            clear H6b H6 hfb HK
            go_wp2_with fail
            refine (drop_eq HB5.out xi HX.out.2.2.1 HT2.out.1 HT2.out.2).mono ?_
            rintro e w6 ⟨rfl, N7, sB, -⟩
            have HB6 := hide sB
            have HA6 := hide (HA.out.same sB.mod)
            have HBX := hide (sB.mod.at_ HB3.out.2.1 (by simp))
            have HM6 := hide (HB3.out.2.2.then sB.mod)
            have hbb : (fb != fb) = false := by simp
            clear sB HB5 C6 HA HB3 HT2
            obtain ⟨xc, hxc⟩ : ∃ x, clashS5 (fillS l) ap.data.toList am aw = x := ⟨_, rfl⟩
            obtain ⟨xo, hxo⟩ : ∃ x, overS5 (fillS l) ap.data.toList = x := ⟨_, rfl⟩
            obtain ⟨xu, hxu⟩ : ∃ x, underS5 (fillS l) ap.data.toList = x := ⟨_, rfl⟩
            have t7 : Hid True := hide trivial
            have t8 : Hid True := hide trivial
            have t9 : Hid True := hide trivial
            have t10 : Hid True := hide trivial
            have t11 : Hid True := hide trivial
            have t12 : Hid True := hide trivial
            have t13 : Hid True := hide trivial
            have t14 : Hid True := hide trivial
            have t15 : Hid True := hide trivial
            have t16 : Hid True := hide trivial
            have t17 : Hid True := hide trivial
            have t18 : Hid True := hide trivial
            have t19 : Hid True := hide trivial
            have t20 : Hid True := hide trivial
            go_wp2_with fail
            go_region_held3 (fun w' => TLive w6 w' ∧ w'.cell? ⟨W.heap.size + 1, 1, none⟩ = some (.string ap) ∧ w'.cell? ⟨W.heap.size + 1, 2, none⟩ = some (.int .i64 am) ∧ w'.cell? ⟨W.heap.size + 1, 3, none⟩ = some (.int .i64 aw))
              (first | (exact tl_of HBX.out ((Mod.refl [] w6).drew)) | (go_split_ands; exact tl_of HBX.out (Mod.then (by assumption) hmX)))
              (first
                | (have tk := t7; go_at_call 16; go_split_ands; refine (list_eq (HA6.out.same (TLive.mod (by assumption))).q HA6.out.srt).mono ?_; rintro e x7 ⟨q7, c7, rfl, r7, hmX⟩; have m7 := hmX; clear t7 tk)
                | (have tk := t8; go_at_call 16; go_split_ands; refine (list_eq (HB6.out.same (TLive.mod (by assumption))).q HB6.out.srt).mono ?_; rintro e x8 ⟨q8, c8, rfl, r8, hmX⟩; have m8 := hmX; clear t8 tk)
                | (have tk := t9; go_at_call 15; go_split_ands; refine (same_eq (r7.rd (by repeat (first | exact Mod.refl _ _ | apply Mod.drew | (refine Mod.then ?_ m8) | fail))) (r8.rd (by repeat (first | exact Mod.refl _ _ | apply Mod.drew | (refine Mod.then ?_ m8) | fail)))).mono ?_; rintro e x9 ⟨rfl, hmX⟩; have m9 := hmX; clear t9 tk)
                | (have tk := t10; go_at_call 18; go_split_ands; refine (clash_eq (HA6.out.same (TLive.mod (by assumption))).q ap HX.out.2.2.2.2 am aw hxc).mono ?_; rintro e x10 ⟨q10, c10, rfl, r10, hmX⟩; have m10 := hmX; clear t10 tk)
                | (have tk := t11; go_at_call 18; go_split_ands; refine (clash_eq (HB6.out.same (TLive.mod (by assumption))).q ap HX.out.2.2.2.2 am aw hxc).mono ?_; rintro e x11 ⟨q11, c11, rfl, r11, hmX⟩; have m11 := hmX; clear t11 tk)
                | (have tk := t12; go_at_call 17; go_split_ands; refine (sameInts_eq (r10.rd (by repeat (first | exact Mod.refl _ _ | apply Mod.drew | (refine Mod.then ?_ m11) | fail))) (r11.rd (by repeat (first | exact Mod.refl _ _ | apply Mod.drew | (refine Mod.then ?_ m11) | fail)))).mono ?_; rintro e x12 ⟨rfl, hmX⟩; have m12 := hmX; clear t12 tk)
                | (have tk := t13; go_at_call 19; go_split_ands; refine (over_eq (HA6.out.same (TLive.mod (by assumption))).q ap HX.out.2.2.2.2 hxo).mono ?_; rintro e x13 ⟨q13, c13, rfl, r13, hmX⟩; have m13 := hmX; clear t13 tk)
                | (have tk := t14; go_at_call 19; go_split_ands; refine (over_eq (HB6.out.same (TLive.mod (by assumption))).q ap HX.out.2.2.2.2 hxo).mono ?_; rintro e x14 ⟨q14, c14, rfl, r14, hmX⟩; have m14 := hmX; clear t14 tk)
                | (have tk := t15; go_at_call 17; go_split_ands; refine (sameInts_eq (r13.rd (by repeat (first | exact Mod.refl _ _ | apply Mod.drew | (refine Mod.then ?_ m14) | fail))) (r14.rd (by repeat (first | exact Mod.refl _ _ | apply Mod.drew | (refine Mod.then ?_ m14) | fail)))).mono ?_; rintro e x15 ⟨rfl, hmX⟩; have m15 := hmX; clear t15 tk)
                | (have tk := t16; go_at_call 20; go_split_ands; refine (under_eq (HA6.out.same (TLive.mod (by assumption))).q ap HX.out.2.2.2.2 hxu).mono ?_; rintro e x16 ⟨q16, c16, rfl, r16, hmX⟩; have m16 := hmX; clear t16 tk)
                | (have tk := t17; go_at_call 20; go_split_ands; refine (under_eq (HB6.out.same (TLive.mod (by assumption))).q ap HX.out.2.2.2.2 hxu).mono ?_; rintro e x17 ⟨q17, c17, rfl, r17, hmX⟩; have m17 := hmX; clear t17 tk)
                | (have tk := t18; go_at_call 17; go_split_ands; refine (sameInts_eq (r16.rd (by repeat (first | exact Mod.refl _ _ | apply Mod.drew | (refine Mod.then ?_ m17) | fail))) (r17.rd (by repeat (first | exact Mod.refl _ _ | apply Mod.drew | (refine Mod.then ?_ m17) | fail)))).mono ?_; rintro e x18 ⟨rfl, hmX⟩; have m18 := hmX; clear t18 tk)
                | (have tk := t19; go_at_call 13; go_split_ands; refine (len_mod (HA6.out.same (TLive.mod (by assumption))).q rfl).mono ?_; rintro e x19 ⟨rfl, hmX⟩; clear t19 tk)
                | (have tk := t20; go_at_call 13; go_split_ands; refine (len_mod (HB6.out.same (TLive.mod (by assumption))).q rfl).mono ?_; rintro e x20 ⟨rfl, hmX⟩; clear t20 tk)
                | fail)
            go_wp2_with fail
            go_ret
            first
              | (go_split_ands; exact ⟨rfl, HM6.out.then (TLive.mod (by assumption))⟩)
              | (go_split_ands; exact ⟨rfl, (HM6.out.then (TLive.mod (by assumption))).drew⟩)
  · have g60 : (60 : Int) < (l.length : Int) := by omega
    go_wp2_with fail
    go_ret
    exact ⟨rfl, HB.out.2.2⟩
end Go.Proofs.YthkcbennfochmaaDoor
