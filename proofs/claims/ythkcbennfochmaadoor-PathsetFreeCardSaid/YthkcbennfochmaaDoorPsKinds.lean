/-
  THE LAW PathsetKinds: its walk.
-/
import Derived.Test.YthkcbennfochmaaDoorPsTurn
import Derived.Test.YthkcbennfochmaaDoorPaths2
import Derived.BigQuiet
namespace Go.Proofs.YthkcbennfochmaaDoor
open Go.RowKit Go.Maps

def InRel (w : World) (xs : List Int) (x : Int) (i : Value) (wr : World) : Prop := ∃ k : Nat, k ≤ xs.length ∧ i = .int .i64 k ∧ (∀ j, j < k → xs.getD j 0 ≠ x) ∧ w = wr
set_option maxRecDepth 100000 in
theorem in_any {w : World} {v : Value} {xs : List Int} (h : RdN w v xs) (x : Int) : Calls Tryd.prog 22 #[v, .int .i64 x] w fun e w' => e = .returned (.bool (decide (x ∈ xs))) ∧ w = w' := by
  have hl : xs.length ≤ 9223372036854775807 := h.1
  obtain ⟨q, c, rfl⟩ := h.len
  have HX := hide h
  clear h
  go_enter Tryd.func22, Tryd.ntmps22
  go_wp2_with fail
  go_loopw [9] (fun i wr => InRel w xs x i wr) (fun i _ => xs.length - (intOf i).toNat)
  case atStart => exact ⟨0, Nat.zero_le _, rfl, by simp, rfl⟩
  case round =>
    obtain ⟨k, hk, rfl, hno, rfl⟩ := hrel
    have HN := hide hno
    clear hno
    by_cases hlt : k < xs.length
    · obtain ⟨b, off, rfl, hb, c0⟩ := HX.out.at_ k hlt
      obtain ⟨y, hy⟩ : ∃ y, xs.getD k 0 = y := ⟨_, rfl⟩
      rw [hy] at c0
      have HY := hide hy
      clear hy
      have i1 : (0 : Int) ≤ (k : Int) := by omega
      have i2 : (k : Int) < (xs.length : Int) := by omega
      by_cases he : y = x
      · subst he
        go_wp2_with fail
        go_ret
        have hm : y ∈ xs := by
          rw [← HY.out]
          simp [hlt]
        exact ⟨by rw [decide_eq_true hm]; rfl, rfl⟩
      · have hb2 : (y == x) = false := by simpa using he
        have HE := hide he
        clear he
        go_wp2_with fail
        go_roundw
        case rel => exact ⟨k + 1, by omega, by go_num, fun j hj => by
          by_cases e : j = k
          · subst e; rw [HY.out]; exact HE.out
          · exact HN.out j (by omega), rfl⟩
        case measure => simp [intOf]; omega
    · go_wp2_with fail
      go_ret
      have hm : ¬ x ∈ xs := fun hx => by
        obtain ⟨j, hj, rfl⟩ := List.mem_iff_getElem.1 hx
        exact HN.out j (by omega) (by simp [hj])
      exact ⟨by rw [decide_eq_false hm]; rfl, rfl⟩
/-! ### the plain laws -/
theorem mem_sort_ids {l : List Ent} (h : l.Pairwise fun a b => a.id ≠ b.id) {e : Ent} (he : e ∈ l) (f : Ent → Bool) : decide (e.id ∈ sortI ((l.filter f).map Ent.id)) = f e := by
  rw [Bool.eq_iff_iff, decide_eq_true_eq, (sortI_perm _).mem_iff, List.mem_map]
  constructor
  · rintro ⟨x, hx, hi⟩
    obtain ⟨h1, h2⟩ := List.mem_filter.1 hx
    have : x = e := id_one h h1 he hi
    rw [← this]; exact h2
  · exact fun hf => ⟨e, List.mem_filter.2 ⟨he, hf⟩, rfl⟩
theorem covers_self {a : List UInt8} (h : pathOk a = true) : coversB a a = true := by unfold coversB; rw [h]; simp
theorem covers_both {a b : List UInt8} (ha : pathOk a = true) : (coversB a b && coversB b a) = decide (a = b) := by
  by_cases e : a = b
  · rw [decide_eq_true e, ← e, covers_self ha]; rfl
  · rw [decide_eq_false e]
    cases h1 : coversB a b
    · rfl
    · cases h2 : coversB b a
      · rfl
      · exfalso
        have hb : pathOk b = true := by
          unfold coversB at h2
          simp only [Bool.and_eq_true] at h2
          exact h2.1.1
        have p1 := (covers_segs ha hb).1 h1
        have p2 := (covers_segs hb ha).1 h2
        exact e (segs_inj (List.IsPrefix.eq_of_length p1 (Nat.le_antisymm p1.length_le p2.length_le)))
theorem toList_beq (a b : ByteArray) : (a.toList == b.toList) = decide (a.data.toList = b.data.toList) := by
  rw [ByteArray.toList_eq, ByteArray.toList_eq]
  rw [Bool.eq_iff_iff]
  simp
theorem stands_2 {p : List UInt8} {who : Int} (e : Ent) : standsB p 2 who e = ((coversB e.bs p || coversB p e.bs) && (e.who != who)) := by
  unfold standsB modE
  by_cases h : e.who = who <;> simp [h]
theorem stands_1 {p : List UInt8} {who : Int} (e : Ent) : standsB p 1 who e = (((coversB e.bs p || coversB p e.bs) && (e.who != who)) && (e.mode == 2)) := by
  unfold standsB modE
  by_cases h : e.who = who <;> by_cases h2 : e.mode = 2 <;> simp [h, h2]
theorem kinds_bool (ob ub bw bm : Bool) {wb nb eqb : Bool} (h1 : wb = ((ob || ub) && bw)) (h2 : nb = (wb && bm)) (h3 : eqb = (ob && ub)) :
    (ob = false ∧ ub = false ∧ eqb = false ∧ wb = false ∧ nb = false) ∨ ((ob = true ∧ ub = false ∧ eqb = false ∨ ob = false ∧ ub = true ∧ eqb = false ∨ ob = true ∧ ub = true ∧ eqb = true) ∧ (bw = false ∧ wb = false ∧ nb = false ∨ bw = true ∧ wb = true ∧ nb = bm)) := by
  subst h1 h2 h3
  cases ob <;> cases ub <;> cases bw <;> simp
theorem in_same {w : World} {base : Nat} {v : Value} {xs : List Int} (h : RowN w base v xs) {x : Int} {b : Bool} (hb : decide (x ∈ xs) = b) : ∀ W : World, Mod [] w W → Calls Tryd.prog 22 #[v, .int .i64 x] W fun e w' => e = .returned (.bool b) ∧ w' = W := fun W m =>
  (in_any ((RdN.of_row h).mod m (by simp)) x).mono fun _ _ ⟨h1, h2⟩ => ⟨by rw [h1, hb], h2.symm⟩
/-- the four answers -/
def InTab (v1 v2 v3 v4 : Value) (b1 b2 b3 b4 : Bool) (v : Value) (b : Bool) : Prop := (v = v1 ∧ b = b1) ∨ (v = v2 ∧ b = b2) ∨ (v = v3 ∧ b = b3) ∨ (v = v4 ∧ b = b4)
theorem in_tab {w : World} {n1 n2 n3 n4 : Nat} {v1 v2 v3 v4 : Value} {x1 x2 x3 x4 : List Int} {x : Int} {b1 b2 b3 b4 : Bool} (h1 : RowN w n1 v1 x1) (h2 : RowN w n2 v2 x2) (h3 : RowN w n3 v3 x3) (h4 : RowN w n4 v4 x4) (e1 : decide (x ∈ x1) = b1) (e2 : decide (x ∈ x2) = b2) (e3 : decide (x ∈ x3) = b3) (e4 : decide (x ∈ x4) = b4) :
    ∀ (v : Value) (b : Bool), InTab v1 v2 v3 v4 b1 b2 b3 b4 v b → ∀ W : World, Mod [] w W → Calls Tryd.prog 22 #[v, .int .i64 x] W fun e w' => e = .returned (.bool b) ∧ w' = W := by
  rintro v b (⟨rfl, rfl⟩ | ⟨rfl, rfl⟩ | ⟨rfl, rfl⟩ | ⟨rfl, rfl⟩)
  · exact in_same h1 e1
  · exact in_same h2 e2
  · exact in_same h3 e3
  · exact in_same h4 e4
theorem covers_eq {s t : ByteArray} (hs : s.size ≤ 9223372036854775807) (ht : t.size ≤ 9223372036854775807) {b : Bool} (hb : coversB s.data.toList t.data.toList = b) (w : World) : Calls Tryd.prog 23 #[.string s, .string t] w fun e w' => e = .returned (.bool b) ∧ w' = w := by
  subst hb
  exact (covers_any s t hs ht w).mono fun _ _ ⟨h1, h2⟩ => ⟨h1, by rw [h2]⟩
def KindRel (w8 : World) (n : Nat) (i : Value) (wr : World) : Prop := ∃ k : Nat, k ≤ n ∧ i = .int .i64 k ∧ Mod [] w8 wr
theorem path_le {p : ByteArray} (h : pathOk p.data.toList = true) : p.size ≤ 9223372036854775807 := by
  have := pathOk_len h
  rw [Lib.size_eq]
  omega
theorem filt_len (l : List Ent) (f : Ent → Bool) : (sortI ((l.filter f).map Ent.id)).length ≤ l.length := by
  rw [(sortI_perm _).length_eq, List.length_map]
  exact List.length_filter_le _ _
set_option maxHeartbeats 4000000 in
set_option maxRecDepth 100000 in
theorem kinds_any {W : World} {q : Option Addr} {c : Nat} {l : List Ent} (h : RdE W (.slice q l.length c) l) (hin : ∀ e, e ∈ l → inE e) (pp : ByteArray) (hp : pp.size ≤ 9223372036854775807) (who : Int) :
    Calls Tryd.prog 7 #[.slice q l.length c, .string pp, .int .i64 who] W fun e w' => e = .returned (.bool true) ∧ Mod [] W w' := by
  have HX := hide (And.intro h (And.intro hin hp))
  clear h hin hp
  obtain ⟨xo, hxo⟩ : ∃ x, overS5 (fillS l) pp.data.toList = x := ⟨_, rfl⟩
  obtain ⟨xu, hxu⟩ : ∃ x, underS5 (fillS l) pp.data.toList = x := ⟨_, rfl⟩
  obtain ⟨xc, hxc⟩ : ∃ x, clashS5 (fillS l) pp.data.toList 2 who = x := ⟨_, rfl⟩
  obtain ⟨xn, hxn⟩ : ∃ x, clashS5 (fillS l) pp.data.toList 1 who = x := ⟨_, rfl⟩
  have HS := hide (And.intro hxo (And.intro hxu (And.intro hxc hxn)))
  clear hxo hxu hxc hxn
  go_enter Tryd.func7, Tryd.ntmps7
  have t4 : Hid True := hide trivial
  have t5 : Hid True := hide trivial
  go_wp2_with (first
    | (go_at_call 10
       refine (awake_any _).mono ?_
       rintro e w1 ⟨rfl, hm1⟩
       have H1 := hide hm1
       clear hm1)
    | (go_at_call 14
       refine (filled_any (HX.out.1.same H1.out) HX.out.2.1).mono ?_
       rintro e w2 ⟨sb, wb, N, rfl, s⟩
       have H2 := hide (And.intro s (H1.out.then s.mod))
       clear s H1)
    | (go_at_call 19
       refine (over_eq H2.out.1.q pp HX.out.2.2 HS.out.1).mono ?_
       rintro e w3 ⟨q3, c3, rfl, r3, hm3⟩
       have H3 := hide (And.intro (H2.out.1.same hm3) (And.intro (H2.out.2.then hm3) r3))
       clear r3 hm3 H2)
    | (go_at_call 20
       refine (under_eq H3.out.1.q pp HX.out.2.2 HS.out.2.1).mono ?_
       rintro e w4 ⟨q4, c4, rfl, r4, hm4⟩
       have H4 := hide (And.intro (H3.out.1.same hm4) (And.intro (H3.out.2.1.then hm4) (And.intro (H3.out.2.2.mod hm4 (by simp)) r4)))
       clear r4 hm4 H3)
    | (have tk := t4
       go_at_call 18
       refine (clash_eq H4.out.1.q pp HX.out.2.2 2 who HS.out.2.2.1).mono ?_
       rintro e w5 ⟨q5, c5, rfl, r5, hm5⟩
       have H5 := hide (And.intro (H4.out.1.same hm5) (And.intro (H4.out.2.1.then hm5) (And.intro (H4.out.2.2.1.mod hm5 (by simp)) (And.intro (H4.out.2.2.2.mod hm5 (by simp)) r5))))
       clear r5 hm5 H4 t4 tk)
    | (have tk := t5
       go_at_call 18
       refine (clash_eq H5.out.1.q pp HX.out.2.2 1 who HS.out.2.2.2).mono ?_
       rintro e w6 ⟨q6, c6, rfl, r6, hm6⟩
       have H6 := hide (And.intro (H5.out.1.same hm6) (And.intro (H5.out.2.1.then hm6) (And.intro (H5.out.2.2.1.mod hm6 (by simp)) (And.intro (H5.out.2.2.2.1.mod hm6 (by simp)) (And.intro (H5.out.2.2.2.2.mod hm6 (by simp)) r6)))))
       clear r6 hm6 H5 t5 tk)
    | (go_at_call 16
       refine (list_eq H6.out.1.q H6.out.1.srt).mono ?_
       rintro e w7 ⟨q7, c7, rfl, r7, hm7⟩
       have H7 := hide (And.intro (H6.out.1.same hm7) (H6.out.2.1.then hm7))
       have HI := hide (And.intro (H6.out.2.2.1.mod hm7 (by simp)) (And.intro (H6.out.2.2.2.1.mod hm7 (by simp)) (And.intro (H6.out.2.2.2.2.1.mod hm7 (by simp)) (H6.out.2.2.2.2.2.mod hm7 (by simp)))))
       have HR := hide r7
       clear r7 hm7 H6)
    | fail)
  have hsm := H7.out.1.m.small
  have hll : (fillS l).length ≤ 9223372036854775807 := by omega
  go_loopw [39] (fun i wr => KindRel w7 (fillS l).length i wr) (fun i _ => (fillS l).length - (intOf i).toNat)
  case atStart => exact ⟨0, Nat.zero_le _, rfl, Mod.refl _ _⟩
  case round =>
    obtain ⟨k, hk, rfl, hmw⟩ := hrel
    by_cases hlt : k < (fillS l).length
    · obtain ⟨b, off, rfl, hb, c0, c1, c2, c3⟩ := ((RdE.of_row HR.out).same hmw).at_ hlt
      have hmem : (fillS l).getD k default ∈ fillS l := by simp [hlt]
      obtain ⟨⟨xi, xp, xm, xw⟩, he⟩ : ∃ e, (fillS l).getD k default = e := ⟨_, rfl⟩
      rw [he] at c0 c1 c2 c3 hmem
      dsimp only at c0 c1 c2 c3
      have hok := H7.out.1.m.ok _ hmem
      have hids := H7.out.1.m.ids
      have i1 : (0 : Int) ≤ (k : Int) := by omega
      have i2 : (k : Int) < ((fillS l).length : Int) := by omega
      obtain ⟨ob, hob⟩ : ∃ b, coversB xp.data.toList pp.data.toList = b := ⟨_, rfl⟩
      obtain ⟨ub, hub⟩ : ∃ b, coversB pp.data.toList xp.data.toList = b := ⟨_, rfl⟩
      obtain ⟨eqb, heqb⟩ : ∃ b, (xp.toList == pp.toList) = b := ⟨_, rfl⟩
      obtain ⟨bw, hbw⟩ : ∃ b, (xw != who) = b := ⟨_, rfl⟩
      obtain ⟨bm, hbm⟩ : ∃ b, (xm == 2) = b := ⟨_, rfl⟩
      have eO : decide (xi ∈ xo) = ob := by rw [← HS.out.1]; exact (mem_sort_ids hids hmem _).trans hob
      have eU : decide (xi ∈ xu) = ub := by rw [← HS.out.2.1]; exact (mem_sort_ids hids hmem _).trans hub
      have eW : decide (xi ∈ xc) = ((ob || ub) && bw) := by rw [← HS.out.2.2.1]; exact (mem_sort_ids hids hmem _).trans ((stands_2 _).trans (by rw [← hob, ← hub, ← hbw]; rfl))
      have eN : decide (xi ∈ xn) = (((ob || ub) && bw) && bm) := by rw [← HS.out.2.2.2]; exact (mem_sort_ids hids hmem _).trans ((stands_1 _).trans (by rw [← hob, ← hub, ← hbw, ← hbm]; rfl))
      have he3 : eqb = (ob && ub) := by
        rw [← heqb, toList_beq, ← hob, ← hub]
        exact (covers_both hok.1).symm
      obtain ⟨wb', hwb⟩ : ∃ b, ((ob || ub) && bw) = b := ⟨_, rfl⟩
      rw [hwb] at eW eN
      obtain ⟨nb', hnb⟩ : ∃ b, (wb' && bm) = b := ⟨_, rfl⟩
      rw [hnb] at eN
      have hcs := kinds_bool ob ub bw bm hwb.symm hnb.symm he3
      have HC := hide (in_tab HI.out.1 HI.out.2.1 HI.out.2.2.1 HI.out.2.2.2 eO eU eW eN)
      have HP := hide (And.intro (path_le hok.1) (And.intro hob hub))
      have B8 := heap_alloc_new wr (objE xi xp xm xw)
      have m8 : Mod [] w7 (wr.alloc (objE xi xp xm xw)) := hmw.alloc _
      have HM := hide hmw
      clear hids hmem he hok hob hub eO eU eW eN he3 hwb hnb hmw
      have C8 := blk_cell B8
      have hsz8 : wr.heap.size < (wr.alloc (objE xi xp xm xw)).heap.size := by simp
      have HB8 := hide B8
      have t6 : Hid True := hide trivial
      have t7 : Hid True := hide trivial
      clear B8
      rcases hcs with ⟨rfl, rfl, rfl, rfl, rfl⟩ | ⟨⟨rfl, rfl, rfl⟩ | ⟨rfl, rfl, rfl⟩ | ⟨rfl, rfl, rfl⟩, ⟨rfl, rfl, rfl⟩ | ⟨rfl, rfl, rfl⟩⟩
      all_goals
        go_wp2_with fail
        go_quiet ((go_at_call 22; exact Calls.quiet_of_same (HC.out _ _ (by first | exact .inl ⟨rfl, rfl⟩ | exact .inr (.inl ⟨rfl, rfl⟩) | exact .inr (.inr (.inl ⟨rfl, rfl⟩)) | exact .inr (.inr (.inr ⟨rfl, rfl⟩))) _ (m8.drewN _))))
        have m9 := m8.drewN nq
        clear m8
        go_wp2_with (first
          | (have tk := t6
             go_at_call 23
             refine (covers_eq HP.out.1 HX.out.2.2 HP.out.2.1 _).mono ?_
             rintro e w9 ⟨rfl, rfl⟩
             clear t6 tk)
          | (have tk := t7
             go_at_call 23
             refine (covers_eq HX.out.2.2 HP.out.1 HP.out.2.2 _).mono ?_
             rintro e w9 ⟨rfl, rfl⟩
             clear t7 tk)
          | fail)
        go_roundw
        case rel => exact ⟨k + 1, by omega, by go_num, m9⟩
        case measure => simp [intOf]; omega
    · have hlo : (xo.length : Int) ≤ ((fillS l).length : Int) := by
        rw [← HS.out.1]
        exact Int.ofNat_le.2 (filt_len _ _)
      have hlc : (xc.length : Int) ≤ ((fillS l).length : Int) := by
        rw [← HS.out.2.2.1]
        exact Int.ofNat_le.2 (filt_len _ _)
      have HE := hide (And.intro (H7.out.1.same hmw) (H7.out.2.then hmw))
      have t8 : Hid True := hide trivial
      have t9 : Hid True := hide trivial
      clear H7 hmw HI HR
      cases hv : pathOk pp.data.toList
      · obtain rfl : xo = [] := by rw [← HS.out.1]; exact (over_bad hv).1
        obtain rfl : xu = [] := by rw [← HS.out.2.1]; exact (over_bad hv).2
        obtain rfl : xc = [] := by rw [← HS.out.2.2.1]; exact clash_bad (.inl hv)
        obtain rfl : xn = [] := by rw [← HS.out.2.2.2]; exact clash_bad (.inl hv)
        have HV := hide hv
        clear hv
        go_wp2_with (first
          | (have tk := t8
             go_at_call 18
             refine (clash_eq HE.out.1.q pp HX.out.2.2 0 who (clash_bad (.inr rfl))).mono ?_
             rintro e y1 ⟨q8, c8, rfl, r8, m8⟩
             have HE1 := hide (And.intro (HE.out.1.same m8) (HE.out.2.then m8))
             clear r8 m8 HE t8 tk)
          | (have tk := t9
             go_at_call 18
             refine (clash_eq HE1.out.1.q pp HX.out.2.2 3 who (clash_bad (.inr rfl))).mono ?_
             rintro e y2 ⟨q9, c9, rfl, r9, m9⟩
             have HE2 := hide (And.intro (HE1.out.1.same m9) (HE1.out.2.then m9))
             clear r9 m9 HE1 t9 tk)
          | (go_at_call 13
             refine (len_eq HE2.out.1.q rfl).mono ?_
             rintro e y3 ⟨rfl, hw⟩
             subst hw)
          | (go_at_call 24
             refine (pvalid_any pp HX.out.2.2 _).mono ?_
             rw [HV.out]
             rintro e y4 ⟨rfl, rfl⟩)
          | fail)
        go_ret
        exact ⟨rfl, HE2.out.2⟩
      · have HV := hide hv
        clear hv
        go_wp2_with (first
          | (have tk := t8
             go_at_call 18
             refine (clash_eq HE.out.1.q pp HX.out.2.2 0 who (clash_bad (.inr rfl))).mono ?_
             rintro e y1 ⟨q8, c8, rfl, r8, m8⟩
             have HE1 := hide (And.intro (HE.out.1.same m8) (HE.out.2.then m8))
             clear r8 m8 HE t8 tk)
          | (have tk := t9
             go_at_call 18
             refine (clash_eq HE1.out.1.q pp HX.out.2.2 3 who (clash_bad (.inr rfl))).mono ?_
             rintro e y2 ⟨q9, c9, rfl, r9, m9⟩
             have HE2 := hide (And.intro (HE1.out.1.same m9) (HE1.out.2.then m9))
             clear r9 m9 HE1 t9 tk)
          | (go_at_call 13
             refine (len_eq HE2.out.1.q rfl).mono ?_
             rintro e y3 ⟨rfl, hw⟩
             subst hw)
          | (go_at_call 24
             refine (pvalid_any pp HX.out.2.2 _).mono ?_
             rw [HV.out]
             rintro e y4 ⟨rfl, rfl⟩)
          | fail)
        go_ret
        exact ⟨rfl, HE2.out.2⟩
end Go.Proofs.YthkcbennfochmaaDoor
