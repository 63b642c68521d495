/-
  THE LAW PathsetOwn: its walk.
-/
import Derived.Test.YthkcbennfochmaaDoorPsOwn1
import Derived.Test.YthkcbennfochmaaDoorPsTurned
namespace Go.Proofs.YthkcbennfochmaaDoor
open Go.RowKit Go.Maps

theorem info_ints : (Tryd.prog.info? 37).map (fun i => (i.zero, i.size, i.bytes)) = some (some (.slice none 0 0), 1, 24) := by kernel_rfl
theorem row_zero {w : World} {b : Nat} {e : TypeId} (h : w.heap[b]? = some (.cells #[] e (0, 0))) : w.ownsRow b e 1 (.slice (some ⟨b, 0, none⟩) 0 0) 0 [] :=
  ⟨rfl, .inr ⟨b, 0, #[], rfl, Nat.le_refl _, h, Nat.le_refl _, by unfold maxLen; omega, rfl, rfl⟩⟩
theorem RowN.row {w : World} {base : Nat} {v : Value} {xs : List Int} (h : RowN w base v xs) : Row w 3 1 v xs.length := Row.of h
theorem RowE.row {w : World} {base : Nat} {v : Value} {xs : List Ent} (h : RowE w base v xs) : Row w 29 4 v xs.length := Row.of h
theorem filt_len' (l : List Ent) (f : Ent → Bool) : (sortI ((l.filter f).map Ent.id)).length ≤ l.length := by
  rw [(sortI_perm _).length_eq, List.length_map]
  exact List.length_filter_le _ _
/-- the copies that are kept -/
def KeepRel (w12 : World) (X : Nat → List Int) (u i : Value) (wr : World) : Prop :=
  ∃ (k : Nat) (K : List Value), k ≤ 6 ∧ i = .int .i64 k ∧ K.length = k ∧ wr.ownsRow w12.heap.size 37 1 u k K ∧ (∀ j, j < k → RowN wr w12.heap.size (K.getD j (.slice none 0 0)) (X j)) ∧ Mod [] w12 wr
def six {α : Type} (a b c d e f : α) : Nat → α
  | 0 => a
  | 1 => b
  | 2 => c
  | 3 => d
  | 4 => e
  | _ => f
def tri {α : Type} (a b c : α) : Nat → α
  | 0 => a
  | 1 => b
  | _ => c
/-- the counter of the loops that go by two -/
def Two (j : Nat) (i : Value) : Prop := (j = 0 ∧ i = .int .i64 0) ∨ (j = 1 ∧ i = .int .i64 2) ∨ (j = 2 ∧ i = .int .i64 4) ∨ (j = 3 ∧ i = .int .i64 6)
theorem two0 : Two 0 (.int .i64 0) := .inl ⟨rfl, rfl⟩
theorem two1 : Two 1 (.int .i64 2) := .inr (.inl ⟨rfl, rfl⟩)
theorem two2 : Two 2 (.int .i64 4) := .inr (.inr (.inl ⟨rfl, rfl⟩))
theorem two3 : Two 3 (.int .i64 6) := .inr (.inr (.inr ⟨rfl, rfl⟩))
def Odd (j : Nat) (i : Value) : Prop := (j = 0 ∧ i = .int .i64 1) ∨ (j = 1 ∧ i = .int .i64 3) ∨ (j = 2 ∧ i = .int .i64 5) ∨ (j = 3 ∧ i = .int .i64 7)
theorem odd0 : Odd 0 (.int .i64 1) := .inl ⟨rfl, rfl⟩
theorem odd1 : Odd 1 (.int .i64 3) := .inr (.inl ⟨rfl, rfl⟩)
theorem odd2 : Odd 2 (.int .i64 5) := .inr (.inr (.inl ⟨rfl, rfl⟩))
theorem odd3 : Odd 3 (.int .i64 7) := .inr (.inr (.inr ⟨rfl, rfl⟩))
theorem ol_of {w6 w' : World} {a b : Addr} {u v : Value} (h1 : w6.cell? a = some u) (h2 : w6.cell? b = some v) (h : Mod [] w6 w') : TLive w6 w' ∧ w'.cell? a = some u ∧ w'.cell? b = some v := ⟨h, h.kept h1 (by simp), h.kept h2 (by simp)⟩
set_option maxHeartbeats 4000000 in
set_option maxRecDepth 100000 in
theorem pown_any {W : World} {q : Option Addr} {c : Nat} {l : List Ent} (h : RdE W (.slice q l.length c) l) (hin : ∀ e, e ∈ l → inE e) (pp : ByteArray) (hp : pp.size ≤ 9223372036854775807) :
    Calls Tryd.prog 6 #[.slice q l.length c, .string pp] W fun e w' => e = .returned (.bool true) ∧ Mod [] W w' := by
  have hll : l.length ≤ 9223372036854775807 := h.1
  have HX := hide (And.intro h (And.intro hin hp))
  clear h hin hp
  obtain ⟨L, hL⟩ : ∃ L, fillS l = L := ⟨_, rfl⟩
  obtain ⟨xo, hxo⟩ : ∃ x, overS5 L pp.data.toList = x := ⟨_, rfl⟩
  obtain ⟨xu, hxu⟩ : ∃ x, underS5 L pp.data.toList = x := ⟨_, rfl⟩
  obtain ⟨xc, hxc⟩ : ∃ x, clashS5 L pp.data.toList 2 (-1) = x := ⟨_, rfl⟩
  have HS := hide (And.intro hxo (And.intro hxu hxc))
  have HL := hide hL
  clear hxo hxu hxc hL
  obtain ⟨ii, hi, hz0, hz1, hz2⟩ := info_parts info_num
  have HI := hide (And.intro hi (And.intro hz0 (And.intro hz1 hz2)))
  clear hi hz0 hz1 hz2
  obtain ⟨is, hi, hz0, hz1, hz2⟩ := info_parts info_ints
  have HIS := hide (And.intro hi (And.intro hz0 (And.intro hz1 hz2)))
  clear hi hz0 hz1 hz2
  obtain ⟨ie, hi, hz0, hz1, hz2⟩ := info_parts info_ent
  have HIE := hide (And.intro hi (And.intro hz0 (And.intro hz1 hz2)))
  clear hi hz0 hz1 hz2
  go_enter Tryd.func6, Tryd.ntmps6
  have t2 : Hid True := hide trivial
  have t3 : Hid True := hide trivial
  have t4 : Hid True := hide trivial
  have t5 : Hid True := hide trivial
  have t6 : Hid True := hide trivial
  have t7 : Hid True := hide trivial
  have t8 : Hid True := hide trivial
  have t9 : Hid True := hide trivial
  have t10 : Hid True := hide trivial
  have t11 : Hid True := hide trivial
  go_wp2_with (first
    | (go_at_call 10
       refine (awake_any _).mono ?_
       rintro e w1 ⟨rfl, hm1⟩
       have H1 := hide hm1
       clear hm1)
    | (have tk := t2
       go_at_call 14
       refine (filled_any (HX.out.1.same H1.out) HX.out.2.1).mono ?_
       rintro e w2 ⟨sa, wa, Na, rfl, s⟩
       rw [HL.out] at s
       have S2 := hide s
       clear s t2 tk)
    | (have tk := t3
       go_at_call 14
       refine (filled_any (HX.out.1.same (H1.out.then S2.out.mod)) HX.out.2.1).mono ?_
       rintro e w3 ⟨st, wt, Nt, rfl, s⟩
       rw [HL.out] at s
       have T3 := hide s
       have S3 := hide (S2.out.same s.mod)
       clear s t3 tk)
    | (have tk := t4
       go_at_call 16
       refine (list_eq S3.out.q S3.out.srt).mono ?_
       rintro e w4 ⟨q4, c4, rfl, r, m⟩
       have R4 := hide r
       have M4 := hide m
       have S4 := hide (S3.out.same m)
       clear r m t4 tk)
    | (have tk := t5
       go_at_call 16
       refine (list_eq S4.out.q S4.out.srt).mono ?_
       rintro e w5 ⟨q5, c5, rfl, r, m⟩
       have R5 := hide r
       have M5 := hide m
       have S5 := hide (S4.out.same m)
       clear r m t5 tk)
    | (have tk := t6
       go_at_call 19
       refine (over_eq S5.out.q pp HX.out.2.2 HS.out.1).mono ?_
       rintro e w6 ⟨q6, c6, rfl, r, m⟩
       have R6 := hide r
       have M6 := hide m
       have S6 := hide (S5.out.same m)
       clear r m t6 tk)
    | (have tk := t7
       go_at_call 19
       refine (over_eq S6.out.q pp HX.out.2.2 HS.out.1).mono ?_
       rintro e w7 ⟨q7, c7, rfl, r, m⟩
       have R7 := hide r
       have M7 := hide m
       have S7 := hide (S6.out.same m)
       clear r m t7 tk)
    | (have tk := t8
       go_at_call 20
       refine (under_eq S7.out.q pp HX.out.2.2 HS.out.2.1).mono ?_
       rintro e w8 ⟨q8, c8, rfl, r, m⟩
       have R8 := hide r
       have M8 := hide m
       have S8 := hide (S7.out.same m)
       clear r m t8 tk)
    | (have tk := t9
       go_at_call 20
       refine (under_eq S8.out.q pp HX.out.2.2 HS.out.2.1).mono ?_
       rintro e w9 ⟨q9, c9, rfl, r, m⟩
       have R9 := hide r
       have M9 := hide m
       have S9 := hide (S8.out.same m)
       clear r m t9 tk)
    | (have tk := t10
       go_at_call 18
       refine (clash_eq S9.out.q pp HX.out.2.2 2 (-1) HS.out.2.2).mono ?_
       rintro e w10 ⟨q10, c10, rfl, r, m⟩
       have R10 := hide r
       have M10 := hide m
       have S10 := hide (S9.out.same m)
       clear r m t10 tk)
    | (have tk := t11
       go_at_call 18
       refine (clash_eq S10.out.q pp HX.out.2.2 2 (-1) HS.out.2.2).mono ?_
       rintro e w11 ⟨q11, c11, rfl, r, m⟩
       have R11 := hide r
       have M11 := hide m
       have S11 := hide (S10.out.same m)
       clear r m t11 tk)
    | fail)
  obtain ⟨IB, hIB⟩ : ∃ b, w11.heap.size = b := ⟨_, rfl⟩
  have hbk := heap_alloc_new w11 (.cells #[.slice q6 xo.length c6, .slice q7 xo.length c7, .slice q8 xu.length c8, .slice q9 xu.length c9, .slice q10 xc.length c10, .slice q11 xc.length c11] 37)
  have mal : Mod [] w11 (w11.alloc (.cells #[.slice q6 xo.length c6, .slice q7 xo.length c7, .slice q8 xu.length c8, .slice q9 xu.length c9, .slice q10 xc.length c10, .slice q11 xc.length c11] 37)) := ((Gr.refl w11).alloc _).mod []
  obtain ⟨w12, hw12⟩ : ∃ w12 : World, w12 = w11.alloc (.cells #[.slice q6 xo.length c6, .slice q7 xo.length c7, .slice q8 xu.length c8, .slice q9 xu.length c9, .slice q10 xc.length c10, .slice q11 xc.length c11] 37) := ⟨_, rfl⟩
  have hsz12 : w12.heap.size = IB + 1 := by rw [hw12, World.size_alloc, hIB]
  rw [← hw12] at hbk mal
  rw [hIB] at hbk
  rw [← hw12, hIB]
  have M12 := hide mal
  have HBK := hide hbk
  have HSL := hide (And.intro (S2.out.m.lt) (And.intro (T3.out.m.lt) (And.intro T3.out.mod.size S2.out.mod.size)))
  clear hbk mal hw12 S2 S4 S5 S6 S7 S8 S9 S10
  obtain ⟨X, hX⟩ : ∃ X : Nat → List Int, X = six xo xo xu xu xc xc := ⟨_, rfl⟩
  have hcells : ∀ k, k < 6 → ∃ qk ck, RowN w12 0 (.slice qk (X k).length ck) (X k) ∧ (#[.slice q6 xo.length c6, .slice q7 xo.length c7, .slice q8 xu.length c8, .slice q9 xu.length c9, .slice q10 xc.length c10, .slice q11 xc.length c11] : Array Value)[k]? = some (.slice qk (X k).length ck) := by
    intro k hk
    have C11 := M12.out
    have C10 := M11.out.then C11
    have C9 := M10.out.then C10
    have C8 := M9.out.then C9
    have C7 := M8.out.then C8
    have C6 := M7.out.then C7
    subst hX
    rcases (by omega : k = 0 ∨ k = 1 ∨ k = 2 ∨ k = 3 ∨ k = 4 ∨ k = 5) with rfl | rfl | rfl | rfl | rfl | rfl
    · exact ⟨q6, c6, (R6.out.mod C6 (by simp)).mono (Nat.zero_le _), rfl⟩
    · exact ⟨q7, c7, (R7.out.mod C7 (by simp)).mono (Nat.zero_le _), rfl⟩
    · exact ⟨q8, c8, (R8.out.mod C8 (by simp)).mono (Nat.zero_le _), rfl⟩
    · exact ⟨q9, c9, (R9.out.mod C9 (by simp)).mono (Nat.zero_le _), rfl⟩
    · exact ⟨q10, c10, (R10.out.mod C10 (by simp)).mono (Nat.zero_le _), rfl⟩
    · exact ⟨q11, c11, (R11.out.mod C11 (by simp)).mono (Nat.zero_le _), rfl⟩
  have hLs : L.length ≤ 64 := S11.out.m.small
  have hX64 : ∀ k, k < 6 → (X k).length ≤ 64 := by
    have e1 : xo.length ≤ 64 := by rw [← HS.out.1]; exact Nat.le_trans (filt_len' _ _) hLs
    have e2 : xu.length ≤ 64 := by rw [← HS.out.2.1]; exact Nat.le_trans (filt_len' _ _) hLs
    have e3 : xc.length ≤ 64 := by rw [← HS.out.2.2]; exact Nat.le_trans (filt_len' _ _) hLs
    intro k hk
    subst hX
    rcases (by omega : k = 0 ∨ k = 1 ∨ k = 2 ∨ k = 3 ∨ k = 4 ∨ k = 5) with rfl | rfl | rfl | rfl | rfl | rfl <;> assumption
  have HCE := hide hcells
  have HX6 := hide hX64
  have HXE := hide hX
  clear hcells hX64 hX
  go_loopw [10, 54] (fun u i wr => KeepRel w12 X u i wr) (fun _ i _ => 6 - (intOf i).toNat)
  case atStart => exact ⟨0, [], Nat.zero_le _, rfl, rfl, World.ownsRow_nil _ _ _ _, fun j hj => absurd hj (Nat.not_lt_zero _), Mod.refl _ _⟩
  case round =>
    obtain ⟨k, K, hk, rfl, hKl, hown, hK, hmw⟩ := hrel
    by_cases hlt : k < 6
    · obtain ⟨qk, ck, rk, hck⟩ := HCE.out k hlt
      have bIB := hmw.at_ HBK.out (by simp)
      have hce : wr.cell? ⟨IB, k, none⟩ = some (.slice qk (X k).length ck) := by rw [blk_cell bIB]; exact hck
      have i1 : (0 : Int) ≤ (k : Int) := by omega
      have i2 : (k : Int) < 6 := by omega
      have hlX := HX6.out k hlt
      have rkw := rk.mod hmw (by simp)
      obtain ⟨hi, hz0, hz1, hz2⟩ := HI.out
      have rz := row_zero (heap_alloc_new wr (.cells #[] 3))
      have rk1 := rkw.mod (((Gr.refl wr).alloc (.cells #[] 3)).mod []) (by simp)
      have q6' : 0 + (X k).length ≤ maxLen := by unfold maxLen; omega
      have q7' : (0 + (X k).length) * 8 ≤ 140737488355328 := by omega
      have q8' : wr.heap.size ≤ (wr.alloc (.cells #[] 3)).heap.size := by simp
      have HW := hide (And.intro hown (And.intro hK (And.intro hmw hKl)))
      have hszw := hmw.size
      have hone : ∀ y, y ∈ (X k).map (Value.int .i64) → y.oneCell' = true := by simp [Value.oneCell']
      clear hck bIB rk rkw hown hK hmw hKl
      go_wp2_with (first
        | (at_builtin
           refine wpList_append_row _ rfl _ _ 37 rfl 3 ii _ 1 8 Tryd.underlying37 hi hz0 hz1 hz2 rfl (by decide) rfl rz rfl rk1 hone q6' q7' q8' ?_
           intro u5 w5 hown5 hgr5
           have mg : Mod [wr.heap.size] (wr.alloc (.cells #[] 3)) w5 := (Mod.refl _ _).grown hgr5 (fun x e _ => (by
             have e2 : some wr.heap.size = some x := e
             simp at e2
             simp [e2]))
           have m5 : Mod [] wr w5 := (((Gr.refl wr).alloc (.cells #[] 3)).mod []).trans mg (by simp) (fun x hx hlt => (by
             have e3 := List.mem_singleton.1 hx
             omega))
           rw [Nat.zero_add, List.nil_append] at hown5
           have r5 : RowN w5 wr.heap.size u5 (X k) := hown5
           obtain ⟨q', c', rfl⟩ := r5.form
           have r1 := row_one (heap_alloc_new w5 (.cells #[.slice q' (X k).length c'] 37))
           have m5a : Mod [] wr (w5.alloc (.cells #[.slice q' (X k).length c'] 37)) := m5.alloc _
           have hownK := m5a.row HW.out.1 (by simp)
           have q9' : k + 1 ≤ maxLen := by unfold maxLen; omega
           have q10' : (k + 1) * 24 ≤ 140737488355328 := by omega
           have q11' : w12.heap.size ≤ (w5.alloc (.cells #[.slice q' (X k).length c'] 37)).heap.size := Nat.le_trans hszw m5a.size
           have H5 := hide (And.intro r5 m5a)
           obtain ⟨hi2, hz02, hz12, hz22⟩ := HIS.out
           clear hgr5 mg m5 hown5 r5 m5a rz rk1 hi hz0 hz1 hz2 hone)
        | (at_builtin
           refine wpList_append_row _ rfl _ _ 44 rfl 37 is _ 1 24 Tryd.underlying44 hi2 hz02 hz12 hz22 rfl (by decide) rfl hownK rfl r1 (by simp [Value.oneCell']) q9' q10' q11' ?_
           intro u6 w6 hown6 hgr6
           have hrw := HW.out.1
           have m6 : Mod (obl u10) (w5.alloc (.cells #[.slice q' (X k).length c'] 37)) w6 := (Mod.refl (obl u10) _).grown hgr6 (fun x e _ => mem_obl.2 e)
           have H6 := hide (And.intro hown6 m6)
           have HKR := hide (Row.of hownK)
           clear hown6 hgr6 m6 hownK r1 hi2 hz02 hz12 hz22 hrw)
        | fail)
      go_roundw
      case rel =>
        obtain ⟨hown, hK, hmw, hKl⟩ := HW.out
        obtain ⟨r5, m5a⟩ := H5.out
        obtain ⟨hown6, m6⟩ := H6.out
        have hal : Mod [] w5 (w5.alloc (.cells #[.slice q' (X k).length c'] 37)) := ((Gr.refl w5).alloc _).mod []
        refine ⟨k + 1, K ++ [.slice q' (X k).length c'], by omega, by go_num, by simp [hKl], hown6, fun j hj => ?_, ?_⟩
        · by_cases e : j = k
          · subst e
            have e2 : (K ++ [Value.slice q' (X j).length c']).getD j (.slice none 0 0) = .slice q' (X j).length c' := by simp [← hKl]
            rw [e2]
            have r6 := r5.mod hal (by simp)
            exact (r6.mod m6 (fun x hx hx2 => r6.row.ne HKR.out (by decide) x (mem_obl.2 hx) hx2)).mono hszw
          · have hjk : j < K.length := by omega
            have e2 : (K ++ [Value.slice q' (X k).length c']).getD j (.slice none 0 0) = K.getD j (.slice none 0 0) := by simp [List.getElem?_append_left hjk]
            rw [e2]
            have r6 := (hK j (by omega)).mod m5a (by simp)
            exact r6.mod m6 (fun x hx hx2 => r6.row.ne HKR.out (by decide) x (mem_obl.2 hx) hx2)
        · refine (hmw.then m5a).trans m6 (by simp) (fun x hx hlt => ?_)
          have h1 := hown.lt x (mem_obl.1 hx)
          omega
      case measure => simp [intOf]; omega
    · have ek : k = 6 := by omega
      rw [ek] at hown hK hKl
      clear ek
      obtain ⟨w13, hw13⟩ : ∃ w : World, w = wr := ⟨_, rfl⟩
      rw [← hw13] at hown hK hmw ⊢
      have HW := hide (And.intro hown (And.intro hK (And.intro hmw hKl)))
      clear hown hK hmw hKl hw13
      have D12 := M12.out.then HW.out.2.2.1
      have D11 := M11.out.then D12
      have D10 := M10.out.then D11
      have D9 := M9.out.then D10
      have D8 := M8.out.then D9
      have D7 := M7.out.then D8
      have D6 := M6.out.then D7
      have D5 := M5.out.then D6
      have D4 := M4.out.then D5
      have z4 := M4.out.size
      have z5 := M5.out.size
      have z6 := M6.out.size
      have z7 := M7.out.size
      have z8 := M8.out.size
      have z9 := M9.out.size
      have z10 := M10.out.size
      have z11 := M11.out.size
      obtain ⟨M, hM⟩ : ∃ M : List Nat, M = IB :: (obl (.slice q4 L.length c4) ++ obl (.slice q6 xo.length c6) ++ obl (.slice q8 xu.length c8) ++ obl (.slice q10 xc.length c10)) := ⟨_, rfl⟩
      have o4 : ∀ x, x ∈ obl (.slice q4 L.length c4) → w3.heap.size ≤ x ∧ x < w4.heap.size := fun x hx => R4.out.own (mem_obl.1 hx)
      have o6 : ∀ x, x ∈ obl (.slice q6 xo.length c6) → w5.heap.size ≤ x ∧ x < w6.heap.size := fun x hx => R6.out.own (mem_obl.1 hx)
      have o8 : ∀ x, x ∈ obl (.slice q8 xu.length c8) → w7.heap.size ≤ x ∧ x < w8.heap.size := fun x hx => R8.out.own (mem_obl.1 hx)
      have o10 : ∀ x, x ∈ obl (.slice q10 xc.length c10) → w9.heap.size ≤ x ∧ x < w10.heap.size := fun x hx => R10.out.own (mem_obl.1 hx)
      have hNM : ∀ x, x ∈ M → w3.heap.size ≤ x ∧ ¬ (w4.heap.size ≤ x ∧ x < w5.heap.size) ∧ ¬ (w6.heap.size ≤ x ∧ x < w7.heap.size) ∧ ¬ (w8.heap.size ≤ x ∧ x < w9.heap.size) ∧ ¬ (w10.heap.size ≤ x ∧ x < w11.heap.size) ∧ x ≤ IB := by
        intro x hx
        rw [hM] at hx
        simp only [List.mem_cons, List.mem_append] at hx
        rcases hx with e | ((e | e) | e) | e
        · omega
        · have := o4 x e; omega
        · have := o6 x e; omega
        · have := o8 x e; omega
        · have := o10 x e; omega
      have hS1 := S11.out.same D12
      have hT1 := T3.out.same D4
      have hB1 := R5.out.mod D6 (by simp)
      have h71 := R7.out.mod D8 (by simp)
      have h91 := R9.out.mod D10 (by simp)
      have h111 := R11.out.mod D12 (by simp)
      have hO : OwnS w13 w13 M IB (.slice q7 xo.length c7) (.slice q9 xu.length c9) (.slice q11 xc.length c11) (.slice q4 L.length c4) L.length (tri (.slice q6 xo.length c6) (.slice q8 xu.length c8) (.slice q10 xc.length c10)) (tri xo.length xu.length xc.length) := by
        refine ⟨Mod.refl _ _, by rw [hM]; exact List.mem_cons_self, HW.out.2.2.1.at_ HBK.out (by simp), (R4.out.mod D5 (by simp)).row, fun j hj => ?_, fun k hk => .inl (by rw [hM]; simp [hk]), fun j hj k hk => .inl ?_, fun i hi j hj hne k hk hk2 => ?_⟩
        · rcases (by omega : j = 0 ∨ j = 1 ∨ j = 2) with rfl | rfl | rfl
          · exact (R6.out.mod D7 (by simp)).row
          · exact (R8.out.mod D9 (by simp)).row
          · exact (R10.out.mod D11 (by simp)).row
        · rw [hM]
          rcases (by omega : j = 0 ∨ j = 1 ∨ j = 2) with rfl | rfl | rfl
          · have h1 : k ∈ obl (.slice q6 xo.length c6) := hk
            simp [h1]
          · have h1 : k ∈ obl (.slice q8 xu.length c8) := hk
            simp [h1]
          · have h1 : k ∈ obl (.slice q10 xc.length c10) := hk
            simp [h1]
        · have key : ∀ j, j < 3 → ∀ k, k ∈ obl (tri (.slice q6 xo.length c6) (.slice q8 xu.length c8) (.slice q10 xc.length c10) j) → (j = 0 ∧ k < w6.heap.size) ∨ (j = 1 ∧ w7.heap.size ≤ k ∧ k < w8.heap.size) ∨ (j = 2 ∧ w9.heap.size ≤ k) := by
            intro j hj k hk
            rcases (by omega : j = 0 ∨ j = 1 ∨ j = 2) with rfl | rfl | rfl
            · have := o6 k hk; omega
            · have := o8 k hk; omega
            · have := o10 k hk; omega
          have k1 := key i hi k hk
          have k2 := key j hj k hk2
          omega
      have HP := hide (And.intro hS1 (And.intro hT1 (And.intro hB1 (And.intro h71 (And.intro h91 h111)))))
      have HO := hide hO
      have HNM := hide hNM
      clear hS1 hT1 hB1 h71 h91 h111 hO hNM o4 o6 o8 o10 D12 D11 D10 D9 D8 D7 D6 D5 D4 hM
      have hl0 := HX6.out 0 (by omega)
      have hl2 := HX6.out 2 (by omega)
      have hl4 := HX6.out 4 (by omega)
      rw [HXE.out] at hl0 hl2 hl4
      replace hl0 : xo.length ≤ 64 := hl0
      replace hl2 : xu.length ≤ 64 := hl2
      replace hl4 : xc.length ≤ 64 := hl4
      go_wp2_with fail
      go_loopw [67] (fun i wr => ∃ k : Nat, k ≤ L.length ∧ i = .int .i64 k ∧ OwnS w13 wr M IB (.slice q7 xo.length c7) (.slice q9 xu.length c9) (.slice q11 xc.length c11) (.slice q4 L.length c4) L.length (tri (.slice q6 xo.length c6) (.slice q8 xu.length c8) (.slice q10 xc.length c10)) (tri xo.length xu.length xc.length)) (fun i _ => L.length - (intOf i).toNat)
      case atStart => exact ⟨0, Nat.zero_le _, rfl, HO.out⟩
      case round =>
        clear HO
        obtain ⟨k, hk, rfl, hO⟩ := hrel
        by_cases hlt : k < L.length
        · obtain ⟨g, cg, eg⟩ := hO.ra.some_ (by omega)
          injection eg with eg1 _ eg3
          subst eg1 eg3
          have i1 : (0 : Int) ≤ (k : Int) := by omega
          have i2 : (k : Int) < (L.length : Int) := by omega
          obtain ⟨x0, d0⟩ := hO.ra.cell (i := k * 4) (by omega)
          obtain ⟨x1, d1⟩ := hO.ra.cell (i := k * 4 + 1) (by omega)
          obtain ⟨x2, d2⟩ := hO.ra.cell (i := k * 4 + 2) (by omega)
          obtain ⟨x3, d3⟩ := hO.ra.cell (i := k * 4 + 3) (by omega)
          have F := hO.ra.free
          have HO := hide hO
          clear hO
          go_wp2_with fail
          go_roundw
          case rel => exact ⟨k + 1, by omega, by go_num, HO.out.to_a (((((Mod.refl _ _).setCell (p := ⟨g, k * 4, none⟩) (by simp [obl, Value.ownBlock]) _).setCell (p := ⟨g, k * 4 + 1, none⟩) (by simp [obl, Value.ownBlock]) _).setCell (p := ⟨g, k * 4 + 2, none⟩) (by simp [obl, Value.ownBlock]) _).setCell (p := ⟨g, k * 4 + 3, none⟩) (by simp [obl, Value.ownBlock]) _)
              ((((HO.out.ra.touch (k * 4) _).touch (k * 4 + 1) _).touch (k * 4 + 2) _).touch (k * 4 + 3) _) (fun x hx => .inl hx)⟩
          case measure => simp [intOf]; omega
        · have HO := hide hO
          clear hO
          go_wp2_with fail
          go_loopw [14] (fun i wr => ∃ j : Nat, Two j i ∧ OwnS w13 wr M IB (.slice q7 xo.length c7) (.slice q9 xu.length c9) (.slice q11 xc.length c11) (.slice q4 L.length c4) L.length (tri (.slice q6 xo.length c6) (.slice q8 xu.length c8) (.slice q10 xc.length c10)) (tri xo.length xu.length xc.length)) (fun i _ => 6 - (intOf i).toNat)
          case atStart => exact ⟨0, two0, HO.out⟩
          case round =>
            clear HO
            obtain ⟨j, hj, hO⟩ := hrel
            have HO3 := hide hO
            clear hO
            rcases hj with ⟨rfl, rfl⟩ | ⟨rfl, rfl⟩ | ⟨rfl, rfl⟩ | ⟨rfl, rfl⟩
            · have CB : wr.cell? ⟨IB, 0, none⟩ = some (.slice q6 xo.length c6) := by rw [blk_cell HO3.out.blk]; rfl
              go_wp2_with fail
              go_loopw [86] (fun i wr => ∃ i' : Nat, i' ≤ xo.length ∧ i = .int .i64 i' ∧ OwnS w13 wr M IB (.slice q7 xo.length c7) (.slice q9 xu.length c9) (.slice q11 xc.length c11) (.slice q4 L.length c4) L.length (tri (.slice q6 xo.length c6) (.slice q8 xu.length c8) (.slice q10 xc.length c10)) (tri xo.length xu.length xc.length)) (fun i _ => xo.length - (intOf i).toNat)
              case atStart => exact ⟨0, Nat.zero_le _, rfl, HO3.out⟩
              case round =>
                clear CB HO3
                obtain ⟨i', hi', rfl, hO⟩ := hrel
                by_cases hlt : i' < xo.length
                · have hr : Row wr 3 1 (.slice q6 xo.length c6) xo.length := hO.ru 0 (by omega)
                  obtain ⟨g, cg, eg⟩ := hr.some_ (by omega)
                  injection eg with eg1 _ eg3
                  subst eg1 eg3
                  have i1 : (0 : Int) ≤ (i' : Int) := by omega
                  have i2 : (i' : Int) < (xo.length : Int) := by omega
                  obtain ⟨x0, d0⟩ := hr.cell (i := i') (by omega)
                  have F := hr.free
                  have CB : wr.cell? ⟨IB, 0, none⟩ = some (.slice (some ⟨g, 0, none⟩) xo.length c6) := by rw [blk_cell hO.blk]; rfl
                  have HO4 := hide hO
                  have HR4 := hide hr
                  clear hO hr
                  go_wp2_with fail
                  go_roundw
                  case rel => exact ⟨i' + 1, by omega, by go_num, HO4.out.touch_u (j := 0) (by omega) ((Mod.refl _ _).setCell (p := ⟨g, i', none⟩) (by simp [tri, obl, Value.ownBlock]) _) (HR4.out.touch i' _)⟩
                  case measure => simp [intOf]; omega
                · have HO5 := hide hO
                  clear hO
                  go_wp2_with fail
                  go_roundw
                  case rel => exact ⟨1, two1, HO5.out⟩
                  case measure => simp [intOf]
            · have CB : wr.cell? ⟨IB, 2, none⟩ = some (.slice q8 xu.length c8) := by rw [blk_cell HO3.out.blk]; rfl
              go_wp2_with fail
              go_loopw [86] (fun i wr => ∃ i' : Nat, i' ≤ xu.length ∧ i = .int .i64 i' ∧ OwnS w13 wr M IB (.slice q7 xo.length c7) (.slice q9 xu.length c9) (.slice q11 xc.length c11) (.slice q4 L.length c4) L.length (tri (.slice q6 xo.length c6) (.slice q8 xu.length c8) (.slice q10 xc.length c10)) (tri xo.length xu.length xc.length)) (fun i _ => xu.length - (intOf i).toNat)
              case atStart => exact ⟨0, Nat.zero_le _, rfl, HO3.out⟩
              case round =>
                clear CB HO3
                obtain ⟨i', hi', rfl, hO⟩ := hrel
                by_cases hlt : i' < xu.length
                · have hr : Row wr 3 1 (.slice q8 xu.length c8) xu.length := hO.ru 1 (by omega)
                  obtain ⟨g, cg, eg⟩ := hr.some_ (by omega)
                  injection eg with eg1 _ eg3
                  subst eg1 eg3
                  have i1 : (0 : Int) ≤ (i' : Int) := by omega
                  have i2 : (i' : Int) < (xu.length : Int) := by omega
                  obtain ⟨x0, d0⟩ := hr.cell (i := i') (by omega)
                  have F := hr.free
                  have CB : wr.cell? ⟨IB, 2, none⟩ = some (.slice (some ⟨g, 0, none⟩) xu.length c8) := by rw [blk_cell hO.blk]; rfl
                  have HO4 := hide hO
                  have HR4 := hide hr
                  clear hO hr
                  go_wp2_with fail
                  go_roundw
                  case rel => exact ⟨i' + 1, by omega, by go_num, HO4.out.touch_u (j := 1) (by omega) ((Mod.refl _ _).setCell (p := ⟨g, i', none⟩) (by simp [tri, obl, Value.ownBlock]) _) (HR4.out.touch i' _)⟩
                  case measure => simp [intOf]; omega
                · have HO5 := hide hO
                  clear hO
                  go_wp2_with fail
                  go_roundw
                  case rel => exact ⟨2, two2, HO5.out⟩
                  case measure => simp [intOf]
            · have CB : wr.cell? ⟨IB, 4, none⟩ = some (.slice q10 xc.length c10) := by rw [blk_cell HO3.out.blk]; rfl
              go_wp2_with fail
              go_loopw [86] (fun i wr => ∃ i' : Nat, i' ≤ xc.length ∧ i = .int .i64 i' ∧ OwnS w13 wr M IB (.slice q7 xo.length c7) (.slice q9 xu.length c9) (.slice q11 xc.length c11) (.slice q4 L.length c4) L.length (tri (.slice q6 xo.length c6) (.slice q8 xu.length c8) (.slice q10 xc.length c10)) (tri xo.length xu.length xc.length)) (fun i _ => xc.length - (intOf i).toNat)
              case atStart => exact ⟨0, Nat.zero_le _, rfl, HO3.out⟩
              case round =>
                clear CB HO3
                obtain ⟨i', hi', rfl, hO⟩ := hrel
                by_cases hlt : i' < xc.length
                · have hr : Row wr 3 1 (.slice q10 xc.length c10) xc.length := hO.ru 2 (by omega)
                  obtain ⟨g, cg, eg⟩ := hr.some_ (by omega)
                  injection eg with eg1 _ eg3
                  subst eg1 eg3
                  have i1 : (0 : Int) ≤ (i' : Int) := by omega
                  have i2 : (i' : Int) < (xc.length : Int) := by omega
                  obtain ⟨x0, d0⟩ := hr.cell (i := i') (by omega)
                  have F := hr.free
                  have CB : wr.cell? ⟨IB, 4, none⟩ = some (.slice (some ⟨g, 0, none⟩) xc.length c10) := by rw [blk_cell hO.blk]; rfl
                  have HO4 := hide hO
                  have HR4 := hide hr
                  clear hO hr
                  go_wp2_with fail
                  go_roundw
                  case rel => exact ⟨i' + 1, by omega, by go_num, HO4.out.touch_u (j := 2) (by omega) ((Mod.refl _ _).setCell (p := ⟨g, i', none⟩) (by simp [tri, obl, Value.ownBlock]) _) (HR4.out.touch i' _)⟩
                  case measure => simp [intOf]; omega
                · have HO5 := hide hO
                  clear hO
                  go_wp2_with fail
                  go_roundw
                  case rel => exact ⟨3, two3, HO5.out⟩
                  case measure => simp [intOf]
            · go_wp2_with fail
              go_loopw [16] (fun i wr => ∃ j : Nat, Two j i ∧ ∃ U n, OwnS w13 wr M IB (.slice q7 xo.length c7) (.slice q9 xu.length c9) (.slice q11 xc.length c11) (.slice q4 L.length c4) L.length U n ∧ ∀ x, x < 3 → n x ≤ 64 + 9 * j) (fun i _ => 6 - (intOf i).toNat)
              case atStart =>
                refine ⟨0, two0, _, _, HO3.out, fun x hx => ?_⟩
                rcases (by omega : x = 0 ∨ x = 1 ∨ x = 2) with rfl | rfl | rfl
                · exact hl0
                · exact hl2
                · exact hl4
              case round =>
                clear HO3
                obtain ⟨j, hj, U, n, hO, hn⟩ := hrel
                have HO3 := hide (⟨U, n, hO, hn⟩ : ∃ U n, OwnS w13 wr M IB (.slice q7 xo.length c7) (.slice q9 xu.length c9) (.slice q11 xc.length c11) (.slice q4 L.length c4) L.length U n ∧ ∀ x, x < 3 → n x ≤ 64 + 9 * j)
                clear hO hn
                rcases hj with ⟨rfl, rfl⟩ | ⟨rfl, rfl⟩ | ⟨rfl, rfl⟩ | ⟨rfl, rfl⟩
                · go_wp2_with fail
                  go_loopw [17] (fun i wr => ∃ i' : Nat, i' ≤ 9 ∧ i = .int .i64 i' ∧ ∃ U n, OwnS w13 wr M IB (.slice q7 xo.length c7) (.slice q9 xu.length c9) (.slice q11 xc.length c11) (.slice q4 L.length c4) L.length U n ∧ ∀ x, x < 3 → n x ≤ 64 + 9 * 0 + i') (fun i _ => 9 - (intOf i).toNat)
                  case atStart => exact ⟨0, Nat.zero_le _, rfl, HO3.out⟩
                  case round =>
                    clear HO3
                    obtain ⟨i', hi', rfl, U, n, hO, hn⟩ := hrel
                    by_cases hlt : i' < 9
                    · have i2 : (i' : Int) < 9 := by omega
                      have hr := hO.ru 0 (by omega)
                      have hnj := hn 0 (by omega)
                      have HN := hide hn
                      obtain ⟨qq, cc, eU, -⟩ := hr.form
                      obtain ⟨xs, hx⟩ := hr
                      rw [eU] at hx
                      have CB : wr.cell? ⟨IB, 0, none⟩ = some (.slice qq (n 0) cc) := by
                        rw [blk_cell hO.blk]
                        show some (U 0) = _
                        rw [eU]
                      have hown := (((Gr.refl wr).alloc (.cells #[.int .i64 (-99)] 3)).mod []).row hx (by simp)
                      obtain ⟨hi, hz0, hz1, hz2⟩ := HI.out
                      have q6' : n 0 + 1 ≤ maxLen := by unfold maxLen; omega
                      have q7' : (n 0 + 1) * 8 ≤ 140737488355328 := by omega
                      have nws := World.news_of_block (heap_alloc_new wr (.cells #[.int .i64 (-99)] 3))
                      have HO4 := hide hO
                      have HU := hide eU
                      clear hO hn hx eU
                      go_wp2_with (first
                        | (at_builtin
                           refine wpList_append_lies _ rfl _ _ 37 rfl 0 3 ii _ 1 8 Tryd.underlying37 hi hz0 hz1 hz2 rfl (by decide) _ _ _ rfl hown ⟨wr.heap.size, 0, none⟩ 1 1 [.int .i64 (-99)] rfl rfl nws (by simp [Value.oneCell']) (by decide) q6' q7' (Nat.zero_le _) _ rfl ?_
                           intro g5 c5' w5 ho5 hgr5 hat5 hlt5
                           have m5 : Mod (obl (.slice qq (n 0) cc)) wr w5 := ((((Gr.refl wr).alloc (.cells #[.int .i64 (-99)] 3)).mod []).mono (by simp)).then ((Mod.refl _ _).grown hgr5 (fun x e _ => mem_obl.2 e))
                           have r5 : Row w5 3 1 (.slice (some ⟨g5, 0, none⟩) (n 0 + 1) c5') (n 0 + 1) := ⟨_, ho5⟩
                           have hob : ∀ x, x ∈ obl (.slice (some ⟨g5, 0, none⟩) (n 0 + 1) c5') → x ∈ obl (.slice qq (n 0) cc) ∨ wr.heap.size ≤ x := (fun x hx => (by
                             have e2 : x = g5 := by simpa [obl, Value.ownBlock] using hx
                             subst e2
                             rcases hat5 with e | e
                             · exact .inl (mem_obl.2 e)
                             · rw [World.size_alloc] at e
                               exact .inr (by omega)))
                           have hb5 := m5.at_ HO4.out.blk (fun e => (HO4.out.ru 0 (by omega)).ne_blk HO4.out.blk (by decide) _ (by rw [HU.out]; exact e) rfl)
                           have CB5 := blk_cell hb5
                           have FB5 := blk_free hb5
                           have H5 := hide (And.intro m5 (And.intro r5 hob))
                           clear m5 r5 hob hb5 ho5 hgr5 hat5 hown nws hi hz0 hz1 hz2 CB)
                        | fail)
                      go_roundw
                      case rel =>
                        obtain ⟨m5, r5, hob⟩ := H5.out
                        rw [← HU.out] at m5 hob
                        refine ⟨i' + 1, by omega, by go_num, _, _, HO4.out.to_u (j := 0) (by omega) (o := 0) rfl m5 r5 hob, fun x hx => ?_⟩
                        have h1 := HN.out x hx
                        by_cases e : x = 0
                        · simp only [e, if_true]; omega
                        · simp only [e, if_false]; omega
                      case measure => simp [intOf]; omega
                    · have HO5 := hide (And.intro hO hn)
                      clear hO hn
                      go_wp2_with fail
                      go_roundw
                      case rel => exact ⟨1, two1, U, n, HO5.out.1, fun x hx => by have := HO5.out.2 x hx; omega⟩
                      case measure => simp [intOf]
                · go_wp2_with fail
                  go_loopw [17] (fun i wr => ∃ i' : Nat, i' ≤ 9 ∧ i = .int .i64 i' ∧ ∃ U n, OwnS w13 wr M IB (.slice q7 xo.length c7) (.slice q9 xu.length c9) (.slice q11 xc.length c11) (.slice q4 L.length c4) L.length U n ∧ ∀ x, x < 3 → n x ≤ 64 + 9 * 1 + i') (fun i _ => 9 - (intOf i).toNat)
                  case atStart => exact ⟨0, Nat.zero_le _, rfl, HO3.out⟩
                  case round =>
                    clear HO3
                    obtain ⟨i', hi', rfl, U, n, hO, hn⟩ := hrel
                    by_cases hlt : i' < 9
                    · have i2 : (i' : Int) < 9 := by omega
                      have hr := hO.ru 1 (by omega)
                      have hnj := hn 1 (by omega)
                      have HN := hide hn
                      obtain ⟨qq, cc, eU, -⟩ := hr.form
                      obtain ⟨xs, hx⟩ := hr
                      rw [eU] at hx
                      have CB : wr.cell? ⟨IB, 2, none⟩ = some (.slice qq (n 1) cc) := by
                        rw [blk_cell hO.blk]
                        show some (U 1) = _
                        rw [eU]
                      have hown := (((Gr.refl wr).alloc (.cells #[.int .i64 (-99)] 3)).mod []).row hx (by simp)
                      obtain ⟨hi, hz0, hz1, hz2⟩ := HI.out
                      have q6' : n 1 + 1 ≤ maxLen := by unfold maxLen; omega
                      have q7' : (n 1 + 1) * 8 ≤ 140737488355328 := by omega
                      have nws := World.news_of_block (heap_alloc_new wr (.cells #[.int .i64 (-99)] 3))
                      have HO4 := hide hO
                      have HU := hide eU
                      clear hO hn hx eU
                      go_wp2_with (first
                        | (at_builtin
                           refine wpList_append_lies _ rfl _ _ 37 rfl 0 3 ii _ 1 8 Tryd.underlying37 hi hz0 hz1 hz2 rfl (by decide) _ _ _ rfl hown ⟨wr.heap.size, 0, none⟩ 1 1 [.int .i64 (-99)] rfl rfl nws (by simp [Value.oneCell']) (by decide) q6' q7' (Nat.zero_le _) _ rfl ?_
                           intro g5 c5' w5 ho5 hgr5 hat5 hlt5
                           have m5 : Mod (obl (.slice qq (n 1) cc)) wr w5 := ((((Gr.refl wr).alloc (.cells #[.int .i64 (-99)] 3)).mod []).mono (by simp)).then ((Mod.refl _ _).grown hgr5 (fun x e _ => mem_obl.2 e))
                           have r5 : Row w5 3 1 (.slice (some ⟨g5, 0, none⟩) (n 1 + 1) c5') (n 1 + 1) := ⟨_, ho5⟩
                           have hob : ∀ x, x ∈ obl (.slice (some ⟨g5, 0, none⟩) (n 1 + 1) c5') → x ∈ obl (.slice qq (n 1) cc) ∨ wr.heap.size ≤ x := (fun x hx => (by
                             have e2 : x = g5 := by simpa [obl, Value.ownBlock] using hx
                             subst e2
                             rcases hat5 with e | e
                             · exact .inl (mem_obl.2 e)
                             · rw [World.size_alloc] at e
                               exact .inr (by omega)))
                           have hb5 := m5.at_ HO4.out.blk (fun e => (HO4.out.ru 1 (by omega)).ne_blk HO4.out.blk (by decide) _ (by rw [HU.out]; exact e) rfl)
                           have CB5 := blk_cell hb5
                           have FB5 := blk_free hb5
                           have H5 := hide (And.intro m5 (And.intro r5 hob))
                           clear m5 r5 hob hb5 ho5 hgr5 hat5 hown nws hi hz0 hz1 hz2 CB)
                        | fail)
                      go_roundw
                      case rel =>
                        obtain ⟨m5, r5, hob⟩ := H5.out
                        rw [← HU.out] at m5 hob
                        refine ⟨i' + 1, by omega, by go_num, _, _, HO4.out.to_u (j := 1) (by omega) (o := 2) rfl m5 r5 hob, fun x hx => ?_⟩
                        have h1 := HN.out x hx
                        by_cases e : x = 1
                        · simp only [e, if_true]; omega
                        · simp only [e, if_false]; omega
                      case measure => simp [intOf]; omega
                    · have HO5 := hide (And.intro hO hn)
                      clear hO hn
                      go_wp2_with fail
                      go_roundw
                      case rel => exact ⟨2, two2, U, n, HO5.out.1, fun x hx => by have := HO5.out.2 x hx; omega⟩
                      case measure => simp [intOf]
                · go_wp2_with fail
                  go_loopw [17] (fun i wr => ∃ i' : Nat, i' ≤ 9 ∧ i = .int .i64 i' ∧ ∃ U n, OwnS w13 wr M IB (.slice q7 xo.length c7) (.slice q9 xu.length c9) (.slice q11 xc.length c11) (.slice q4 L.length c4) L.length U n ∧ ∀ x, x < 3 → n x ≤ 64 + 9 * 2 + i') (fun i _ => 9 - (intOf i).toNat)
                  case atStart => exact ⟨0, Nat.zero_le _, rfl, HO3.out⟩
                  case round =>
                    clear HO3
                    obtain ⟨i', hi', rfl, U, n, hO, hn⟩ := hrel
                    by_cases hlt : i' < 9
                    · have i2 : (i' : Int) < 9 := by omega
                      have hr := hO.ru 2 (by omega)
                      have hnj := hn 2 (by omega)
                      have HN := hide hn
                      obtain ⟨qq, cc, eU, -⟩ := hr.form
                      obtain ⟨xs, hx⟩ := hr
                      rw [eU] at hx
                      have CB : wr.cell? ⟨IB, 4, none⟩ = some (.slice qq (n 2) cc) := by
                        rw [blk_cell hO.blk]
                        show some (U 2) = _
                        rw [eU]
                      have hown := (((Gr.refl wr).alloc (.cells #[.int .i64 (-99)] 3)).mod []).row hx (by simp)
                      obtain ⟨hi, hz0, hz1, hz2⟩ := HI.out
                      have q6' : n 2 + 1 ≤ maxLen := by unfold maxLen; omega
                      have q7' : (n 2 + 1) * 8 ≤ 140737488355328 := by omega
                      have nws := World.news_of_block (heap_alloc_new wr (.cells #[.int .i64 (-99)] 3))
                      have HO4 := hide hO
                      have HU := hide eU
                      clear hO hn hx eU
                      go_wp2_with (first
                        | (at_builtin
                           refine wpList_append_lies _ rfl _ _ 37 rfl 0 3 ii _ 1 8 Tryd.underlying37 hi hz0 hz1 hz2 rfl (by decide) _ _ _ rfl hown ⟨wr.heap.size, 0, none⟩ 1 1 [.int .i64 (-99)] rfl rfl nws (by simp [Value.oneCell']) (by decide) q6' q7' (Nat.zero_le _) _ rfl ?_
                           intro g5 c5' w5 ho5 hgr5 hat5 hlt5
                           have m5 : Mod (obl (.slice qq (n 2) cc)) wr w5 := ((((Gr.refl wr).alloc (.cells #[.int .i64 (-99)] 3)).mod []).mono (by simp)).then ((Mod.refl _ _).grown hgr5 (fun x e _ => mem_obl.2 e))
                           have r5 : Row w5 3 1 (.slice (some ⟨g5, 0, none⟩) (n 2 + 1) c5') (n 2 + 1) := ⟨_, ho5⟩
                           have hob : ∀ x, x ∈ obl (.slice (some ⟨g5, 0, none⟩) (n 2 + 1) c5') → x ∈ obl (.slice qq (n 2) cc) ∨ wr.heap.size ≤ x := (fun x hx => (by
                             have e2 : x = g5 := by simpa [obl, Value.ownBlock] using hx
                             subst e2
                             rcases hat5 with e | e
                             · exact .inl (mem_obl.2 e)
                             · rw [World.size_alloc] at e
                               exact .inr (by omega)))
                           have hb5 := m5.at_ HO4.out.blk (fun e => (HO4.out.ru 2 (by omega)).ne_blk HO4.out.blk (by decide) _ (by rw [HU.out]; exact e) rfl)
                           have CB5 := blk_cell hb5
                           have FB5 := blk_free hb5
                           have H5 := hide (And.intro m5 (And.intro r5 hob))
                           clear m5 r5 hob hb5 ho5 hgr5 hat5 hown nws hi hz0 hz1 hz2 CB)
                        | fail)
                      go_roundw
                      case rel =>
                        obtain ⟨m5, r5, hob⟩ := H5.out
                        rw [← HU.out] at m5 hob
                        refine ⟨i' + 1, by omega, by go_num, _, _, HO4.out.to_u (j := 2) (by omega) (o := 4) rfl m5 r5 hob, fun x hx => ?_⟩
                        have h1 := HN.out x hx
                        by_cases e : x = 2
                        · simp only [e, if_true]; omega
                        · simp only [e, if_false]; omega
                      case measure => simp [intOf]; omega
                    · have HO5 := hide (And.intro hO hn)
                      clear hO hn
                      go_wp2_with fail
                      go_roundw
                      case rel => exact ⟨3, two3, U, n, HO5.out.1, fun x hx => by have := HO5.out.2 x hx; omega⟩
                      case measure => simp [intOf]
                · obtain ⟨U6, n6, hO6, -⟩ := HO3.out
                  have HO6 := hide hO6
                  clear hO6 HO3
                  go_wp2_with fail
                  go_loopw [7, 18] (fun av i wr => ∃ k : Nat, k ≤ 9 ∧ i = .int .i64 k ∧ ∃ na U n, OwnS w13 wr M IB (.slice q7 xo.length c7) (.slice q9 xu.length c9) (.slice q11 xc.length c11) av na U n ∧ na ≤ 64 + k) (fun _ i _ => 9 - (intOf i).toNat)
                  case atStart => exact ⟨0, Nat.zero_le _, rfl, _, _, _, HO6.out, hLs⟩
                  case round =>
                    clear HO6
                    obtain ⟨k7, hk7, rfl, na, U7, n7, hO, hna⟩ := hrel
                    by_cases hlt7 : k7 < 9
                    · have i2 : (k7 : Int) < 9 := by omega
                      obtain ⟨qq, cc, rfl, -⟩ := hO.ra.form
                      obtain ⟨xs, hx⟩ := hO.ra
                      have hown := (((Gr.refl wr).alloc (objE (-8) ByteArray.empty 0 0)).mod []).row hx (by simp)
                      obtain ⟨hi, hz0, hz1, hz2⟩ := HIE.out
                      have q6' : na + 1 ≤ maxLen := by unfold maxLen; omega
                      have q7' : (na + 1) * 40 ≤ 140737488355328 := by omega
                      have nws := World.news_of_block (heap_alloc_new wr (objE (-8) ByteArray.empty 0 0))
                      have HO7 := hide hO
                      clear hO hx
                      go_wp2_with (first
                        | (at_builtin
                           refine wpList_append_lies _ rfl _ _ 32 rfl 0 29 ie _ 4 40 Tryd.underlying32 hi hz0 hz1 hz2 rfl (by decide) _ _ _ rfl hown ⟨wr.heap.size, 0, none⟩ 1 1 [.int .i64 (-8), .string ByteArray.empty, .int .i64 0, .int .i64 0] rfl rfl nws (by simp [Value.oneCell']) (by decide) q6' q7' (Nat.zero_le _) _ rfl ?_
                           intro g5 c5' w5' ho5 hgr5 hat5 hlt5
                           have m5 : Mod (obl (.slice qq na cc)) wr w5' := ((((Gr.refl wr).alloc (objE (-8) ByteArray.empty 0 0)).mod []).mono (by simp)).then ((Mod.refl _ _).grown hgr5 (fun x e _ => mem_obl.2 e))
                           have r5 : Row w5' 29 4 (.slice (some ⟨g5, 0, none⟩) (na + 1) c5') (na + 1) := ⟨_, ho5⟩
                           have hob : ∀ x, x ∈ obl (.slice (some ⟨g5, 0, none⟩) (na + 1) c5') → x ∈ obl (.slice qq na cc) ∨ wr.heap.size ≤ x := (fun x hx => (by
                             have e2 : x = g5 := by simpa [obl, Value.ownBlock] using hx
                             subst e2
                             rcases hat5 with e | e
                             · exact .inl (mem_obl.2 e)
                             · rw [World.size_alloc] at e
                               exact .inr (by omega)))
                           have H5 := hide (And.intro m5 (And.intro r5 hob))
                           clear m5 r5 hob ho5 hgr5 hat5 hown nws hi hz0 hz1 hz2)
                        | fail)
                      go_roundw
                      case rel => exact ⟨k7 + 1, by omega, by go_num, _, _, _, HO7.out.to_a H5.out.1 H5.out.2.1 H5.out.2.2, by omega⟩
                      case measure => simp [intOf]; omega
                    · obtain ⟨w14, hw14⟩ : ∃ w : World, w = wr := ⟨_, rfl⟩
                      rw [← hw14] at hO ⊢
                      have nM : ∀ x, x ∈ M → w3.heap.size ≤ x := fun x hx => (HNM.out x hx).1
                      have hM := hO.mod
                      have hS2 : SS w1 w14 sa wa Na L := by
                        refine ⟨HP.out.1.m.mod hM (fun x hx e => ?_), HP.out.1.srt, HP.out.1.mod.trans hM (by simp) (fun x hx hlt => ?_), HP.out.1.new⟩
                        · have h1 := nM x e
                          have h2 := HSL.out.1 x hx
                          have h3 := HSL.out.2.2.1
                          omega
                        · have h1 := nM x hx
                          have h2 := HSL.out.2.2.1
                          have h3 := HSL.out.2.2.2
                          omega
                      have hT2 : SetM w14 st wt Nt L := HP.out.2.1.m.mod hM (fun x hx e => by
                        have h1 := nM x e
                        have h2 := HSL.out.2.1 x hx
                        omega)
                      have hB2 := HP.out.2.2.1.mod hM (fun x hx e => by
                        have h1 := (HNM.out x e).2.1
                        have h2 := R5.out.own hx
                        omega)
                      have h72 := HP.out.2.2.2.1.mod hM (fun x hx e => by
                        have h1 := (HNM.out x e).2.2.1
                        have h2 := R7.out.own hx
                        omega)
                      have h92 := HP.out.2.2.2.2.1.mod hM (fun x hx e => by
                        have h1 := (HNM.out x e).2.2.2.1
                        have h2 := R9.out.own hx
                        omega)
                      have h112 := HP.out.2.2.2.2.2.mod hM (fun x hx e => by
                        have h1 := (HNM.out x e).2.2.2.2.1
                        have h2 := R11.out.own hx
                        omega)
                      have hkeep := hM.row HW.out.1 (fun x hx e => by
                        have h1 := (HNM.out x e).2.2.2.2.2
                        have h2 := HW.out.1.lt x hx
                        omega)
                      have hKs : ∀ j, j < 6 → RowN w14 w12.heap.size (K.getD j (.slice none 0 0)) (X j) := fun j hj => (HW.out.2.1 j hj).mod hM (fun x hx e => by
                        have h1 := (HNM.out x e).2.2.2.2.2
                        have h2 := (HW.out.2.1 j hj).own hx
                        omega)
                      have hKl := HW.out.2.2.2
                      obtain ⟨qK, cK, hKv, -, hrest⟩ := row_form hkeep
                      obtain ⟨KB, hqK⟩ : ∃ KB, qK = some ⟨KB, 0, none⟩ := by
                        rcases hrest with ⟨-, h0⟩ | ⟨g, cur, e, -⟩
                        · omega
                        · exact ⟨g, e⟩
                      subst hqK
                      subst hKv
                      have hblk := hO.blk
                      have H8 := hide (And.intro hS2 (And.intro hT2 (And.intro hB2 (And.intro h72 (And.intro h92 (And.intro h112 (And.intro hkeep (And.intro hKs (And.intro hKl hblk)))))))))
                      clear hS2 hT2 hB2 h72 h92 h112 hkeep hKs hKl hblk hrest hO hM nM HP HW hw14
                      go_wp2_with fail
                      go_loopw [19] (fun i wr => ∃ j : Nat, Odd j i ∧ Mod [] w14 wr) (fun i _ => 7 - (intOf i).toNat)
                      case atStart => exact ⟨0, odd0, Mod.refl _ _⟩
                      case round =>
                        obtain ⟨j8, hj8, hmw⟩ := hrel
                        rcases hj8 with ⟨rfl, rfl⟩ | ⟨rfl, rfl⟩ | ⟨rfl, rfl⟩ | ⟨rfl, rfl⟩
                        · obtain ⟨qj, cj, hKj⟩ := (H8.out.2.2.2.2.2.2.2.1 1 (by omega)).form
                          have rj := H8.out.2.2.2.2.2.2.2.1 1 (by omega)
                          have hKl := H8.out.2.2.2.2.2.2.2.2.1
                          have ck0 := World.ownsRow.cellAt H8.out.2.2.2.2.2.2.1 1 (by omega)
                          have hK2 : K[1]? = some (.slice qj xo.length cj) := by
                            have e2 : K[1]? = some (K.getD 1 (.slice none 0 0)) := by
                              have : 1 < K.length := by omega
                              simp [this]
                            rw [e2, hKj, HXE.out]
                            rfl
                          rw [hK2] at ck0
                          rw [hKj, HXE.out] at rj
                          replace rj : RowN w14 w12.heap.size (.slice qj xo.length cj) xo := rj
                          have cb0 : w14.cell? ⟨IB, 1, none⟩ = some (.slice q7 xo.length c7) := by rw [blk_cell H8.out.2.2.2.2.2.2.2.2.2]; rfl
                          have ck1 := hmw.kept ck0 (by simp)
                          have cb1 := hmw.kept cb0 (by simp)
                          have HR9 := hide (And.intro rj (H8.out.2.2.2.1))
                          have HMW := hide hmw
                          clear hKj rj hKl hK2 ck0 cb0 hmw
                          go_wp2_with fail
                          go_region_held3 (fun w' => TLive wr w' ∧ w'.cell? ⟨IB, 1, none⟩ = some (.slice q7 xo.length c7) ∧ w'.cell? ⟨KB, 1, none⟩ = some (.slice qj xo.length cj))
                            (first | (exact ol_of cb1 ck1 ((Mod.refl [] wr).drew)) | (go_split_ands; exact ol_of cb1 ck1 (Mod.then (by assumption) hmX)))
                            (first
                              | (go_at_call 17; go_split_ands; refine (sameInts_eq (HR9.out.2.rd (HMW.out.then (TLive.mod (by assumption)))) (HR9.out.1.rd (HMW.out.then (TLive.mod (by assumption))))).mono ?_; rintro e y9 ⟨rfl, hmX⟩)
                              | fail)
                          go_split_ands
                          have HMY := hide (HMW.out.then (TLive.mod (by assumption)))
                          go_wp2_with fail
                          go_roundw
                          case rel => exact ⟨1, odd1, HMY.out⟩
                          case measure => simp [intOf]
                        · obtain ⟨qj, cj, hKj⟩ := (H8.out.2.2.2.2.2.2.2.1 3 (by omega)).form
                          have rj := H8.out.2.2.2.2.2.2.2.1 3 (by omega)
                          have hKl := H8.out.2.2.2.2.2.2.2.2.1
                          have ck0 := World.ownsRow.cellAt H8.out.2.2.2.2.2.2.1 3 (by omega)
                          have hK2 : K[3]? = some (.slice qj xu.length cj) := by
                            have e2 : K[3]? = some (K.getD 3 (.slice none 0 0)) := by
                              have : 3 < K.length := by omega
                              simp [this]
                            rw [e2, hKj, HXE.out]
                            rfl
                          rw [hK2] at ck0
                          rw [hKj, HXE.out] at rj
                          replace rj : RowN w14 w12.heap.size (.slice qj xu.length cj) xu := rj
                          have cb0 : w14.cell? ⟨IB, 3, none⟩ = some (.slice q9 xu.length c9) := by rw [blk_cell H8.out.2.2.2.2.2.2.2.2.2]; rfl
                          have ck1 := hmw.kept ck0 (by simp)
                          have cb1 := hmw.kept cb0 (by simp)
                          have HR9 := hide (And.intro rj (H8.out.2.2.2.2.1))
                          have HMW := hide hmw
                          clear hKj rj hKl hK2 ck0 cb0 hmw
                          go_wp2_with fail
                          go_region_held3 (fun w' => TLive wr w' ∧ w'.cell? ⟨IB, 3, none⟩ = some (.slice q9 xu.length c9) ∧ w'.cell? ⟨KB, 3, none⟩ = some (.slice qj xu.length cj))
                            (first | (exact ol_of cb1 ck1 ((Mod.refl [] wr).drew)) | (go_split_ands; exact ol_of cb1 ck1 (Mod.then (by assumption) hmX)))
                            (first
                              | (go_at_call 17; go_split_ands; refine (sameInts_eq (HR9.out.2.rd (HMW.out.then (TLive.mod (by assumption)))) (HR9.out.1.rd (HMW.out.then (TLive.mod (by assumption))))).mono ?_; rintro e y9 ⟨rfl, hmX⟩)
                              | fail)
                          go_split_ands
                          have HMY := hide (HMW.out.then (TLive.mod (by assumption)))
                          go_wp2_with fail
                          go_roundw
                          case rel => exact ⟨2, odd2, HMY.out⟩
                          case measure => simp [intOf]
                        · obtain ⟨qj, cj, hKj⟩ := (H8.out.2.2.2.2.2.2.2.1 5 (by omega)).form
                          have rj := H8.out.2.2.2.2.2.2.2.1 5 (by omega)
                          have hKl := H8.out.2.2.2.2.2.2.2.2.1
                          have ck0 := World.ownsRow.cellAt H8.out.2.2.2.2.2.2.1 5 (by omega)
                          have hK2 : K[5]? = some (.slice qj xc.length cj) := by
                            have e2 : K[5]? = some (K.getD 5 (.slice none 0 0)) := by
                              have : 5 < K.length := by omega
                              simp [this]
                            rw [e2, hKj, HXE.out]
                            rfl
                          rw [hK2] at ck0
                          rw [hKj, HXE.out] at rj
                          replace rj : RowN w14 w12.heap.size (.slice qj xc.length cj) xc := rj
                          have cb0 : w14.cell? ⟨IB, 5, none⟩ = some (.slice q11 xc.length c11) := by rw [blk_cell H8.out.2.2.2.2.2.2.2.2.2]; rfl
                          have ck1 := hmw.kept ck0 (by simp)
                          have cb1 := hmw.kept cb0 (by simp)
                          have HR9 := hide (And.intro rj (H8.out.2.2.2.2.2.1))
                          have HMW := hide hmw
                          clear hKj rj hKl hK2 ck0 cb0 hmw
                          go_wp2_with fail
                          go_region_held3 (fun w' => TLive wr w' ∧ w'.cell? ⟨IB, 5, none⟩ = some (.slice q11 xc.length c11) ∧ w'.cell? ⟨KB, 5, none⟩ = some (.slice qj xc.length cj))
                            (first | (exact ol_of cb1 ck1 ((Mod.refl [] wr).drew)) | (go_split_ands; exact ol_of cb1 ck1 (Mod.then (by assumption) hmX)))
                            (first
                              | (go_at_call 17; go_split_ands; refine (sameInts_eq (HR9.out.2.rd (HMW.out.then (TLive.mod (by assumption)))) (HR9.out.1.rd (HMW.out.then (TLive.mod (by assumption))))).mono ?_; rintro e y9 ⟨rfl, hmX⟩)
                              | fail)
                          go_split_ands
                          have HMY := hide (HMW.out.then (TLive.mod (by assumption)))
                          go_wp2_with fail
                          go_roundw
                          case rel => exact ⟨3, odd3, HMY.out⟩
                          case measure => simp [intOf]
                        · have hsrt := H8.out.1.srt
                          have hMW : Mod [] W wr := (H1.out.then H8.out.1.mod).then hmw
                          have HMW := hide (And.intro hMW hmw)
                          clear hMW hmw
                          go_wp2_with fail
                          refine (filled_any (HX.out.1.same HMW.out.1) HX.out.2.1).mono ?_
                          rintro e w16 ⟨sc, wc, Nc, rfl, sC⟩
                          rw [HL.out] at sC
                          have m16 := HMW.out.2.then sC.mod
                          have hs16 := H8.out.1.same m16
                          have H16 := hide (And.intro hs16 (And.intro (H8.out.2.1.same m16) (And.intro (H8.out.2.2.1.mod m16 (by simp)) sC)))
                          have hlt16 : ∀ x, x ∈ wa :: blksN Na → x < wr.heap.size := fun x hx => by
                            have h1 := H8.out.1.m.lt x (List.mem_cons_of_mem _ hx)
                            have h2 := HMW.out.2.size
                            omega
                          have HLT := hide hlt16
                          clear sC m16 hs16 hlt16 HMW
                          go_wp2_with fail
                          go_loopw [146] (fun i w17 => ∃ k : Nat, k ≤ l.length ∧ i = .int .i64 k ∧ ∃ Ns, SS w1 w17 sa wa Ns (goneS (l.take k) L) ∧ Mod (wa :: blksN Na) w16 w17 ∧ ∀ x, x ∈ blksN Ns → x ∈ blksN Na ∨ w16.heap.size ≤ x) (fun i _ => l.length - (intOf i).toNat)
                          case atStart => exact ⟨0, Nat.zero_le _, rfl, Na, H16.out.1, Mod.refl _ _, fun x hx => .inl hx⟩
                          case round =>
                            obtain ⟨k9, hk9, rfl, Ns, hs, hmd, hown⟩ := hrel
                            by_cases hlt9 : k9 < l.length
                            · obtain ⟨bl, off, rfl, hb, c0, c1, c2, c3⟩ := (HX.out.1.same (H1.out.then hs.mod)).at_ hlt9
                              have hmem : inE (l.getD k9 default) := HX.out.2.1 _ (by simp [hlt9])
                              have hgt := gone_take l L hlt9
                              obtain ⟨⟨yi, yp, ym, yw⟩, he⟩ : ∃ e, l.getD k9 default = e := ⟨_, rfl⟩
                              rw [he] at c0 c1 c2 c3 hmem hgt
                              dsimp only at c0 c1 c2 c3 hgt
                              have i1 : (0 : Int) ≤ (k9 : Int) := by omega
                              have i2 : (k9 : Int) < (l.length : Int) := by omega
                              have gb : Gr wr (wr.alloc (objE yi yp ym yw)) := (Gr.refl wr).alloc _
                              have CB := blk_cell (heap_alloc_new wr (objE yi yp ym yw))
                              have HS9 := hide (And.intro (hs.gr gb) (And.intro (hmd.gr gb) (And.intro hown (And.intro hmem hgt))))
                              clear hs hmd hown hmem he gb hgt
                              go_wp2_with (first
                                | (go_at_call 12
                                   refine (drop_eq HS9.out.1 yi HS9.out.2.2.2.1.1 rfl rfl).mono ?_
                                   rintro e w19 ⟨rfl, N19, s, t⟩
                                   have H19 := hide (And.intro s t)
                                   clear s t c0 c1 c2 c3 CB)
                                | fail)
                              go_roundw
                              case rel =>
                                obtain ⟨hs, t⟩ := H19.out
                                obtain ⟨-, hmd, hown, -, hgt⟩ := HS9.out
                                refine ⟨k9 + 1, by omega, by go_num, N19, by rw [hgt]; exact hs, hmd.trans t.mod (fun _ h _ => h) (fun x hx hlt => ?_), fun x hx => ?_⟩
                                · rcases List.mem_cons.1 hx with e | e
                                  · rw [e]; exact List.mem_cons_self
                                  · rcases hown x e with e2 | e2
                                    · exact List.mem_cons_of_mem _ e2
                                    · omega
                                · rcases t.own x hx with e | e
                                  · exact hown x e
                                  · exact .inr (Nat.le_trans hmd.size e)
                              case measure => simp [intOf]; omega
                            · have ek : k9 = l.length := by omega
                              rw [ek, List.take_length, ← HL.out, gone_all] at hs
                              have z23 := HSL.out.2.2.1
                              have hT := H16.out.2.1.mod hmd (fun x hx e => by
                                have h1 := HSL.out.1 x (List.mem_cons_of_mem _ e)
                                have h2 := T3.out.new x hx
                                omega)
                              have hB := H16.out.2.2.1.mod hmd (fun x hx e => by
                                have h1 := HSL.out.1 x (List.mem_cons_of_mem _ e)
                                have h2 := R5.out.own hx
                                omega)
                              have hC := H16.out.2.2.2.m.mod hmd (fun x hx e => by
                                have h1 := HLT.out x e
                                have h2 := H16.out.2.2.2.new x hx
                                omega)
                              have HF := hide (And.intro hs (And.intro hT (And.intro hB hC)))
                              have HSR := hide hsrt
                              have t1 : Hid True := hide trivial
                              have t2 : Hid True := hide trivial
                              have t3 : Hid True := hide trivial
                              have t4 : Hid True := hide trivial
                              clear hs hT hB hC hsrt hmd hown ek
                              go_wp2_with (first
                                | (have tk := t1
                                   go_at_call 16
                                   refine (list_eq (.inl ⟨sc, wc, rfl, HF.out.2.2.2⟩) HSR.out).mono ?_
                                   rintro e y1 ⟨qa, ca, rfl, ra, ma⟩
                                   have G1 := hide (And.intro ra ma)
                                   clear ra ma t1 tk)
                                | (have tk := t2
                                   go_at_call 15
                                   refine (same_eq (HF.out.2.2.1.rd G1.out.2) (RdE.of_row G1.out.1)).mono ?_
                                   rintro e y2 ⟨rfl, mb⟩
                                   have G2 := hide (G1.out.2.then mb)
                                   clear mb t2 tk)
                                | (have tk := t3
                                   go_at_call 16
                                   refine (list_eq (.inl ⟨st, wt, rfl, HF.out.2.1.same G2.out⟩) HSR.out).mono ?_
                                   rintro e y3 ⟨qb, cb, rfl, rb, mb⟩
                                   have G3 := hide (And.intro rb (G2.out.then mb))
                                   clear rb mb t3 tk)
                                | (have tk := t4
                                   go_at_call 16
                                   refine (list_eq (.inl ⟨sc, wc, rfl, HF.out.2.2.2.same G3.out.2⟩) HSR.out).mono ?_
                                   rintro e y4 ⟨qd, cd, rfl, rd, md⟩
                                   have G4 := hide (And.intro (G3.out.1.mod md (by simp)) (And.intro rd (G3.out.2.then md)))
                                   clear rd md t4 tk)
                                | (go_at_call 15
                                   refine (same_eq (RdE.of_row G4.out.1) (RdE.of_row G4.out.2.1)).mono ?_
                                   rintro e y5 ⟨rfl, mb⟩
                                   have G5 := hide (G4.out.2.2.then mb)
                                   clear mb)
                                | (go_at_call 13
                                   refine (len_eq (HF.out.1.same G5.out).q (k := 0) rfl).mono ?_
                                   rintro e y6 ⟨rfl, hw⟩
                                   subst hw)
                                | (go_at_call 16
                                   refine (list_eq (HF.out.1.same G5.out).q (HF.out.1.srt)).mono ?_
                                   rintro e y7 ⟨qe, ce, rfl, -, me⟩
                                   have G7 := hide (G5.out.then me)
                                   clear me)
                                | fail)
                              go_ret
                              exact ⟨rfl, (H1.out.then HF.out.1.mod).then G7.out⟩
end Go.Proofs.YthkcbennfochmaaDoor
