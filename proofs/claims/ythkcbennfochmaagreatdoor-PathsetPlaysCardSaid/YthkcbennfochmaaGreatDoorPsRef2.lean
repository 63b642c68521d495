/-
  WALKS: the document's answers for layer 5: Find, Drop, Put.
-/
import Derived.Test.YthkcbennfochmaaGreatDoorPsRef1
import Derived.Deep.RegionHeld3
namespace Go.Proofs.YthkcbennfochmaaGreatDoor
open Go.RowKit Go.Maps

theorem row_ent {w : World} {b : Nat} {id m who : Int} {p : ByteArray} (h : w.heap[b]? = some (objE id p m who)) : w.ownsRow b 29 4 (.slice (some ⟨b, 0, none⟩) 1 1) 1 (encE ⟨id, p, m, who⟩) :=
  ⟨rfl, .inr ⟨b, 1, #[.int .i64 id, .string p, .int .i64 m, .int .i64 who], rfl, Nat.le_refl _, h, Nat.le_refl _, by unfold maxLen; omega, rfl, rfl⟩⟩
theorem row_more {w : World} {base : Nat} {u : Value} {xs : List Ent} {e : Ent} (h : w.ownsRow base 29 4 u (xs.length + 1) (xs.flatMap encE ++ encE e)) : RowE w base u (xs ++ [e]) := by
  unfold RowE
  rw [List.length_append, List.flatMap_append, List.flatMap_singleton]
  exact h
/-! ### Find -/
def RFindRel (w : World) (L : List Ent) (id : Int) (i : Value) (wr : World) : Prop := ∃ k : Nat, k ≤ L.length ∧ i = .int .i64 k ∧ (∀ j, j < k → (L.getD j default).id ≠ id) ∧ w = wr
def RFindTo (w : World) (L : List Ent) (id : Int) (e : Ending) (w' : World) : Prop := ∃ r : Int, e = .returned (.int .i64 r) ∧ w = w' ∧ ((r = -1 ∧ getS5 L id = none) ∨ ∃ k : Nat, k < L.length ∧ r = k ∧ getS5 L id = some (L.getD k default))
set_option maxRecDepth 100000 in
theorem rfind_any {w : World} {v : Value} {L : List Ent} (h : RdE w v L) (id : Int) : Calls Tryz.prog 19 #[v, .int .i64 id] w fun e w' => RFindTo w L id e w' := by
  have hl : L.length ≤ 9223372036854775807 := h.1
  obtain ⟨q, c, rfl⟩ := h.len
  have HX := hide h
  clear h
  go_enter Tryz.func19, Tryz.ntmps19
  go_wp2_with fail
  go_loopw [5] (fun i wr => RFindRel w L id i wr) (fun i _ => L.length - (intOf i).toNat)
  case atStart => exact ⟨0, Nat.zero_le _, rfl, by simp, rfl⟩
  case round =>
    obtain ⟨k, hk, rfl, hno, rfl⟩ := hrel
    have HN := hide hno
    clear hno
    by_cases hlt : k < L.length
    · obtain ⟨b, off, rfl, hb, c0, -, -, -⟩ := HX.out.at_ hlt
      obtain ⟨y, hy⟩ : ∃ y, (L.getD k default).id = y := ⟨_, rfl⟩
      rw [hy] at c0
      have HY := hide hy
      clear hy
      have i1 : (0 : Int) ≤ (k : Int) := by omega
      have i2 : (k : Int) < (L.length : Int) := by omega
      by_cases he : y = id
      · subst he
        go_wp2_with fail
        go_ret
        exact ⟨k, rfl, rfl, .inr ⟨k, hlt, rfl, get_some_of hlt HN.out HY.out⟩⟩
      · have hb2 : (y == id) = false := by simpa using he
        have HE := hide he
        clear he
        go_wp2_with fail
        go_roundw
        case rel => exact ⟨k + 1, by omega, by go_num, fun j hj => by
          by_cases e : j = k
          · subst e; rw [HY.out]; exact HE.out
          · exact HN.out j (by omega), rfl⟩
        case measure => simp [intOf]; omega
    · go_wp2_with fail
      go_ret
      exact ⟨-1, rfl, rfl, .inl ⟨rfl, get_none_of fun j hj => HN.out j (by omega)⟩⟩
/-! ### Drop -/
def RDropRel (w : World) (L : List Ent) (id : Int) (u i : Value) (wr : World) : Prop := ∃ (k : Nat) (xs : List Ent), k ≤ L.length ∧ i = .int .i64 k ∧ xs = dropS5 (L.take k) id ∧ RowE wr w.heap.size u xs ∧ Mod [] w wr
def RDropTo (w : World) (L : List Ent) (id : Int) (e : Ending) (w' : World) : Prop := ∃ v, e = .returned (.tuple #[v, .bool (hasId L id)]) ∧ RowE w' w.heap.size v (dropS5 L id) ∧ Mod [] w w'
theorem drop_len (L : List Ent) (id : Int) : decide ((dropS5 L id).length < L.length) = hasId L id := by
  rw [Bool.eq_iff_iff, decide_eq_true_eq]
  unfold hasId
  rw [List.any_eq_true]
  constructor
  · intro h
    refine Classical.byContradiction fun hn => ?_
    have : dropS5 L id = L := List.filter_eq_self.2 fun e he => decide_eq_true fun e2 => hn ⟨e, he, decide_eq_true e2⟩
    rw [this] at h
    omega
  · rintro ⟨e, he, hd⟩
    have := List.length_filter_lt_length_iff_exists (l := L) (p := fun e => decide (e.id ≠ id))
    have h2 : (dropS5 L id).length < L.length := this.2 ⟨e, he, by simpa using hd⟩
    omega
theorem drop_hit (L : List Ent) (id : Int) {k : Nat} (hk : k < L.length) (h : (L.getD k default).id = id) : dropS5 (L.take (k + 1)) id = dropS5 (L.take k) id := by
  unfold dropS5
  rw [take_succ_getD L hk, List.filter_append, List.filter_cons, if_neg (by rw [decide_eq_true_eq]; exact fun e => e h)]
  simp
theorem drop_miss (L : List Ent) (id : Int) {k : Nat} (hk : k < L.length) (h : (L.getD k default).id ≠ id) : dropS5 (L.take (k + 1)) id = dropS5 (L.take k) id ++ [L.getD k default] := by
  unfold dropS5
  rw [take_succ_getD L hk, List.filter_append, List.filter_cons, if_pos (decide_eq_true h)]
  rfl
theorem drop_le (L : List Ent) (id : Int) (k : Nat) : (dropS5 (L.take k) id).length ≤ L.length := by
  refine Nat.le_trans (List.length_filter_le _ _) ?_
  rw [List.length_take]
  omega
set_option maxHeartbeats 1000000 in
set_option maxRecDepth 100000 in
theorem rdrop_any {w : World} {v : Value} {L : List Ent} (h : RdE w v L) (hl : L.length ≤ 64) (id : Int) : Calls Tryz.prog 18 #[v, .int .i64 id] w fun e w' => RDropTo w L id e w' := by
  obtain ⟨q, c, rfl⟩ := h.len
  obtain ⟨i0, hi, hz0, hz1, hz2⟩ := info_parts info_ent
  have HI := hide (And.intro hi (And.intro hz0 (And.intro hz1 hz2)))
  have HX := hide h
  clear h hi hz0 hz1 hz2
  go_enter Tryz.func18, Tryz.ntmps18
  go_wp2_with fail
  go_loopw [6, 7] (fun u i wr => RDropRel w L id u i wr) (fun _ i _ => L.length - (intOf i).toNat)
  case atStart => exact ⟨0, [], Nat.zero_le _, rfl, rfl, RowE.nil _ _, Mod.refl _ _⟩
  case round =>
    obtain ⟨k, xs, hk, rfl, hxs, hrow, hmw⟩ := hrel
    by_cases hlt : k < L.length
    · obtain ⟨b, off, rfl, hb, c0, c1, c2, c3⟩ := (HX.out.same hmw).at_ hlt
      have hmiss := drop_miss L id hlt
      have hhit := drop_hit L id hlt
      have hle : xs.length ≤ 64 := by rw [hxs]; exact Nat.le_trans (drop_le L id k) hl
      obtain ⟨⟨yi, yp, ym, yw⟩, hy⟩ : ∃ y, L.getD k default = y := ⟨_, rfl⟩
      rw [hy] at c0 c1 c2 c3 hmiss hhit
      dsimp only at c0 c1 c2 c3 hmiss hhit
      have HK := hide (And.intro hxs (And.intro hmiss hhit))
      clear hxs hmiss hhit hy
      have i1 : (0 : Int) ≤ (k : Int) := by omega
      have i2 : (k : Int) < (L.length : Int) := by omega
      by_cases he : yi = id
      · subst he
        have HR := hide (And.intro hrow hmw)
        clear hrow hmw
        go_wp2_with fail
        go_roundw
        case rel => exact ⟨k + 1, xs, by omega, by go_num, by rw [HK.out.2.2 rfl]; exact HK.out.1, HR.out.1, HR.out.2⟩
        case measure => simp [intOf]; omega
      · have hb2 : (yi != id) = true := by simpa using he
        have HE := hide he
        have r1 := row_ent (heap_alloc_new wr (objE yi yp ym yw))
        have hown := hrow.mod (((Gr.refl wr).alloc (objE yi yp ym yw)).mod []) (by simp)
        have q6 : xs.length + 1 ≤ maxLen := by unfold maxLen; omega
        have q7 : (xs.length + 1) * 40 ≤ 140737488355328 := by omega
        have q8 : w.heap.size ≤ (wr.alloc (objE yi yp ym yw)).heap.size := by have := hmw.size; simp; omega
        have HR := hide (And.intro hrow hmw)
        obtain ⟨hi, hz0, hz1, hz2⟩ := HI.out
        clear hrow hmw he
        go_wp2_with (first
          | (at_builtin
             refine wpList_append_row _ rfl _ _ 26 rfl 29 i0 _ 4 40 Tryz.underlying26 hi hz0 hz1 hz2 rfl (by decide) rfl hown rfl r1 (encE_one _) q6 q7 q8 ?_
             intro ux w6 hown6 hgr6
             have hr6 := row_more hown6
             have m6 : Mod [] w w6 := (HR.out.2.alloc (objE yi yp ym yw)).trans ((Mod.refl (obl u6) _).grown hgr6 (fun x e _ => mem_obl.2 e)) (by simp) (fun x hx hlt2 => (by
               have h1 := HR.out.1.own (mem_obl.1 hx)
               omega))
             have H6 := hide (And.intro hr6 m6)
             clear hr6 m6 hown6 hgr6 hown r1 hi hz0 hz1 hz2)
          | fail)
        go_roundw
        case rel => exact ⟨k + 1, _, by omega, by go_num, by rw [HK.out.2.1 HE.out, ← HK.out.1], H6.out.1, H6.out.2⟩
        case measure => simp [intOf]; omega
    · have ek : k = L.length := by omega
      rw [ek, List.take_length] at hxs
      subst hxs
      obtain ⟨q5, c5, rfl⟩ := hrow.form
      have hd := drop_len L id
      have HR := hide (And.intro hrow hmw)
      clear hrow hmw
      go_wp2_with fail
      go_ret2
      exact ⟨_, by first | rfl | (rw [← hd]; rfl), HR.out.1, HR.out.2⟩
end Go.Proofs.YthkcbennfochmaaGreatDoor
