/-
  WALKS: the document's answers for layer 5: Over, Under.
-/
import Derived.Test.YthkcbennfochmaaGreatDoorPsRef4
namespace Go.Proofs.YthkcbennfochmaaGreatDoor
open Go.RowKit Go.Maps

def ROverRel (w : World) (L : List Ent) (p : List UInt8) (u i : Value) (wr : World) : Prop := ∃ k : Nat, k ≤ L.length ∧ i = .int .i64 k ∧ RowN wr w.heap.size u (((L.take k).filter fun e => coversB e.bs p).map Ent.id) ∧ Mod [] w wr
set_option maxHeartbeats 1000000 in
set_option maxRecDepth 100000 in
theorem rover_any {w : World} {v : Value} {L : List Ent} (h : RdE w v L) (hin : ∀ e, e ∈ L → e.path.size ≤ 9223372036854775806) (hl : L.length ≤ 64) (p : ByteArray) (hp : p.size ≤ 9223372036854775806) : Calls Tryz.prog 21 #[v, .string p] w fun e w' => NewN w (overS5 L p.data.toList) e w' := by
  obtain ⟨q, c, rfl⟩ := h.len
  obtain ⟨i0, hi, hz0, hz1, hz2⟩ := info_parts info_num
  have HI := hide (And.intro hi (And.intro hz0 (And.intro hz1 hz2)))
  have HX := hide (And.intro h hin)
  clear h hi hz0 hz1 hz2 hin
  go_enter Tryz.func21, Tryz.ntmps21
  go_wp2_with fail
  go_loopw [5, 6] (fun u i wr => ROverRel w L p.data.toList u i wr) (fun _ i _ => L.length - (intOf i).toNat)
  case atStart => exact ⟨0, Nat.zero_le _, rfl, RowN.nil _ _, Mod.refl _ _⟩
  case round =>
    obtain ⟨k, hk, rfl, hrow, hmw⟩ := hrel
    by_cases hlt : k < L.length
    · obtain ⟨b, off, rfl, hb, c0, c1, -, -⟩ := (HX.out.1.same hmw).at_ hlt
      have hps := HX.out.2 (L.getD k default) (by simp [hlt])
      have hhit := ids_hit L (fun e => coversB e.bs p.data.toList) hlt
      have hmiss := ids_miss L (fun e => coversB e.bs p.data.toList) hlt
      have hle : (((L.take k).filter fun e => coversB e.bs p.data.toList).map Ent.id).length ≤ 64 := by
        rw [List.length_map]
        refine Nat.le_trans (List.length_filter_le _ _) ?_
        rw [List.length_take]
        omega
      obtain ⟨⟨yi, yp, ym, yw⟩, hy⟩ : ∃ y, L.getD k default = y := ⟨_, rfl⟩
      rw [hy] at c0 c1 hps hhit hmiss
      dsimp only at c0 c1 hps hhit hmiss
      have hcov := rcovers_any yp p hps hp
      obtain ⟨xs, hxs⟩ : ∃ xs, ((L.take k).filter fun e => coversB e.bs p.data.toList).map Ent.id = xs := ⟨_, rfl⟩
      rw [hxs] at hrow hhit hmiss hle
      obtain ⟨bb, hbb⟩ : ∃ bb, coversB yp.data.toList p.data.toList = bb := ⟨_, rfl⟩
      rw [hbb] at hcov
      have HK := hide (And.intro hhit (And.intro hmiss hbb))
      have i1 : (0 : Int) ≤ (k : Int) := by omega
      have i2 : (k : Int) < (L.length : Int) := by omega
      have HR := hide (And.intro hrow hmw)
      have hbw : b < wr.heap.size := hb
      clear hhit hmiss hbb hy hxs hrow hmw
      cases bb
      · go_wp2_with (first
          | (go_at_call 41
             refine (hcov _).mono ?_
             rintro e w1 ⟨rfl, hm1⟩
             have HM := hide hm1
             clear hm1 c0 c1 hcov)
          | fail)
        go_roundw
        case rel => exact ⟨k + 1, by omega, by go_num, by rw [HK.out.2.1 HK.out.2.2]; exact HR.out.1.mod HM.out (by simp), HR.out.2.then HM.out⟩
        case measure => simp [intOf]; omega
      · go_wp2_with (first
          | (go_at_call 41
             refine (hcov _).mono ?_
             rintro e w1 ⟨rfl, hm1⟩
             have d0 := hm1.kept c0 (by simp)
             have r1 := row_one (heap_alloc_new w1 (.cells #[.int .i64 yi] 3))
             have hown := (HR.out.1.mod hm1 (by simp)).mod (((Gr.refl w1).alloc (.cells #[.int .i64 yi] 3)).mod []) (by simp)
             have q6 : xs.length + 1 ≤ maxLen := by unfold maxLen; omega
             have q7 : (xs.length + 1) * 8 ≤ 140737488355328 := by omega
             have q8 : w.heap.size ≤ (w1.alloc (.cells #[.int .i64 yi] 3)).heap.size := (by
               have h1 := HR.out.2.size
               have h2 := hm1.size
               simp
               omega)
             obtain ⟨hi, hz0, hz1, hz2⟩ := HI.out
             have HM := hide hm1
             clear hm1 c0 c1 hcov)
          | (at_builtin
             refine wpList_append_row _ rfl _ _ 43 rfl 3 i0 _ 1 8 Tryz.underlying43 hi hz0 hz1 hz2 rfl (by decide) rfl hown rfl r1 (by simp [Value.oneCell']) q6 q7 q8 ?_
             intro ux w6 hown6 hgr6
             have hr6 : RowN w6 w.heap.size ux (xs ++ [yi]) := (by
               unfold RowN
               rw [List.length_append, List.map_append]
               exact hown6)
             have m6 : Mod [] w w6 := ((HR.out.2.then HM.out).alloc (.cells #[.int .i64 yi] 3)).trans ((Mod.refl (obl u5) _).grown hgr6 (fun x e _ => mem_obl.2 e)) (by simp) (fun x hx hlt2 => (by
               have h1 := HR.out.1.own (mem_obl.1 hx)
               omega))
             have H6 := hide (And.intro hr6 m6)
             clear hr6 m6 hown6 hgr6 hown r1 hi hz0 hz1 hz2)
          | fail)
        go_roundw
        case rel => exact ⟨k + 1, by omega, by go_num, by rw [HK.out.1 HK.out.2.2]; exact H6.out.1, H6.out.2⟩
        case measure => simp [intOf]; omega
    · have ek : k = L.length := by omega
      rw [ek, List.take_length] at hrow
      have hle : ((L.filter fun e => coversB e.bs p.data.toList).map Ent.id).length ≤ 64 := by
        rw [List.length_map]
        exact Nat.le_trans (List.length_filter_le _ _) hl
      have HR := hide (And.intro hrow hmw)
      clear ek hmw
      go_wp2_with (
        go_at_call 40
        refine (rsorted_any hrow hle).mono ?_
        rintro e w1 ⟨rfl, hr1, hm1⟩
        have H1 := hide (And.intro hr1 hm1)
        clear hr1 hm1 hrow)
      go_ret
      exact ⟨_, rfl, H1.out.1, HR.out.2.trans H1.out.2 (by simp) (fun x hx hlt2 => by
        have h1 := HR.out.1.own (mem_obl.1 hx)
        omega)⟩
def RUnderRel (w : World) (L : List Ent) (p : List UInt8) (u i : Value) (wr : World) : Prop := ∃ k : Nat, k ≤ L.length ∧ i = .int .i64 k ∧ RowN wr w.heap.size u (((L.take k).filter fun e => coversB p e.bs).map Ent.id) ∧ Mod [] w wr
set_option maxHeartbeats 1000000 in
set_option maxRecDepth 100000 in
theorem runder_any {w : World} {v : Value} {L : List Ent} (h : RdE w v L) (hin : ∀ e, e ∈ L → e.path.size ≤ 9223372036854775806) (hl : L.length ≤ 64) (p : ByteArray) (hp : p.size ≤ 9223372036854775806) : Calls Tryz.prog 22 #[v, .string p] w fun e w' => NewN w (underS5 L p.data.toList) e w' := by
  obtain ⟨q, c, rfl⟩ := h.len
  obtain ⟨i0, hi, hz0, hz1, hz2⟩ := info_parts info_num
  have HI := hide (And.intro hi (And.intro hz0 (And.intro hz1 hz2)))
  have HX := hide (And.intro h hin)
  clear h hi hz0 hz1 hz2 hin
  go_enter Tryz.func22, Tryz.ntmps22
  go_wp2_with fail
  go_loopw [5, 6] (fun u i wr => RUnderRel w L p.data.toList u i wr) (fun _ i _ => L.length - (intOf i).toNat)
  case atStart => exact ⟨0, Nat.zero_le _, rfl, RowN.nil _ _, Mod.refl _ _⟩
  case round =>
    obtain ⟨k, hk, rfl, hrow, hmw⟩ := hrel
    by_cases hlt : k < L.length
    · obtain ⟨b, off, rfl, hb, c0, c1, -, -⟩ := (HX.out.1.same hmw).at_ hlt
      have hps := HX.out.2 (L.getD k default) (by simp [hlt])
      have hhit := ids_hit L (fun e => coversB p.data.toList e.bs) hlt
      have hmiss := ids_miss L (fun e => coversB p.data.toList e.bs) hlt
      have hle : (((L.take k).filter fun e => coversB p.data.toList e.bs).map Ent.id).length ≤ 64 := by
        rw [List.length_map]
        refine Nat.le_trans (List.length_filter_le _ _) ?_
        rw [List.length_take]
        omega
      obtain ⟨⟨yi, yp, ym, yw⟩, hy⟩ : ∃ y, L.getD k default = y := ⟨_, rfl⟩
      rw [hy] at c0 c1 hps hhit hmiss
      dsimp only at c0 c1 hps hhit hmiss
      have hcov := rcovers_any p yp hp hps
      obtain ⟨xs, hxs⟩ : ∃ xs, ((L.take k).filter fun e => coversB p.data.toList e.bs).map Ent.id = xs := ⟨_, rfl⟩
      rw [hxs] at hrow hhit hmiss hle
      obtain ⟨bb, hbb⟩ : ∃ bb, coversB p.data.toList yp.data.toList = bb := ⟨_, rfl⟩
      rw [hbb] at hcov
      have HK := hide (And.intro hhit (And.intro hmiss hbb))
      have i1 : (0 : Int) ≤ (k : Int) := by omega
      have i2 : (k : Int) < (L.length : Int) := by omega
      have HR := hide (And.intro hrow hmw)
      have hbw : b < wr.heap.size := hb
      clear hhit hmiss hbb hy hxs hrow hmw
      cases bb
      · go_wp2_with (first
          | (go_at_call 41
             refine (hcov _).mono ?_
             rintro e w1 ⟨rfl, hm1⟩
             have HM := hide hm1
             clear hm1 c0 c1 hcov)
          | fail)
        go_roundw
        case rel => exact ⟨k + 1, by omega, by go_num, by rw [HK.out.2.1 HK.out.2.2]; exact HR.out.1.mod HM.out (by simp), HR.out.2.then HM.out⟩
        case measure => simp [intOf]; omega
      · go_wp2_with (first
          | (go_at_call 41
             refine (hcov _).mono ?_
             rintro e w1 ⟨rfl, hm1⟩
             have d0 := hm1.kept c0 (by simp)
             have r1 := row_one (heap_alloc_new w1 (.cells #[.int .i64 yi] 3))
             have hown := (HR.out.1.mod hm1 (by simp)).mod (((Gr.refl w1).alloc (.cells #[.int .i64 yi] 3)).mod []) (by simp)
             have q6 : xs.length + 1 ≤ maxLen := by unfold maxLen; omega
             have q7 : (xs.length + 1) * 8 ≤ 140737488355328 := by omega
             have q8 : w.heap.size ≤ (w1.alloc (.cells #[.int .i64 yi] 3)).heap.size := (by
               have h1 := HR.out.2.size
               have h2 := hm1.size
               simp
               omega)
             obtain ⟨hi, hz0, hz1, hz2⟩ := HI.out
             have HM := hide hm1
             clear hm1 c0 c1 hcov)
          | (at_builtin
             refine wpList_append_row _ rfl _ _ 43 rfl 3 i0 _ 1 8 Tryz.underlying43 hi hz0 hz1 hz2 rfl (by decide) rfl hown rfl r1 (by simp [Value.oneCell']) q6 q7 q8 ?_
             intro ux w6 hown6 hgr6
             have hr6 : RowN w6 w.heap.size ux (xs ++ [yi]) := (by
               unfold RowN
               rw [List.length_append, List.map_append]
               exact hown6)
             have m6 : Mod [] w w6 := ((HR.out.2.then HM.out).alloc (.cells #[.int .i64 yi] 3)).trans ((Mod.refl (obl u5) _).grown hgr6 (fun x e _ => mem_obl.2 e)) (by simp) (fun x hx hlt2 => (by
               have h1 := HR.out.1.own (mem_obl.1 hx)
               omega))
             have H6 := hide (And.intro hr6 m6)
             clear hr6 m6 hown6 hgr6 hown r1 hi hz0 hz1 hz2)
          | fail)
        go_roundw
        case rel => exact ⟨k + 1, by omega, by go_num, by rw [HK.out.1 HK.out.2.2]; exact H6.out.1, H6.out.2⟩
        case measure => simp [intOf]; omega
    · have ek : k = L.length := by omega
      rw [ek, List.take_length] at hrow
      have hle : ((L.filter fun e => coversB p.data.toList e.bs).map Ent.id).length ≤ 64 := by
        rw [List.length_map]
        exact Nat.le_trans (List.length_filter_le _ _) hl
      have HR := hide (And.intro hrow hmw)
      clear ek hmw
      go_wp2_with (
        go_at_call 40
        refine (rsorted_any hrow hle).mono ?_
        rintro e w1 ⟨rfl, hr1, hm1⟩
        have H1 := hide (And.intro hr1 hm1)
        clear hr1 hm1 hrow)
      go_ret
      exact ⟨_, rfl, H1.out.1, HR.out.2.trans H1.out.2 (by simp) (fun x hx hlt2 => by
        have h1 := HR.out.1.own (mem_obl.1 hx)
        omega)⟩
end Go.Proofs.YthkcbennfochmaaGreatDoor
