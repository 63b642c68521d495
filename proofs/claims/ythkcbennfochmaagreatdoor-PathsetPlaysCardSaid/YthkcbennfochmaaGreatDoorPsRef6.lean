/-
  WALK: the document's answer for layer 5: Clash.
-/
import Derived.Test.YthkcbennfochmaaGreatDoorPsRef5
namespace Go.Proofs.YthkcbennfochmaaGreatDoor
open Go.RowKit Go.Maps

theorem stands_ref {y : Ent} (hy : y.mode = 1 ∨ y.mode = 2) (p : List UInt8) (m who : Int) : standsB p m who y = (modE m && (coversB y.bs p || coversB p y.bs) && (y.who != who) && !((y.mode == 1) && (m == 1))) := by
  unfold standsB
  have e1 : decide (y.who ≠ who) = (y.who != who) := by by_cases h : y.who = who <;> simp [h]
  rw [e1]
  by_cases h1 : m = 1
  · subst h1
    rcases hy with e | e <;> rw [e] <;> cases (coversB y.bs p || coversB p y.bs) <;> cases (y.who != who) <;> rfl
  · by_cases h2 : m = 2
    · subst h2
      rcases hy with e | e <;> rw [e] <;> cases (coversB y.bs p || coversB p y.bs) <;> cases (y.who != who) <;> rfl
    · have e0 : modE m = false := by simp [modE, h1, h2]
      rw [e0]
      simp
theorem ref_bool (mo ov bw tg : Bool) : (mo = false) ∨ (mo = true ∧ ov = false) ∨ (mo = true ∧ ov = true ∧ bw = false) ∨ (mo = true ∧ ov = true ∧ bw = true ∧ tg = true) ∨ (mo = true ∧ ov = true ∧ bw = true ∧ tg = false) := by
  cases mo <;> cases ov <;> cases bw <;> cases tg <;> simp
def RClashRel (w : World) (L : List Ent) (p : List UInt8) (m who : Int) (u i : Value) (wr : World) : Prop := ∃ k : Nat, k ≤ L.length ∧ i = .int .i64 k ∧ RowN wr w.heap.size u (((L.take k).filter (standsB p m who)).map Ent.id) ∧ Mod [] w wr
set_option maxHeartbeats 2000000 in
set_option maxRecDepth 100000 in
theorem rclash_any {w : World} {v : Value} {L : List Ent} (h : RdE w v L) (hin : ∀ e, e ∈ L → e.path.size ≤ 9223372036854775806 ∧ (e.mode = 1 ∨ e.mode = 2)) (hl : L.length ≤ 64) (p : ByteArray) (hp : p.size ≤ 9223372036854775806) (m who : Int) :
    Calls Tryz.prog 20 #[v, .string p, .int .i64 m, .int .i64 who] w fun e w' => NewN w (clashS5 L p.data.toList m who) e w' := by
  obtain ⟨q, c, rfl⟩ := h.len
  obtain ⟨i0, hi, hz0, hz1, hz2⟩ := info_parts info_num
  have HI := hide (And.intro hi (And.intro hz0 (And.intro hz1 hz2)))
  have HX := hide (And.intro h hin)
  clear h hi hz0 hz1 hz2 hin
  go_enter Tryz.func20, Tryz.ntmps20
  go_wp2_with fail
  go_loopw [9, 10] (fun u i wr => RClashRel w L p.data.toList m who u i wr) (fun _ i _ => L.length - (intOf i).toNat)
  case atStart => exact ⟨0, Nat.zero_le _, rfl, RowN.nil _ _, Mod.refl _ _⟩
  case round =>
    obtain ⟨k, hk, rfl, hrow, hmw⟩ := hrel
    by_cases hlt : k < L.length
    · obtain ⟨b, off, rfl, hb, c0, c1, c2, c3⟩ := (HX.out.1.same hmw).at_ hlt
      have hps := HX.out.2 (L.getD k default) (by simp [hlt])
      have hhit := ids_hit L (standsB p.data.toList m who) hlt
      have hmiss := ids_miss L (standsB p.data.toList m who) hlt
      have hle : (((L.take k).filter (standsB p.data.toList m who)).map Ent.id).length ≤ 64 := by
        rw [List.length_map]
        refine Nat.le_trans (List.length_filter_le _ _) ?_
        rw [List.length_take]
        omega
      obtain ⟨⟨yi, yp, ym, yw⟩, hy⟩ : ∃ y, L.getD k default = y := ⟨_, rfl⟩
      rw [hy] at c0 c1 c2 c3 hps hhit hmiss
      dsimp only at c0 c1 c2 c3 hps
      rw [stands_ref hps.2] at hhit hmiss
      dsimp only at hhit hmiss
      obtain ⟨xs, hxs⟩ : ∃ xs, ((L.take k).filter (standsB p.data.toList m who)).map Ent.id = xs := ⟨_, rfl⟩
      rw [hxs] at hrow hhit hmiss hle
      have hcov := roverlap_any yp p hps.1 hp
      have hmo := rmode_any m
      have htg := rtogether_any ym m
      change _ = true → _ at hhit
      obtain ⟨ov, hov⟩ : ∃ o, (coversB yp.data.toList p.data.toList || coversB p.data.toList yp.data.toList) = o := ⟨_, rfl⟩
      obtain ⟨mo, hmoe⟩ : ∃ o, modE m = o := ⟨_, rfl⟩
      obtain ⟨bw, hbw⟩ : ∃ o, (yw != who) = o := ⟨_, rfl⟩
      obtain ⟨tg, htge⟩ : ∃ o, ((ym == 1) && (m == 1)) = o := ⟨_, rfl⟩
      rw [hov] at hcov
      rw [hmoe] at hmo
      rw [htge] at htg
      have hsb : (modE m && (coversB (Ent.bs ⟨yi, yp, ym, yw⟩) p.data.toList || coversB p.data.toList (Ent.bs ⟨yi, yp, ym, yw⟩)) && (yw != who) && !((ym == 1) && (m == 1))) = (mo && ov && bw && !tg) := by
        rw [hmoe, hbw, htge]
        show (mo && (coversB yp.data.toList p.data.toList || coversB p.data.toList yp.data.toList) && bw && !tg) = _
        rw [hov]
      rw [hsb] at hhit hmiss
      have i1 : (0 : Int) ≤ (k : Int) := by omega
      have i2 : (k : Int) < (L.length : Int) := by omega
      have BX := heap_alloc_new wr (objE yi yp ym yw)
      have HR := hide (And.intro hrow (And.intro hmw (((Gr.refl wr).alloc (objE yi yp ym yw)).mod [])))
      have CX := blk_cell BX
      have HBX := hide BX
      have hcs := ref_bool mo ov bw tg
      have HK := hide (And.intro hhit hmiss)
      clear hps hhit hmiss hy hxs hrow hmw hov hmoe htge hsb BX
      rcases hcs with rfl | ⟨rfl, rfl⟩ | ⟨rfl, rfl, rfl⟩ | ⟨rfl, rfl, rfl, rfl⟩ | ⟨rfl, rfl, rfl, rfl⟩
      all_goals
        go_wp2_with (first
          | (go_at_call 37
             refine (hcov _).mono ?_
             rintro e w1 ⟨rfl, hm1⟩
             have CY := blk_cell (hm1.at_ HBX.out (by simp))
             have r1 := row_one (heap_alloc_new w1 (.cells #[.int .i64 yi] 3))
             have HM := hide (HR.out.2.2.then hm1)
             have hown := (HR.out.1.mod HM.out (by simp)).mod (((Gr.refl w1).alloc (.cells #[.int .i64 yi] 3)).mod []) (by simp)
             have q6 : xs.length + 1 ≤ maxLen := by unfold maxLen; omega
             have q7 : (xs.length + 1) * 8 ≤ 140737488355328 := by omega
             have q8 : w.heap.size ≤ (w1.alloc (.cells #[.int .i64 yi] 3)).heap.size := (by
               have h1 := HR.out.2.1.size
               have h2 := HM.out.size
               simp
               omega)
             obtain ⟨hi, hz0, hz1, hz2⟩ := HI.out
             clear hm1 c0 c1 c2 c3 hcov CX)
          | (go_at_call 38
             refine (hmo _).mono ?_
             rintro e w2 ⟨rfl, hw⟩
             subst hw)
          | (go_at_call 39
             refine (htg _).mono ?_
             rintro e w3 ⟨rfl, hw⟩
             subst hw)
          | (at_builtin
             refine wpList_append_row _ rfl _ _ 43 rfl 3 i0 _ 1 8 Tryz.underlying43 hi hz0 hz1 hz2 rfl (by decide) rfl hown rfl r1 (by simp [Value.oneCell']) q6 q7 q8 ?_
             intro ux w6 hown6 hgr6
             have hr6 : RowN w6 w.heap.size ux (xs ++ [yi]) := (by
               unfold RowN
               rw [List.length_append, List.map_append]
               exact hown6)
             have m6 : Mod [] w w6 := ((HR.out.2.1.then HM.out).alloc (.cells #[.int .i64 yi] 3)).trans ((Mod.refl (obl u9) _).grown hgr6 (fun x e _ => mem_obl.2 e)) (by simp) (fun x hx hlt2 => (by
               have h1 := HR.out.1.own (mem_obl.1 hx)
               omega))
             have H6 := hide (And.intro hr6 m6)
             clear hr6 m6 hown6 hgr6 hown r1 hi hz0 hz1 hz2)
          | fail)
        go_roundw
        case measure => simp [intOf]; omega
        case rel => first
          | exact ⟨k + 1, by omega, by go_num, by rw [HK.out.2 (by simp)]; exact HR.out.1.mod HM.out (by simp), HR.out.2.1.then HM.out⟩
          | exact ⟨k + 1, by omega, by go_num, by rw [HK.out.1 (by simp)]; exact H6.out.1, H6.out.2⟩
    · have ek : k = L.length := by omega
      rw [ek, List.take_length] at hrow
      have hle : ((L.filter (standsB p.data.toList m who)).map Ent.id).length ≤ 64 := by
        rw [List.length_map]
        exact Nat.le_trans (List.length_filter_le _ _) hl
      have HR := hide (And.intro hrow hmw)
      clear ek hmw
      go_wp2_with (
        go_at_call 40
        refine (rsorted_any hrow hle).mono ?_
        rintro e w1 ⟨rfl, hr1, hm1⟩
        have H1 := hide (And.intro hr1 hm1)
        clear hr1 hm1 hrow)
      go_ret
      exact ⟨_, rfl, H1.out.1, HR.out.2.trans H1.out.2 (by simp) (fun x hx hlt2 => by
        have h1 := HR.out.1.own (mem_obl.1 hx)
        omega)⟩
end Go.Proofs.YthkcbennfochmaaGreatDoor
