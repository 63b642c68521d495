/-
  WALK: layer 5: Clash.
-/
import Derived.Test.YthkcbennfochmaaGreatDoorPsAsk
namespace Go.Proofs.YthkcbennfochmaaGreatDoor
open Go.RowKit Go.Maps

theorem alto_clash {w1 : World} {o : Option Addr} {N : List Nd} {l : List Ent} (hQ : SetQ w1 o N l) {p : List UInt8} {xs : List Ent} {bp : Option Addr} (m who : Int)
    (h : (pathOk p = false ∧ xs = [] ∧ bp = none) ∨ (pathOk p = true ∧ xs.Perm (onWay l (segsOf p) (segsOf p).length) ∧ ((∃ n, n ∈ N ∧ n.pre = segsOf p ∧ bp = some ⟨n.b, 0, none⟩) ∨ ((∀ n, n ∈ N → n.pre ≠ segsOf p) ∧ bp = none)))) :
    (bp = none ∧ xs.length ≤ 64 ∧ (modE m = true → sortI ((xs.filter (fitsC m who)).map Ent.id) = clashS5 l p m who)) ∨
    (∃ n, n ∈ N ∧ bp = some ⟨n.b, 0, none⟩ ∧ xs.length + (belowL l n.pre).length ≤ 64 ∧ ∀ ys : List Ent, ys.Perm (belowL l n.pre) → modE m = true → sortI (((xs ++ ys).filter (fitsC m who)).map Ent.id) = clashS5 l p m who) := by
  have e0 : sortI [] = [] := List.perm_nil.1 (sortI_perm [])
  rcases h with ⟨h1, rfl, rfl⟩ | ⟨hpk, hperm, hend⟩
  · exact .inl ⟨rfl, Nat.zero_le _, fun _ => by rw [clash_bad (.inl h1)]; exact e0⟩
  · have hlap : (onWay l (segsOf p) (segsOf p).length).length + (belowL l (segsOf p)).length ≤ 64 := by
      have h1 := (lap_perm l (segsOf p)).length_eq
      rw [List.length_append] at h1
      have h2 : (l.filter fun e => decide (e.sg <+: segsOf p ∨ segsOf p <+: e.sg)).length ≤ l.length := List.length_filter_le _ _
      have h3 := hQ.small
      change _ = (onWay l (segsOf p) (segsOf p).length).length + _ at h1
      omega
    rcases hend with ⟨n, hn, hnp, rfl⟩ | ⟨hno, rfl⟩
    · refine .inr ⟨n, hn, rfl, by rw [hnp, hperm.length_eq]; exact hlap, fun ys hy hm => ?_⟩
      exact clash_ans hQ.fine hpk hm (hperm.append (by rw [← hnp]; exact hy))
    · refine .inl ⟨rfl, by rw [hperm.length_eq]; omega, fun hm => ?_⟩
      exact clash_ans hQ.fine hpk hm (by rw [(hQ.miss hno).2, List.append_nil]; exact hperm)
set_option maxHeartbeats 2000000 in
set_option maxRecDepth 100000 in
theorem sclash_any {w : World} {o : Option Addr} {N : List Nd} {l : List Ent} (h : SetQ w o N l) (p : ByteArray) (hp : p.size ≤ 9223372036854775807) (m who : Int) :
    Calls Tryz.prog 13 #[.pointer o, .string p, .int .i64 m, .int .i64 who] w fun en w' => NewN w (clashS5 l p.data.toList m who) en w' := by
  obtain ⟨i0, hi, hz0, hz1, hz2⟩ := info_parts info_ent
  have HI := hide (And.intro hi (And.intro hz0 (And.intro hz1 hz2)))
  clear hi hz0 hz1 hz2
  have HX := hide h
  clear h
  go_enter Tryz.func13, Tryz.ntmps13
  go_wp2_with fail
  have b1 := blk_alloc (heap_alloc_new w (.cells #[.int .i64 m] 27)) (.cells #[.int .i64 who] 3)
  have b2 := heap_alloc_new (w.alloc (.cells #[.int .i64 m] 27)) (.cells #[.int .i64 who] 3)
  have gB := ((Gr.refl w).alloc (.cells #[.int .i64 m] 27)).alloc (.cells #[.int .i64 who] 3)
  have hszB : ((w.alloc (.cells #[.int .i64 m] 27)).alloc (.cells #[.int .i64 who] 3)).heap.size = w.heap.size + 2 := by simp
  rw [World.size_alloc] at b2
  refine (along_q (HX.out.same (gB.mod [])) p hp).mono ?_
  rintro en w1 ⟨v, xs, bp, rfl, hrow, hm1, hcase⟩
  rw [hszB] at hrow
  have C1 := blk_cell (hm1.at_ b1 (by simp))
  have C2 := blk_cell (hm1.at_ b2 (by simp))
  have hmw : Mod [] w w1 := (gB.mod []).then hm1
  have hQ := HX.out.same hmw
  have hend := alto_clash hQ m who hcase
  have HB := hide (And.intro (hm1.at_ b1 (by simp)) (And.intro (hm1.at_ b2 (by simp)) hmw))
  have hmd : (m = 1 ∧ modE m = true) ∨ (m = 2 ∧ modE m = true) ∨ ((m != 1) = true ∧ (m != 2) = true ∧ modE m = false) := by
    by_cases e1 : m = 1
    · exact .inl ⟨e1, by rw [e1]; rfl⟩
    · by_cases e2 : m = 2
      · exact .inr (.inl ⟨e2, by rw [e2]; rfl⟩)
      · exact .inr (.inr ⟨by simpa using e1, by simpa using e2, by simp [modE, e1, e2]⟩)
  clear b1 b2 gB hszB hm1 hcase hmw
  rcases hend with ⟨rfl, hxl, hans⟩ | ⟨n, hn, rfl, hlen, hans⟩
  · clear hQ HI
    rcases hmd with ⟨e, hmd⟩ | ⟨e, hmd⟩ | ⟨n1, n2, hmd⟩
    · have HA := hide (hans hmd)
      clear hans hmd
      subst e
      have c1 : w1.cell? ⟨w.heap.size + 1, 0, none⟩ = some (.int .i64 who) := by rw [C2]; rfl
      have c2 : w1.cell? ⟨w.heap.size, 0, none⟩ = some (.int .i64 1) := by rw [C1]; rfl
      go_wp2_with (
        go_at_call 32
        refine (ids_clash hrow hxl c1 c2).mono ?_
        rintro e w6 ⟨v6, rfl, hr6, hm6⟩
        have HR := hide (And.intro hr6 hm6)
        clear hr6 hm6 hrow)
      go_ret
      obtain ⟨hr6, hm6⟩ := HR.out
      obtain ⟨-, -, hmw⟩ := HB.out
      rw [HA.out] at hr6
      exact ⟨_, rfl, hr6.mono hmw.size, hmw.then hm6⟩
    · have HA := hide (hans hmd)
      clear hans hmd
      subst e
      have c1 : w1.cell? ⟨w.heap.size + 1, 0, none⟩ = some (.int .i64 who) := by rw [C2]; rfl
      have c2 : w1.cell? ⟨w.heap.size, 0, none⟩ = some (.int .i64 2) := by rw [C1]; rfl
      go_wp2_with (
        go_at_call 32
        refine (ids_clash hrow hxl c1 c2).mono ?_
        rintro e w6 ⟨v6, rfl, hr6, hm6⟩
        have HR := hide (And.intro hr6 hm6)
        clear hr6 hm6 hrow)
      go_ret
      obtain ⟨hr6, hm6⟩ := HR.out
      obtain ⟨-, -, hmw⟩ := HB.out
      rw [HA.out] at hr6
      exact ⟨_, rfl, hr6.mono hmw.size, hmw.then hm6⟩
    · have HA := hide hmd
      clear hans hmd hrow
      go_wp2_with fail
      go_ret
      obtain ⟨-, -, hmw⟩ := HB.out
      rw [clash_bad (.inr HA.out)]
      exact NewN.zero _ hmw
  · have hbel := hQ.below hn
    have HK := hide (And.intro hans (And.intro hlen hrow))
    clear hQ hn hans hlen hrow
    rcases hmd with ⟨e, hmd⟩ | ⟨e, hmd⟩ | ⟨n1, n2, hmd⟩
    all_goals
      have HMD := hide hmd
      clear hmd
      try subst e
      go_wp2_with (first
        | (go_at_call 24
           refine hbel.mono ?_
           rintro e w4 ⟨v4, ys, rfl, hp4, hr4, hm4⟩
           obtain ⟨hans, hlen, hrow⟩ := HK.out
           obtain ⟨hi, hz0, hz1, hz2⟩ := HI.out
           have hrow4 := hrow.mod hm4 (by simp)
           have hlen4 : xs.length + ys.length ≤ 64 := (by rw [hp4.length_eq]; exact hlen)
           have q6 : xs.length + ys.length ≤ maxLen := by unfold maxLen; omega
           have q7 : (xs.length + ys.length) * 40 ≤ 140737488355328 := by omega
           obtain ⟨b1, b2, hmw⟩ := HB.out
           have q8 : w.heap.size + 2 ≤ w4.heap.size := (by
             have h1 := lt_of_block b2
             have h2 := hm4.size
             omega)
           have H4 := hide (And.intro (hans ys hp4) hm4)
           clear hp4 hm4 hans hlen hrow b1 b2 hmw hbel C1 C2)
        | (at_builtin
           refine wpList_append_row _ rfl _ _ 26 rfl 29 i0 _ 4 40 Tryz.underlying26 hi hz0 hz1 hz2 rfl (by decide) rfl hrow4 rfl hr4 (encEs_one ys) q6 q7 q8 ?_
           intro u5 w5 hown5 hgr5
           have hu5 := row_two hown5
           have hown4 := fun k (hk : Value.ownBlock v = some k) => hrow4.own hk
           obtain ⟨b1, b2, hmw⟩ := HB.out
           have h4m := H4.out.2
           have m45 : Mod (obl v) w4 w5 := (Mod.refl (obl v) w4).grown hgr5 (fun k e _ => mem_obl.2 e)
           have m15 : Mod (obl v) w1 w5 := (h4m.mono (by simp)).then m45
           have C1 := blk_cell (m15.at_ b1 (fun e => (by have := hown4 _ (mem_obl.1 e); omega)))
           have C2 := blk_cell (m15.at_ b2 (fun e => (by have := hown4 _ (mem_obl.1 e); omega)))
           have hm5 : Mod [] w w5 := hmw.trans m15 (by simp) (fun k hk hlt2 => (by
             have h1 := hown4 k (mem_obl.1 hk)
             omega))
           have h64 : (xs ++ ys).length ≤ 64 := (by rw [List.length_append]; exact hlen4)
           have HM5 := hide hm5
           have c1 : w5.cell? ⟨w.heap.size + 1, 0, none⟩ = some (.int .i64 who) := (by rw [C2]; rfl)
           have c2 := C1 0
           clear hm5 hown4 hown5 hgr5 hrow4 hr4 hi hz0 hz1 hz2 b1 b2 hmw h4m m45 m15)
        | (go_at_call 32
           refine (ids_clash hu5 h64 c1 c2).mono ?_
           rintro e w6 ⟨v6, rfl, hr6, hm6⟩
           have HR := hide (And.intro hr6 hm6)
           clear hr6 hm6 hu5 c1 c2)
        | fail)
      go_ret
    · obtain ⟨hr6, hm6⟩ := HR.out
      rw [H4.out.1 HMD.out] at hr6
      exact ⟨_, rfl, hr6.mono HM5.out.size, HM5.out.then hm6⟩
    · obtain ⟨hr6, hm6⟩ := HR.out
      rw [H4.out.1 HMD.out] at hr6
      exact ⟨_, rfl, hr6.mono HM5.out.size, HM5.out.then hm6⟩
    · rw [clash_bad (.inr HMD.out)]
      exact NewN.zero _ HM5.out
end Go.Proofs.YthkcbennfochmaaGreatDoor
