/-
  WALK: layer 5: ids.
-/
import Derived.Test.YthkcbennfochmaaGreatDoorPsAlong
namespace Go.Proofs.YthkcbennfochmaaGreatDoor
open Go.RowKit Go.Maps

theorem row_one {w : World} {b : Nat} {v : Value} {e : TypeId} (h : w.heap[b]? = some (.cells #[v] e (0, 0))) : w.ownsRow b e 1 (.slice (some ⟨b, 0, none⟩) 1 1) 1 [v] :=
  ⟨rfl, .inr ⟨b, 1, #[v], rfl, Nat.le_refl _, h, Nat.le_refl _, by unfold maxLen; omega, rfl, rfl⟩⟩
theorem info_num : (Tryz.prog.info? 3).map (fun i => (i.zero, i.size, i.bytes)) = some (some (.int .i64 0), 1, 8) := by kernel_rfl
/-- does an entry stand against a mode and a holder? -/
def fitsC (m who : Int) (e : Ent) : Bool := (e.who != who) && ((m == 2) || (e.mode == 2))
set_option maxRecDepth 100000 in
theorem clash1_any {w : World} {bw bm : Nat} {m who : Int} (h1 : w.cell? ⟨bw, 0, none⟩ = some (.int .i64 who)) (h2 : w.cell? ⟨bm, 0, none⟩ = some (.int .i64 m)) (id : Int) (p : ByteArray) (em ew : Int) :
    Calls Tryz.prog 33 #[.agg #[.int .i64 id, .string p, .int .i64 em, .int .i64 ew], .pointer (some ⟨bw, 0, none⟩), .pointer (some ⟨bm, 0, none⟩)] w fun e w' => e = .returned (.bool (fitsC m who ⟨id, p, em, ew⟩)) ∧ Gr w w' := by
  have G := hide ((Gr.refl w).alloc (objE id p em ew))
  have l1 := World.block_lt_of_cell? w ⟨bw, 0, none⟩ h1
  have l2 := World.block_lt_of_cell? w ⟨bm, 0, none⟩ h2
  have n1 : ¬ bw = w.heap.size := by simp at l1; omega
  have n2 : ¬ bm = w.heap.size := by simp at l2; omega
  unfold fitsC
  simp only
  cases hb1 : (ew != who)
  · go_enter Tryz.func33, Tryz.ntmps33
    go_wp2_with fail
    go_ret
    exact ⟨rfl, G.out⟩
  · cases hb2 : (m == 2)
    · go_enter Tryz.func33, Tryz.ntmps33
      go_wp2_with fail
      go_ret
      exact ⟨rfl, G.out⟩
    · go_enter Tryz.func33, Tryz.ntmps33
      go_wp2_with fail
      go_ret
      exact ⟨rfl, G.out⟩
theorem eql_none (W : World) : (binOp .eql 75 Value.nilFunc Value.nilFunc).run Tryz.prog W = .ok (.bool true) W := by kernel_rfl
theorem eql_some (a b : Value) (W : World) : (binOp .eql 75 (.func (.func 33) #[] #[a, b]) Value.nilFunc).run Tryz.prog W = .ok (.bool false) W := by kernel_rfl
/-- what ids answers -/
def IdsTo (w : World) (xs : List Ent) (f : Ent → Bool) (e : Ending) (w' : World) : Prop := ∃ v, e = .returned v ∧ RowN w' w.heap.size v (sortI ((xs.filter f).map Ent.id)) ∧ Mod [] w w'
def IdsRel (w : World) (xs : List Ent) (f : Ent → Bool) (g : Nat) (u i : Value) (wr : World) : Prop :=
  ∃ k, k + g = xs.length ∧ i = .int .i64 (k : Nat) ∧ RowN wr w.heap.size u (((xs.take k).filter f).map Ent.id) ∧ Mod [] w wr
theorem take_succ_getD (xs : List Ent) {k : Nat} (h : k < xs.length) : xs.take (k + 1) = xs.take k ++ [xs.getD k default] := by
  rw [List.take_add_one]
  simp [h]
theorem ids_hit (xs : List Ent) (f : Ent → Bool) {k : Nat} (h : k < xs.length) (hf : f (xs.getD k default) = true) : ((xs.take (k + 1)).filter f).map Ent.id = ((xs.take k).filter f).map Ent.id ++ [(xs.getD k default).id] := by
  rw [take_succ_getD xs h, List.filter_append, List.map_append, List.filter_cons, if_pos hf]
  rfl
theorem ids_miss (xs : List Ent) (f : Ent → Bool) {k : Nat} (h : k < xs.length) (hf : f (xs.getD k default) = false) : ((xs.take (k + 1)).filter f).map Ent.id = ((xs.take k).filter f).map Ent.id := by
  rw [take_succ_getD xs h, List.filter_append, List.map_append, List.filter_cons, if_neg (by rw [hf]; simp)]
  simp
set_option maxHeartbeats 2000000 in
set_option maxRecDepth 100000 in
theorem ids_nil0 {w : World} {base : Nat} {q : Option Addr} {n c : Nat} {xs : List Ent} (hx : RowE w base (.slice q n c) xs) (hn : n = xs.length) (hsm : xs.length ≤ 64) (f : Ent → Bool) (hf : ∀ e, f e = true) :
    Calls Tryz.prog 32 #[.slice q n c, Value.nilFunc] w fun en w' => IdsTo w xs f en w' := by
  subst hn
  obtain ⟨i0, hi, hz0, hz1, hz2⟩ := info_parts info_num
  have HI := hide (And.intro hi (And.intro hz0 (And.intro hz1 hz2)))
  have HX := hide hx
  have heq := eql_none
  clear hx hi hz0 hz1 hz2
  go_enter Tryz.func32, Tryz.ntmps32
  go_wp2_with fail
  go_loopg [5, 10] xs.length (fun g u i wr => IdsRel w xs f g u i wr)
  case atStart => exact ⟨0, Nat.zero_add _, rfl, by simpa using RowN.nil w w.heap.size, Mod.refl _ _⟩
  case round =>
    obtain ⟨k, hk, rfl, hrow, hmr⟩ := hrel
    by_cases hlt : k < xs.length
    · obtain ⟨gg, rfl⟩ : ∃ g, gk = g + 1 := ⟨gk - 1, by omega⟩
      obtain ⟨g0, rfl, hb0, hl0, c0, c1, c2, c3⟩ := HX.out.at_ hlt
      replace c0 := hmr.kept c0 (by simp)
      replace c1 := hmr.kept c1 (by simp)
      replace c2 := hmr.kept c2 (by simp)
      replace c3 := hmr.kept c3 (by simp)
      have i0' : (0 : Int) ≤ (k : Int) := by omega
      have i1 : (k : Int) < (xs.length : Int) := by omega
      have hhit := ids_hit xs f hlt
      have hmiss := ids_miss xs f hlt
      have hlen : (((xs.take k).filter f).map Ent.id).length ≤ 64 := by
        rw [List.length_map]
        have h1 : ((xs.take k).filter f).length ≤ (xs.take k).length := List.length_filter_le _ _
        have h2 : (xs.take k).length ≤ xs.length := by rw [List.length_take]; omega
        omega
      obtain ⟨⟨id, p, m, ew⟩, he⟩ : ∃ e, xs.getD k default = e := ⟨_, rfl⟩
      rw [he] at c0 c1 c2 c3 hhit hmiss
      dsimp only at c0 c1 c2 c3
      generalize hL : ((xs.take k).filter f).map Ent.id = L at hrow hhit hmiss hlen
      have HK := hide (And.intro hhit (And.intro hmiss (And.intro hmr hrow)))
      have hgo := hide (fun (u5 : Value) (w5 : World) (hm5 : Mod [] w w5) (hr5 : RowN w5 w.heap.size u5 (((xs.take (k + 1)).filter f).map Ent.id)) => (⟨k + 1, by omega, rfl, hr5, hm5⟩ : IdsRel w xs f gg u5 (.int .i64 (k + 1 : Nat)) w5))
      clear he hL hhit hmiss
      obtain ⟨hhit, hmiss, hmr, hrow⟩ := HK.out
      obtain ⟨hi, hz0, hz1, hz2⟩ := HI.out
      have q6 : L.length + 1 ≤ maxLen := by unfold maxLen; omega
      have q7 : (L.length + 1) * 8 ≤ 140737488355328 := by omega
      have hrow2 := (hrow.mod (((Gr.refl wr).alloc (objE id p m ew)).mod []) (by simp)).mod (((Gr.refl (wr.alloc (objE id p m ew))).alloc (.cells #[.int .i64 id] 3)).mod []) (by simp)
      have r1 := row_one (heap_alloc_new (wr.alloc (objE id p m ew)) (.cells #[.int .i64 id] 3))
      have q8 : w.heap.size ≤ ((wr.alloc (objE id p m ew)).alloc (.cells #[.int .i64 id] 3)).heap.size := by have := hmr.size; simp; omega
      simp only [World.size_alloc] at r1
      clear hhit hmiss hmr hrow
      go_wp2_with (first
        | (at_builtin
           refine wpList_append_row _ rfl _ _ 43 rfl 3 i0 _ 1 8 Tryz.underlying43 hi hz0 hz1 hz2 rfl (by decide) rfl hrow2 rfl r1 (by simp [Value.oneCell']) q6 q7 q8 ?_
           intro u6 w5 hown5 hgr5
           obtain ⟨hhit, hmiss, hmr, hrow⟩ := HK.out
           have hr5 : RowN w5 w.heap.size u6 (((xs.take (k + 1)).filter f).map Ent.id) := by
             rw [hhit (hf _)]
             unfold RowN
             rw [List.length_append, List.map_append]
             exact hown5
           have hm5 : Mod [] w w5 := ((hmr.alloc _).alloc _).trans ((Mod.refl (obl u5) _).grown hgr5 (fun k e _ => mem_obl.2 e)) (by simp) (fun k hk hlt2 => (by
             have h1 := hrow.own (mem_obl.1 hk)
             omega))
           have HG := hide (hgo.out u6 w5 hm5 hr5)
           clear hhit hmiss hmr hrow hr5 hm5 hown5 hgr5 hrow2 r1 hi hz0 hz1 hz2)
        | fail)
      go_roundg gg
      case measure => omega
      case rel => exact HG.out
    · have hkk : k = xs.length := by omega
      have hrow2 := hrow
      rw [hkk, List.take_length] at hrow2
      have hsz : ((xs.filter f).map Ent.id).length ≤ 100000 := by
        rw [List.length_map]
        have h1 : (xs.filter f).length ≤ xs.length := List.length_filter_le _ _
        omega
      clear hrow HI
      have HM := hide hmr
      go_wp2_with (
        go_at_call 50
        refine (sortN_any hrow2 hsz).mono ?_
        rintro e w5 ⟨rfl, hr5, hgr5⟩
        have hm5 : Mod [] w w5 := HM.out.trans ((Mod.refl (obl u5) wr).grown hgr5 (fun k e _ => mem_obl.2 e)) (by simp) (fun k hk hlt2 => by
          have h1 := hrow2.own (mem_obl.1 hk)
          omega)
        clear hrow2 hgr5)
      go_ret
      exact ⟨_, rfl, hr5, hm5⟩
set_option maxHeartbeats 2000000 in
set_option maxRecDepth 100000 in
theorem ids_clash0 {w : World} {base : Nat} {q : Option Addr} {n c : Nat} {xs : List Ent} (hx : RowE w base (.slice q n c) xs) (hn : n = xs.length) (hsm : xs.length ≤ 64) (f : Ent → Bool) {bw bm : Nat} {md who : Int} (hw : w.cell? ⟨bw, 0, none⟩ = some (.int .i64 who)) (hmd : w.cell? ⟨bm, 0, none⟩ = some (.int .i64 md)) (hf : ∀ e, f e = fitsC md who e) :
    Calls Tryz.prog 32 #[.slice q n c, .func (.func 33) #[] #[.pointer (some ⟨bw, 0, none⟩), .pointer (some ⟨bm, 0, none⟩)]] w fun en w' => IdsTo w xs f en w' := by
  subst hn
  obtain ⟨i0, hi, hz0, hz1, hz2⟩ := info_parts info_num
  have HI := hide (And.intro hi (And.intro hz0 (And.intro hz1 hz2)))
  have HX := hide hx
  have heq := eql_some
  clear hx hi hz0 hz1 hz2
  go_enter Tryz.func32, Tryz.ntmps32
  go_wp2_with fail
  go_loopg [5, 10] xs.length (fun g u i wr => IdsRel w xs f g u i wr)
  case atStart => exact ⟨0, Nat.zero_add _, rfl, by simpa using RowN.nil w w.heap.size, Mod.refl _ _⟩
  case round =>
    obtain ⟨k, hk, rfl, hrow, hmr⟩ := hrel
    by_cases hlt : k < xs.length
    · obtain ⟨gg, rfl⟩ : ∃ g, gk = g + 1 := ⟨gk - 1, by omega⟩
      obtain ⟨g0, rfl, hb0, hl0, c0, c1, c2, c3⟩ := HX.out.at_ hlt
      replace c0 := hmr.kept c0 (by simp)
      replace c1 := hmr.kept c1 (by simp)
      replace c2 := hmr.kept c2 (by simp)
      replace c3 := hmr.kept c3 (by simp)
      have i0' : (0 : Int) ≤ (k : Int) := by omega
      have i1 : (k : Int) < (xs.length : Int) := by omega
      have hhit := ids_hit xs f hlt
      have hmiss := ids_miss xs f hlt
      have hlen : (((xs.take k).filter f).map Ent.id).length ≤ 64 := by
        rw [List.length_map]
        have h1 : ((xs.take k).filter f).length ≤ (xs.take k).length := List.length_filter_le _ _
        have h2 : (xs.take k).length ≤ xs.length := by rw [List.length_take]; omega
        omega
      obtain ⟨⟨id, p, m, ew⟩, he⟩ : ∃ e, xs.getD k default = e := ⟨_, rfl⟩
      rw [he] at c0 c1 c2 c3 hhit hmiss
      dsimp only at c0 c1 c2 c3
      generalize hL : ((xs.take k).filter f).map Ent.id = L at hrow hhit hmiss hlen
      have HK := hide (And.intro hhit (And.intro hmiss (And.intro hmr hrow)))
      have hgo := hide (fun (u5 : Value) (w5 : World) (hm5 : Mod [] w w5) (hr5 : RowN w5 w.heap.size u5 (((xs.take (k + 1)).filter f).map Ent.id)) => (⟨k + 1, by omega, rfl, hr5, hm5⟩ : IdsRel w xs f gg u5 (.int .i64 (k + 1 : Nat)) w5))
      clear he hL hhit hmiss
      have gA := (Gr.refl wr).alloc (objE id p m ew)
      have cw4 := gA.kept (hmr.kept hw (by simp))
      have cm4 := gA.kept (hmr.kept hmd (by simp))
      have hbx := blk_cell (heap_alloc_new wr (objE id p m ew))
      clear hrow gA
      cases hfv : fitsC md who ⟨id, p, m, ew⟩
      · have HFV := hide hfv
        clear hfv
        go_wp2_with (
          go_at_call 33
          refine (clash1_any cw4 cm4 _ _ _ _).mono ?_
          rw [HFV.out]
          rintro e w4 ⟨rfl, hg4⟩
          have HG4 := hide hg4
          clear hg4 cw4 cm4)
        go_roundg gg
        case measure => omega
        case rel =>
          obtain ⟨hhit, hmiss, hmr, hrow⟩ := HK.out
          have hm4 : Mod [] wr w4 := (((Gr.refl wr).alloc _).trans HG4.out).mod []
          exact hgo.out _ w4 (hmr.then hm4) (by rw [hmiss (by rw [hf]; exact HFV.out)]; exact hrow.mod hm4 (by simp))
      · have HFV := hide hfv
        clear hfv
        go_wp2_with (first
          | (go_at_call 33
             refine (clash1_any cw4 cm4 _ _ _ _).mono ?_
             rw [HFV.out]
             rintro e w4 ⟨rfl, hg4⟩
             have hbx4 := blk_cell ((hg4.mod []).at_ (heap_alloc_new wr (objE id p m ew)) (by simp))
             obtain ⟨hhit, hmiss, hmr, hrow⟩ := HK.out
             obtain ⟨hi, hz0, hz1, hz2⟩ := HI.out
             have q6 : L.length + 1 ≤ maxLen := by unfold maxLen; omega
             have q7 : (L.length + 1) * 8 ≤ 140737488355328 := by omega
             have hm4 : Mod [] wr w4 := (((Gr.refl wr).alloc _).trans hg4).mod []
             have hrow2 := (hrow.mod hm4 (by simp)).mod (((Gr.refl w4).alloc (.cells #[.int .i64 id] 3)).mod []) (by simp)
             have r1 := row_one (heap_alloc_new w4 (.cells #[.int .i64 id] 3))
             have q8 : w.heap.size ≤ (w4.alloc (.cells #[.int .i64 id] 3)).heap.size := (by have h1 := hmr.size; have h2 := hm4.size; simp; omega)
             have HM4 := hide hm4
             clear hhit hmiss hmr hrow hg4 hm4 cw4 cm4 hbx)
          | (at_builtin
             refine wpList_append_row _ rfl _ _ 43 rfl 3 i0 _ 1 8 Tryz.underlying43 hi hz0 hz1 hz2 rfl (by decide) rfl hrow2 rfl r1 (by simp [Value.oneCell']) q6 q7 q8 ?_
             intro u6 w5 hown5 hgr5
             obtain ⟨hhit, hmiss, hmr, hrow⟩ := HK.out
             have hr5 : RowN w5 w.heap.size u6 (((xs.take (k + 1)).filter f).map Ent.id) := by
               rw [hhit (by rw [hf]; exact HFV.out)]
               unfold RowN
               rw [List.length_append, List.map_append]
               exact hown5
             have hm5 : Mod [] w w5 := ((hmr.then HM4.out).alloc _).trans ((Mod.refl (obl u5) _).grown hgr5 (fun k e _ => mem_obl.2 e)) (by simp) (fun k hk hlt2 => (by
               have h1 := hrow.own (mem_obl.1 hk)
               omega))
             have HG := hide (hgo.out u6 w5 hm5 hr5)
             clear hhit hmiss hmr hrow hr5 hm5 hown5 hgr5 hrow2 r1 hi hz0 hz1 hz2)
          | fail)
        go_roundg gg
        case measure => omega
        case rel => exact HG.out
    · have hkk : k = xs.length := by omega
      have hrow2 := hrow
      rw [hkk, List.take_length] at hrow2
      have hsz : ((xs.filter f).map Ent.id).length ≤ 100000 := by
        rw [List.length_map]
        have h1 : (xs.filter f).length ≤ xs.length := List.length_filter_le _ _
        omega
      clear hrow HI
      have HM := hide hmr
      go_wp2_with (
        go_at_call 50
        refine (sortN_any hrow2 hsz).mono ?_
        rintro e w5 ⟨rfl, hr5, hgr5⟩
        have hm5 : Mod [] w w5 := HM.out.trans ((Mod.refl (obl u5) wr).grown hgr5 (fun k e _ => mem_obl.2 e)) (by simp) (fun k hk hlt2 => by
          have h1 := hrow2.own (mem_obl.1 hk)
          omega)
        clear hrow2 hgr5)
      go_ret
      exact ⟨_, rfl, hr5, hm5⟩
theorem ids_any {w : World} {base : Nat} {v : Value} {xs : List Ent} (hx : RowE w base v xs) (hsm : xs.length ≤ 64) : Calls Tryz.prog 32 #[v, Value.nilFunc] w fun en w' => IdsTo w xs (fun _ => true) en w' := by
  obtain ⟨q, c, rfl⟩ := hx.form
  exact ids_nil0 hx rfl hsm _ fun _ => rfl
theorem ids_clash {w : World} {base : Nat} {v : Value} {xs : List Ent} (hx : RowE w base v xs) (hsm : xs.length ≤ 64) {bw bm : Nat} {md who : Int} (hw : w.cell? ⟨bw, 0, none⟩ = some (.int .i64 who)) (hmd : w.cell? ⟨bm, 0, none⟩ = some (.int .i64 md)) :
    Calls Tryz.prog 32 #[v, .func (.func 33) #[] #[.pointer (some ⟨bw, 0, none⟩), .pointer (some ⟨bm, 0, none⟩)]] w fun en w' => IdsTo w xs (fitsC md who) en w' := by
  obtain ⟨q, c, rfl⟩ := hx.form
  exact ids_clash0 hx rfl hsm _ hw hmd fun _ => rfl
end Go.Proofs.YthkcbennfochmaaGreatDoor
