/-
  WALK: the document's answer for layer 5: Put.
-/
import Derived.Test.YthkcbennfochmaaGreatDoorPsRef2
namespace Go.Proofs.YthkcbennfochmaaGreatDoor
open Go.RowKit Go.Maps

theorem insE_at {e : Ent} : ∀ (L : List Ent) (i : Nat), i ≤ L.length → (∀ j, j < i → ltE (L.getD j default) e) → (i = L.length ∨ ¬ ltE (L.getD i default) e) → insE e L = L.take i ++ e :: L.drop i
  | [], i, hi, _, _ => by
    have : i = 0 := by simpa using hi
    subst this
    rfl
  | x :: r, 0, _, _, h => by
    unfold insE
    rcases h with h | h
    · simp at h
    · rw [if_neg (show ¬ ltE x e from h)]; rfl
  | x :: r, i + 1, hi, hj, h => by
    have hx : ltE x e := hj 0 (by omega)
    unfold insE
    rw [if_pos hx, insE_at r i (by simpa using hi) (fun j hjt => hj (j + 1) (by omega)) (by
      rcases h with h | h
      · exact .inl (by simpa using h)
      · exact .inr h)]
    rfl
def TLive3 (w6 w' : World) : Prop := Mod [] w6 w'
theorem TLive3.mod {w6 w' : World} (h : TLive3 w6 w') : Mod [] w6 w' := h
/-- a world that has grown, with two entries in it -/
theorem tl2_of {w6 w' : World} {b g o : Nat} {xi xm xw yi ym yw : Int} {xp yp : ByteArray} (hb : w6.heap[b]? = some (objE xi xp xm xw)) (c0 : w6.cell? ⟨g, o, none⟩ = some (.int .i64 yi)) (c1 : w6.cell? ⟨g, o + 1, none⟩ = some (.string yp)) (c2 : w6.cell? ⟨g, o + 2, none⟩ = some (.int .i64 ym)) (c3 : w6.cell? ⟨g, o + 3, none⟩ = some (.int .i64 yw)) (h : Mod [] w6 w') :
    TLive3 w6 w' ∧ w'.cell? ⟨b, 0, none⟩ = some (.int .i64 xi) ∧ w'.cell? ⟨b, 1, none⟩ = some (.string xp) ∧ w'.cell? ⟨b, 2, none⟩ = some (.int .i64 xm) ∧ w'.cell? ⟨b, 3, none⟩ = some (.int .i64 xw) ∧ w'.cell? ⟨g, o, none⟩ = some (.int .i64 yi) ∧ w'.cell? ⟨g, o + 1, none⟩ = some (.string yp) ∧ w'.cell? ⟨g, o + 2, none⟩ = some (.int .i64 ym) ∧ w'.cell? ⟨g, o + 3, none⟩ = some (.int .i64 yw) := by
  have C := blk_cell (h.at_ hb (by simp))
  exact ⟨h, C 0, C 1, C 2, C 3, h.kept c0 (by simp), h.kept c1 (by simp), h.kept c2 (by simp), h.kept c3 (by simp)⟩
def RPutTo (w : World) (v : Value) (L : List Ent) (s : List Ent × Int) (e : Ending) (w' : World) : Prop := ∃ v', e = .returned (.tuple #[v', .int .i64 s.2]) ∧ Mod [] w w' ∧ ((v' = v ∧ s.1 = L) ∨ RowE w' w.heap.size v' s.1)
def RPut1 (w : World) (L : List Ent) (x : Ent) (u i : Value) (wr : World) : Prop := ∃ k : Nat, k ≤ L.length ∧ i = .int .i64 k ∧ (∀ j, j < k → ltE (L.getD j default) x) ∧ RowE wr w.heap.size u (L.take k) ∧ Mod [] w wr
def RPut2 (w : World) (L : List Ent) (x : Ent) (k0 : Nat) (u i : Value) (wr : World) : Prop := ∃ (k : Nat) (xs : List Ent), k ≤ L.length ∧ i = .int .i64 k ∧ xs.length ≤ k + 1 ∧ xs ++ L.drop k = L.take k0 ++ x :: L.drop k0 ∧ RowE wr w.heap.size u xs ∧ Mod [] w wr
theorem drop_getD (L : List Ent) {k : Nat} (h : k < L.length) : L.drop k = L.getD k default :: L.drop (k + 1) := by
  rw [List.drop_eq_getElem_cons h]
  simp [h]
set_option maxHeartbeats 4000000 in
set_option maxRecDepth 100000 in
theorem rput_any {w : World} {v : Value} {L : List Ent} (h : RdE w v L) (hin : ∀ e, e ∈ L → e.path.size ≤ 9223372036854775806) (hl : L.length ≤ 64) (id m who : Int) (p : ByteArray) (hp : p.size ≤ 9223372036854775806) :
    Calls Tryz.prog 23 #[v, .agg #[.int .i64 id, .string p, .int .i64 m, .int .i64 who]] w fun e w' => RPutTo w v L (putS5 L ⟨id, p, m, who⟩) e w' := by
  obtain ⟨q, c, rfl⟩ := h.len
  obtain ⟨i0, hi, hz0, hz1, hz2⟩ := info_parts info_ent
  have HI := hide (And.intro hi (And.intro hz0 (And.intro hz1 hz2)))
  have HX := hide (And.intro h hin)
  have B0 := heap_alloc_new w (objE id p m who)
  have G0 := ((Gr.refl w).alloc (objE id p m who)).mod []
  have H0 := hide (And.intro B0 G0)
  have hsp : putS5 L ⟨id, p, m, who⟩ = if pathOk p.data.toList = false then (L, 10) else if modE m = false then (L, 11) else if hasId L id then (L, 50) else if L.length = 64 then (L, 51) else (insE ⟨id, p, m, who⟩ L, 0) := rfl
  have HSP := hide hsp
  clear h hi hz0 hz1 hz2 hin hsp G0
  have C0 := blk_cell B0
  clear B0
  go_enter Tryz.func23, Tryz.ntmps23
  go_wp2_with fail
  refine (rpvalid_any p hp _).mono ?_
  rintro e w1 ⟨rfl, m1⟩
  have H1 := hide (And.intro (m1.at_ H0.out.1 (by simp)) (H0.out.2.then m1))
  have C1 := blk_cell H1.out.1
  clear m1 H0 C0
  cases hpk : pathOk p.data.toList
  · have HP := hide hpk
    clear hpk
    go_wp2_with fail
    go_ret2
    rw [HSP.out, if_pos HP.out]
    exact ⟨_, rfl, H1.out.2, .inl ⟨rfl, rfl⟩⟩
  · have HP := hide hpk
    clear hpk
    go_wp2_with fail
    refine (rmode_any m _).mono ?_
    rintro e w2 ⟨rfl, hw⟩
    subst hw
    cases hmd : modE m
    · have HM := hide hmd
      clear hmd
      go_wp2_with fail
      go_ret2
      rw [HSP.out, if_neg (by rw [HP.out]; simp), if_pos HM.out]
      exact ⟨_, rfl, H1.out.2, .inl ⟨rfl, rfl⟩⟩
    · have HM := hide hmd
      clear hmd
      go_wp2_with fail
      refine (rfind_any (HX.out.1.same H1.out.2) id).mono ?_
      rintro e w3 ⟨r, rfl, rfl, hr⟩
      rcases hr with ⟨rfl, hg⟩ | ⟨k, hk, rfl, hg⟩
      · have hno : hasId L id = false := by rw [hasId_of_get, hg]; rfl
        have HN := hide hno
        clear hno hg
        by_cases h64 : L.length = 64
        · have b64 : ((L.length : Int) == 64) = true := by simp; omega
          have H6 := hide h64
          clear h64
          go_wp2_with fail
          go_ret2
          rw [HSP.out, if_neg (by rw [HP.out]; simp), if_neg (by rw [HM.out]; simp), if_neg (by rw [HN.out]; simp), if_pos H6.out]
          exact ⟨_, rfl, H1.out.2, .inl ⟨rfl, rfl⟩⟩
        · have b64 : ((L.length : Int) == 64) = false := by simp; omega
          have HPT := hide (show putS5 L ⟨id, p, m, who⟩ = (insE ⟨id, p, m, who⟩ L, 0) by rw [HSP.out, if_neg (by rw [HP.out]; simp), if_neg (by rw [HM.out]; simp), if_neg (by rw [HN.out]; simp), if_neg h64])
          clear h64 HSP HP HM HN
          go_wp2_with fail
          go_loopw [6, 7] (fun u i wr => RPut1 w2 L ⟨id, p, m, who⟩ u i wr) (fun _ i _ => L.length - (intOf i).toNat)
          case atStart => exact ⟨0, Nat.zero_le _, rfl, fun j hj => absurd hj (Nat.not_lt_zero _), RowE.nil _ _, Mod.refl _ _⟩
          case round =>
            obtain ⟨k, hk, rfl, hlts, hrow, hmw⟩ := hrel
            have HLT := hide hlts
            clear hlts C1
            by_cases hlt : k < L.length
            · obtain ⟨b, off, rfl, hb, c0, c1, c2, c3⟩ := (HX.out.1.same (H1.out.2.then hmw)).at_ hlt
              have hps := HX.out.2 (L.getD k default) (by simp [hlt])
              have htk := take_succ_getD L hlt
              obtain ⟨y, hy⟩ : ∃ y, L.getD k default = y := ⟨_, rfl⟩
              rw [hy] at c0 c1 c2 c3 hps htk
              have HY := hide hy
              have HTK := hide htk
              clear hy htk
              have i1 : (0 : Int) ≤ (k : Int) := by omega
              have i2 : (k : Int) < (L.length : Int) := by omega
              have hbef := rbefore_any y ⟨id, p, m, who⟩ (Nat.le_trans hps (by omega))
              obtain ⟨bb, hbb⟩ : ∃ b, befB y ⟨id, p, m, who⟩ = b := ⟨_, rfl⟩
              rw [hbb] at hbef
              have HBB := hide hbb
              have BX := hide (hmw.at_ H1.out.1 (by simp))
              have CK := tl2_of BX.out c0 c1 c2 c3 (Mod.refl [] wr)
              have HCK := hide (fun (w' : World) (hm' : Mod [] wr w') => tl2_of BX.out c0 c1 c2 c3 hm')
              have HR0 := hide (And.intro hrow hmw)
              clear hbb hrow hmw CK hps
              go_wp2_with fail
              cases bb
              · go_region_held3 (fun w' => TLive3 wr w' ∧ w'.cell? ⟨w.heap.size, 0, none⟩ = some (.int .i64 id) ∧ w'.cell? ⟨w.heap.size, 1, none⟩ = some (.string p) ∧ w'.cell? ⟨w.heap.size, 2, none⟩ = some (.int .i64 m) ∧ w'.cell? ⟨w.heap.size, 3, none⟩ = some (.int .i64 who) ∧ w'.cell? ⟨b, off + k * 4, none⟩ = some (.int .i64 y.id) ∧ w'.cell? ⟨b, off + k * 4 + 1, none⟩ = some (.string y.path) ∧ w'.cell? ⟨b, off + k * 4 + 2, none⟩ = some (.int .i64 y.mode) ∧ w'.cell? ⟨b, off + k * 4 + 3, none⟩ = some (.int .i64 y.who))
                  (first | (exact HCK.out _ ((Mod.refl [] wr).drew)) | (go_split_ands; exact HCK.out _ (Mod.then (by assumption) hmX)))
                  (first
                    | (go_at_call 43; go_split_ands; refine (hbef _).mono ?_; rintro e wX ⟨rfl, hmX⟩)
                    | fail)
                go_split_ands
                have hmXX : Mod [] wr wX := TLive3.mod (by assumption)
                have hins : insE ⟨id, p, m, who⟩ L = L.take k ++ ⟨id, p, m, who⟩ :: L.drop k := insE_at L k hk HLT.out (.inr (by
                  rw [HY.out]
                  have := HBB.out
                  unfold befB at this
                  exact of_decide_eq_false this))
                have HR := hide (And.intro (HR0.out.1.mod hmXX (by simp)) (And.intro (HR0.out.2.then hmXX) hins))
                have r1 := row_ent (heap_alloc_new wX (objE id p m who))
                have CX := blk_cell (HR.out.2.1.at_ H1.out.1 (by simp))
                have hrX := HR.out.1
                have hown := hrX.mod (((Gr.refl wX).alloc (objE id p m who)).mod []) (by simp)
                have htl : (L.take k).length ≤ 64 := by rw [List.length_take]; omega
                have q6 : (L.take k).length + 1 ≤ maxLen := by unfold maxLen; omega
                have q7 : ((L.take k).length + 1) * 40 ≤ 140737488355328 := by omega
                have q8 : w2.heap.size ≤ (wX.alloc (objE id p m who)).heap.size := by have := HR.out.2.1.size; simp; omega
                obtain ⟨hi, hz0, hz1, hz2⟩ := HI.out
                clear hrX
                go_wp2_with (first
                  | (at_builtin
                     refine wpList_append_row _ rfl _ _ 26 rfl 29 i0 _ 4 40 Tryz.underlying26 hi hz0 hz1 hz2 rfl (by decide) rfl hown rfl r1 (encE_one _) q6 q7 q8 ?_
                     intro ux w6 hown6 hgr6
                     have hr6 := row_more hown6
                     have m6 : Mod [] w2 w6 := (HR.out.2.1.alloc (objE id p m who)).trans ((Mod.refl (obl u6) _).grown hgr6 (fun x e _ => mem_obl.2 e)) (by simp) (fun x hx hlt2 => (by
                       have h1 := HR.out.1.own (mem_obl.1 hx)
                       omega))
                     have H6 := hide (And.intro hr6 m6)
                     clear hr6 m6 hown6 hgr6 hown r1 hi hz0 hz1 hz2 CX)
                  | fail)
                go_loopw [6, 7] (fun u i wr => RPut2 w2 L ⟨id, p, m, who⟩ k u i wr) (fun _ i _ => L.length - (intOf i).toNat)
                case atStart => exact ⟨k, _, hk, rfl, by rw [List.length_append, List.length_take]; simp; omega, by simp, H6.out.1, H6.out.2⟩
                case round =>
                  clear H6 htl q6 q7 q8
                  obtain ⟨k2, xs, hk2, rfl, hxl, hxs, hrow2, hmw2⟩ := hrel
                  by_cases hlt2 : k2 < L.length
                  · obtain ⟨b', off', e', hb', c0, c1, c2, c3⟩ := (HX.out.1.same (H1.out.2.then hmw2)).at_ hlt2
                    obtain ⟨rfl, rfl⟩ : b = b' ∧ off = off' := by simpa using e'
                    clear e'
                    have hdg := drop_getD L hlt2
                    obtain ⟨⟨yi, yp, ym, yw⟩, hy⟩ : ∃ y, L.getD k2 default = y := ⟨_, rfl⟩
                    rw [hy] at c0 c1 c2 c3 hdg
                    dsimp only at c0 c1 c2 c3
                    rw [hdg] at hxs
                    have HXS := hide hxs
                    clear hxs hdg hy
                    have i1 : (0 : Int) ≤ (k2 : Int) := by omega
                    have i2 : (k2 : Int) < (L.length : Int) := by omega
                    have r1 := row_ent (heap_alloc_new wr (objE yi yp ym yw))
                    have hown := hrow2.mod (((Gr.refl wr).alloc (objE yi yp ym yw)).mod []) (by simp)
                    have q6 : xs.length + 1 ≤ maxLen := by unfold maxLen; omega
                    have q7 : (xs.length + 1) * 40 ≤ 140737488355328 := by omega
                    have q8 : w2.heap.size ≤ (wr.alloc (objE yi yp ym yw)).heap.size := by have := hmw2.size; simp; omega
                    have HR2 := hide (And.intro hrow2 hmw2)
                    obtain ⟨hi, hz0, hz1, hz2⟩ := HI.out
                    clear hrow2 hmw2
                    go_wp2_with (first
                      | (at_builtin
                         refine wpList_append_row _ rfl _ _ 26 rfl 29 i0 _ 4 40 Tryz.underlying26 hi hz0 hz1 hz2 rfl (by decide) rfl hown rfl r1 (encE_one _) q6 q7 q8 ?_
                         intro ux w6 hown6 hgr6
                         have hr6 := row_more hown6
                         have m6 : Mod [] w2 w6 := (HR2.out.2.alloc (objE yi yp ym yw)).trans ((Mod.refl (obl u6) _).grown hgr6 (fun x e _ => mem_obl.2 e)) (by simp) (fun x hx hlt2 => (by
                           have h1 := HR2.out.1.own (mem_obl.1 hx)
                           omega))
                         have H7 := hide (And.intro hr6 m6)
                         clear hr6 m6 hown6 hgr6 hown r1 hi hz0 hz1 hz2)
                      | fail)
                    go_roundw
                    case rel => exact ⟨k2 + 1, _, by omega, by go_num, by rw [List.length_append]; simp; omega, by rw [List.append_assoc]; exact HXS.out, H7.out.1, H7.out.2⟩
                    case measure => simp [intOf]; omega
                  · have ek : k2 = L.length := by omega
                    rw [ek, List.drop_length, List.append_nil] at hxs
                    have HR2 := hide (And.intro hrow2 (And.intro hmw2 hxs))
                    clear hrow2 hmw2 hxs
                    go_wp2_with fail
                    go_ret2
                    rw [HPT.out]
                    refine ⟨_, rfl, H1.out.2.then HR2.out.2.1, .inr ?_⟩
                    show RowE _ _ _ (insE _ L)
                    rw [HR.out.2.2, ← HR2.out.2.2]
                    exact HR2.out.1.mono H1.out.2.size
              · go_region_held3 (fun w' => TLive3 wr w' ∧ w'.cell? ⟨w.heap.size, 0, none⟩ = some (.int .i64 id) ∧ w'.cell? ⟨w.heap.size, 1, none⟩ = some (.string p) ∧ w'.cell? ⟨w.heap.size, 2, none⟩ = some (.int .i64 m) ∧ w'.cell? ⟨w.heap.size, 3, none⟩ = some (.int .i64 who) ∧ w'.cell? ⟨b, off + k * 4, none⟩ = some (.int .i64 y.id) ∧ w'.cell? ⟨b, off + k * 4 + 1, none⟩ = some (.string y.path) ∧ w'.cell? ⟨b, off + k * 4 + 2, none⟩ = some (.int .i64 y.mode) ∧ w'.cell? ⟨b, off + k * 4 + 3, none⟩ = some (.int .i64 y.who))
                  (first | (exact HCK.out _ ((Mod.refl [] wr).drew)) | (go_split_ands; exact HCK.out _ (Mod.then (by assumption) hmX)))
                  (first
                    | (go_at_call 43; go_split_ands; refine (hbef _).mono ?_; rintro e wX ⟨rfl, hmX⟩)
                    | fail)
                go_split_ands
                have hmXX : Mod [] wr wX := TLive3.mod (by assumption)
                have HR := hide (And.intro (HR0.out.1.mod hmXX (by simp)) (HR0.out.2.then hmXX))
                have r1 := row_ent (heap_alloc_new wX (objE y.id y.path y.mode y.who))
                have hrX := HR.out.1
                have hown := hrX.mod (((Gr.refl wX).alloc (objE y.id y.path y.mode y.who)).mod []) (by simp)
                have htl : (L.take k).length ≤ 64 := by rw [List.length_take]; omega
                have q6 : (L.take k).length + 1 ≤ maxLen := by unfold maxLen; omega
                have q7 : ((L.take k).length + 1) * 40 ≤ 140737488355328 := by omega
                have q8 : w2.heap.size ≤ (wX.alloc (objE y.id y.path y.mode y.who)).heap.size := by have := HR.out.2.size; simp; omega
                obtain ⟨hi, hz0, hz1, hz2⟩ := HI.out
                clear hrX
                go_wp2_with (first
                  | (at_builtin
                     refine wpList_append_row _ rfl _ _ 26 rfl 29 i0 _ 4 40 Tryz.underlying26 hi hz0 hz1 hz2 rfl (by decide) rfl hown rfl r1 (encE_one _) q6 q7 q8 ?_
                     intro ux w6 hown6 hgr6
                     have hr6 := row_more hown6
                     have m6 : Mod [] w2 w6 := (HR.out.2.alloc (objE y.id y.path y.mode y.who)).trans ((Mod.refl (obl u6) _).grown hgr6 (fun x e _ => mem_obl.2 e)) (by simp) (fun x hx hlt2 => (by
                       have h1 := HR.out.1.own (mem_obl.1 hx)
                       omega))
                     have H6 := hide (And.intro hr6 m6)
                     clear hr6 m6 hown6 hgr6 hown r1 hi hz0 hz1 hz2)
                  | fail)
                go_roundw
                case rel =>
                  refine ⟨k + 1, by omega, by go_num, fun j hj => ?_, by rw [HTK.out]; exact H6.out.1, H6.out.2⟩
                  by_cases e : j = k
                  · rw [e, HY.out]
                    have := HBB.out
                    unfold befB at this
                    exact of_decide_eq_true this
                  · exact HLT.out j (by omega)
                case measure => simp [intOf]; omega
            · have hmw2 := hmw
              have hrow2 := hrow
              clear hmw hrow
              go_wp2_with fail
              go_quiet (fail)
              obtain ⟨wX, hwX⟩ : ∃ wX : World, wX = wr.drewN nq := ⟨_, rfl⟩
              rw [← hwX]
              have hmXX : Mod [] wr wX := by rw [hwX]; exact (Mod.refl _ _).drewN _
              clear hwX
              have hins : insE ⟨id, p, m, who⟩ L = L.take k ++ ⟨id, p, m, who⟩ :: L.drop k := insE_at L k hk HLT.out (.inl (by omega))
              have HR := hide (And.intro (hrow2.mod hmXX (by simp)) (And.intro (hmw2.then hmXX) hins))
              clear hrow2 hmw2 hmXX hins
              have r1 := row_ent (heap_alloc_new wX (objE id p m who))
              have CX := blk_cell (HR.out.2.1.at_ H1.out.1 (by simp))
              have hrX := HR.out.1
              have hown := hrX.mod (((Gr.refl wX).alloc (objE id p m who)).mod []) (by simp)
              have htl : (L.take k).length ≤ 64 := by rw [List.length_take]; omega
              have q6 : (L.take k).length + 1 ≤ maxLen := by unfold maxLen; omega
              have q7 : ((L.take k).length + 1) * 40 ≤ 140737488355328 := by omega
              have q8 : w2.heap.size ≤ (wX.alloc (objE id p m who)).heap.size := by have := HR.out.2.1.size; simp; omega
              obtain ⟨hi, hz0, hz1, hz2⟩ := HI.out
              clear hrX
              go_wp2_with (first
                | (at_builtin
                   refine wpList_append_row _ rfl _ _ 26 rfl 29 i0 _ 4 40 Tryz.underlying26 hi hz0 hz1 hz2 rfl (by decide) rfl hown rfl r1 (encE_one _) q6 q7 q8 ?_
                   intro ux w6 hown6 hgr6
                   have hr6 := row_more hown6
                   have m6 : Mod [] w2 w6 := (HR.out.2.1.alloc (objE id p m who)).trans ((Mod.refl (obl u6) _).grown hgr6 (fun x e _ => mem_obl.2 e)) (by simp) (fun x hx hlt2 => (by
                     have h1 := HR.out.1.own (mem_obl.1 hx)
                     omega))
                   have H6 := hide (And.intro hr6 m6)
                   clear hr6 m6 hown6 hgr6 hown r1 hi hz0 hz1 hz2 CX)
                | fail)
              go_loopw [6, 7] (fun u i wr => RPut2 w2 L ⟨id, p, m, who⟩ k u i wr) (fun _ i _ => L.length - (intOf i).toNat)
              case atStart => exact ⟨k, _, hk, rfl, by rw [List.length_append, List.length_take]; simp; omega, by simp, H6.out.1, H6.out.2⟩
              case round =>
                clear H6 htl q6 q7 q8
                obtain ⟨k2, xs, hk2, rfl, hxl, hxs, hrow2, hmw2⟩ := hrel
                by_cases hlt2 : k2 < L.length
                · obtain ⟨b, off, rfl, hb, c0, c1, c2, c3⟩ := (HX.out.1.same (H1.out.2.then hmw2)).at_ hlt2
                  have hdg := drop_getD L hlt2
                  obtain ⟨⟨yi, yp, ym, yw⟩, hy⟩ : ∃ y, L.getD k2 default = y := ⟨_, rfl⟩
                  rw [hy] at c0 c1 c2 c3 hdg
                  dsimp only at c0 c1 c2 c3
                  rw [hdg] at hxs
                  have HXS := hide hxs
                  clear hxs hdg hy
                  have i1 : (0 : Int) ≤ (k2 : Int) := by omega
                  have i2 : (k2 : Int) < (L.length : Int) := by omega
                  have r1 := row_ent (heap_alloc_new wr (objE yi yp ym yw))
                  have hown := hrow2.mod (((Gr.refl wr).alloc (objE yi yp ym yw)).mod []) (by simp)
                  have q6 : xs.length + 1 ≤ maxLen := by unfold maxLen; omega
                  have q7 : (xs.length + 1) * 40 ≤ 140737488355328 := by omega
                  have q8 : w2.heap.size ≤ (wr.alloc (objE yi yp ym yw)).heap.size := by have := hmw2.size; simp; omega
                  have HR2 := hide (And.intro hrow2 hmw2)
                  obtain ⟨hi, hz0, hz1, hz2⟩ := HI.out
                  clear hrow2 hmw2
                  go_wp2_with (first
                    | (at_builtin
                       refine wpList_append_row _ rfl _ _ 26 rfl 29 i0 _ 4 40 Tryz.underlying26 hi hz0 hz1 hz2 rfl (by decide) rfl hown rfl r1 (encE_one _) q6 q7 q8 ?_
                       intro ux w6 hown6 hgr6
                       have hr6 := row_more hown6
                       have m6 : Mod [] w2 w6 := (HR2.out.2.alloc (objE yi yp ym yw)).trans ((Mod.refl (obl u6) _).grown hgr6 (fun x e _ => mem_obl.2 e)) (by simp) (fun x hx hlt2 => (by
                         have h1 := HR2.out.1.own (mem_obl.1 hx)
                         omega))
                       have H7 := hide (And.intro hr6 m6)
                       clear hr6 m6 hown6 hgr6 hown r1 hi hz0 hz1 hz2)
                    | fail)
                  go_roundw
                  case rel => exact ⟨k2 + 1, _, by omega, by go_num, by rw [List.length_append]; simp; omega, by rw [List.append_assoc]; exact HXS.out, H7.out.1, H7.out.2⟩
                  case measure => simp [intOf]; omega
                · have ek : k2 = L.length := by omega
                  rw [ek, List.drop_length, List.append_nil] at hxs
                  have HR2 := hide (And.intro hrow2 (And.intro hmw2 hxs))
                  clear hrow2 hmw2 hxs
                  go_wp2_with fail
                  go_ret2
                  rw [HPT.out]
                  refine ⟨_, rfl, H1.out.2.then HR2.out.2.1, .inr ?_⟩
                  show RowE _ _ _ (insE _ L)
                  rw [HR.out.2.2, ← HR2.out.2.2]
                  exact HR2.out.1.mono H1.out.2.size
      · have hyes : hasId L id = true := by rw [hasId_of_get, hg]; rfl
        have HN := hide hyes
        have i0' : (0 : Int) ≤ (k : Int) := by omega
        clear hyes hg
        go_wp2_with fail
        go_ret2
        rw [HSP.out, if_neg (by rw [HP.out]; simp), if_neg (by rw [HM.out]; simp), if_pos HN.out]
        exact ⟨_, rfl, H1.out.2, .inl ⟨rfl, rfl⟩⟩
end Go.Proofs.YthkcbennfochmaaGreatDoor
