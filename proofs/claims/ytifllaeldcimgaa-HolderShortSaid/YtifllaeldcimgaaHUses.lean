/-
  WALK: the law HolderUses.
-/
import Derived.Test.YtifllaeldcimgaaHSame
namespace Go.Proofs.Ytifllaeldcimgaa
open Go.RowKit

def playsS (rho : Int) (ops : List OpL) : List Lease := ops.foldl (playS rho) []
theorem playsS_step (rho : Int) (ops : List OpL) {k : Nat} (hk : k < ops.length) : playS rho (playsS rho (ops.take k)) (ops.getD k default) = playsS rho (ops.take (k + 1)) := by
  have : ops.take (k + 1) = ops.take k ++ [ops.getD k default] := by
    rw [List.take_add_one]; simp [hk]
  unfold playsS
  rw [this, List.foldl_append]
  rfl
def UseOut (l : List Lease) (now : Int) (path : List UInt8) (md : Int) (x : Lease) (k : Int) : Prop :=
  (k = 0 ∧ x ∈ l ∧ bearsB x now path md = true ∧ ∀ y, y ∈ l → bearsB y now path md = true → y.expiry ≤ x.expiry) ∨ (k ≠ 0 ∧ x.id = 0 ∧ x.expiry = 0 ∧ ∀ y, y ∈ l → bearsB y now path md = false)
theorem use_gen {w : World} {ph pm : Nat} {fs : List Nat} {rho : Int} {l : List Lease} (h : Hd w ph pm fs rho l) (now : Int) (path : ByteArray) (md : Int) (hq : path.size ≤ 9223372036854775807) :
    Calls Try.prog 14 #[.pointer (some ⟨ph, 0, none⟩), .int .i64 now, .string path, .int .i64 md] w fun en w' => ∃ f i p m a t s e r q c k, en = .returned (.tuple #[.agg #[.int .i64 f, .int .i64 i, .string p, .int .i64 m, .slice q (a : List Int).length c, .int .i64 t, .int .i64 s, .int .i64 e, .bool r], .int .i64 k]) ∧ Fresh w w' q a c ∧ UseOut l now path.data.toList md ⟨f, i, p, m, a, t, s, e, r⟩ k := by
  rcases use_law l now path.data.toList md with ⟨⟨f, i, p, m, a, t, s, e, r⟩, hs, h1, h2, h3⟩ | ⟨k, hs, h1, h2⟩
  · refine (use_some h now path md hq hs).mono ?_
    rintro en w' ⟨q, c, rfl, hf⟩
    exact ⟨_, _, _, _, a, _, _, _, _, q, c, _, rfl, hf, .inl ⟨rfl, h1, h2, h3⟩⟩
  · refine (use_none h now path md hq hs).mono ?_
    rintro en w' ⟨q, c, rfl, hf⟩
    exact ⟨_, _, _, _, [], _, _, _, _, q, c, _, rfl, hf, .inr ⟨h1, rfl, rfl, h2⟩⟩
theorem list_rd {w : World} {ph pm : Nat} {fs : List Nat} {rho : Int} {l : List Lease} (h : Hd w ph pm fs rho l) :
    Calls Try.prog 12 #[.pointer (some ⟨ph, 0, none⟩)] w fun e w' => ∃ q c f, e = .returned (.slice q l.length c) ∧ RdLs w' (.slice q l.length c) f l ∧ (∀ k, k ∈ f → w.heap.size ≤ k ∧ k < w'.heap.size) ∧ Mod [] w w' := by
  refine (hlist_any h).mono ?_
  rintro e w' ⟨v, sl, f, rfl, hr, hs, hv, hf, hm⟩
  have hR : RdLs w' v (f ++ ob v) ((sl.map pr).map Prod.fst) := RdLs.of_row (by rw [List.length_map, List.flatMap_map]; exact hr) (fun p hp => by
    obtain ⟨s, hs1, rfl⟩ := List.mem_map.1 hp
    exact (hv s hs1).mono fun k hk => List.mem_append_left _ hk) (fun k hk => List.mem_append_right _ hk)
  rw [List.map_map, show (Prod.fst ∘ pr) = (Prod.fst : SL → Lease) from rfl, hs] at hR
  obtain ⟨q, c, rfl⟩ := hR.len
  exact ⟨q, c, _, rfl, hR, fun k hk => by
    rcases List.mem_append.1 hk with e | e
    · exact ⟨(hf k e).1, (hf k e).2.1⟩
    · exact ob_row hr k e, hm⟩
theorem RdLs.lease {w : World} {q : Option Addr} {n c : Nat} {fb : List Nat} {l : List Lease} (h : RdLs w (.slice q n c) fb l) (k : Nat) (hk : k < l.length) :
    ∃ b off f i p m a t s e r qa ca, q = some ⟨b, off, none⟩ ∧ b < w.heap.size ∧ b ∈ fb ∧ l.getD k default = ⟨f, i, p, m, a, t, s, e, r⟩ ∧ (⟨f, i, p, m, a, t, s, e, r⟩ : Lease) ∈ l ∧ RdN w (.slice qa a.length ca) a ∧ (∀ j, j ∈ ob (.slice qa a.length ca) → j ∈ fb) ∧ w.cell? ⟨b, off + k * 9, none⟩ = some (.int .i64 f) ∧ w.cell? ⟨b, off + k * 9 + 1, none⟩ = some (.int .i64 i) ∧
      w.cell? ⟨b, off + k * 9 + 2, none⟩ = some (.string p) ∧ w.cell? ⟨b, off + k * 9 + 3, none⟩ = some (.int .i64 m) ∧ w.cell? ⟨b, off + k * 9 + 4, none⟩ = some (.slice qa a.length ca) ∧
      w.cell? ⟨b, off + k * 9 + 5, none⟩ = some (.int .i64 t) ∧ w.cell? ⟨b, off + k * 9 + 6, none⟩ = some (.int .i64 s) ∧ w.cell? ⟨b, off + k * 9 + 7, none⟩ = some (.int .i64 e) ∧
      w.cell? ⟨b, off + k * 9 + 8, none⟩ = some (.bool r) := by
  obtain ⟨b, off, v, rfl, hb, hbf, hv, c0, c1, c2, c3, c4, c5, c6, c7, c8⟩ := h.at_ k hk
  have hm : l.getD k default ∈ l := by simp [hk]
  generalize l.getD k default = x at hv hm c0 c1 c2 c3 c4 c5 c6 c7 c8
  obtain ⟨f, i, p, m, a, t, s, e, r⟩ := x
  obtain ⟨qa, ca, rfl⟩ : ∃ p c, v = .slice p a.length c := hv.rd.len
  exact ⟨b, off, f, i, p, m, a, t, s, e, r, qa, ca, rfl, hb, hbf, rfl, hm, hv.rd, hv.sub, c0, c1, c2, c3, c4, c5, c6, c7, c8⟩
def PlaysRel (W : World) (ph pm : Nat) (rho : Int) (ops : List OpL) (s : Value) (wr : World) : Prop :=
  ∃ (k : Nat) (fs : List Nat), k ≤ ops.length ∧ s = .int .i64 (k : Int) ∧ HS W wr ph pm fs rho (playsS rho (ops.take k))
def BearRel (wb : World) (L : List Lease) (now : Int) (path : List UInt8) (md : Int) (s71 s15 : Value) (wr : World) : Prop :=
  ∃ k : Nat, k ≤ L.length ∧ s71 = .int .i64 (k : Int) ∧ s15 = .int .i64 (((L.take k).countP fun x => bearsB x now path md : Nat) : Int) ∧ Mod [] wb wr
theorem count_step (f : Lease → Bool) (L : List Lease) {k : Nat} (hk : k < L.length) : (L.take (k + 1)).countP f = (L.take k).countP f + (if f (L.getD k default) then 1 else 0) := by
  have : L.take (k + 1) = L.take k ++ [L.getD k default] := by
    rw [List.take_add_one]; simp [hk]
  rw [this, List.countP_append]
  simp [List.countP_cons]
set_option maxHeartbeats 4000000 in
set_option maxRecDepth 100000 in
theorem uses_any {W : World} {ops : List OpL} {rho : Int} {vp : Option Addr} {vn vc : Nat} (hR : RdOp W (.slice vp vn vc) ops) (kd nw st f i m t s e : Int) (p : ByteArray) (a : List Int) (r : Bool) (q : Option Addr) (c : Nat) (hp : p.size ≤ 9223372036854775807) :
    Calls Try.prog 4 #[.int .i64 rho, .slice vp vn vc, .agg #[.int .i64 kd, .int .i64 nw, .int .i64 st, .int .i64 f, .int .i64 i, .string p, .int .i64 m, .slice q a.length c, .int .i64 t, .int .i64 s, .int .i64 e, .bool r]] W fun e w' => e = .returned (.bool true) ∧ Mod [] W w' := by
  obtain ⟨_, _, hvv⟩ := hR.len
  simp only [Value.slice.injEq] at hvv
  obtain ⟨-, hvn, -⟩ := hvv
  subst hvn
  have hmx : ops.length ≤ 9223372036854775807 := hR.1
  go_enter Try.func4, Try.ntmps4
  go_wp2_with fail
  refine (awake_any _).mono ?_
  rintro en w1 ⟨rfl, hm1⟩
  have hB1 := hm1.at_ (heap_alloc_new W (objO kd nw st f i p m (.slice q a.length c) t s e r)) (by simp)
  have hm1 := (((Gr.refl W).alloc (objO kd nw st f i p m (.slice q a.length c) t s e r)).mod []).then hm1
  have hR1 := hR.same hm1
  have hbl := lt_of_block hB1
  clear hR
  have H1 := hide hm1
  clear hm1
  generalize W.heap.size = ab at hB1 hbl ⊢
  by_cases hrho : 0 ≤ rho ∧ rho ≤ 999
  · go_wp2_with fail
    refine (hnew_ok rho hrho w1).mono ?_
    rintro en w2 ⟨rfl, hd2, hg2⟩
    have s2 : HS w1 w2 (w1.heap.size + 1) w1.heap.size [] rho [] := ⟨hd2, hg2.mod [], by omega, by omega⟩
    clear hd2 hg2
    generalize w1.heap.size + 1 = ph at s2 ⊢
    generalize hP : w1.heap.size = pm at s2
    have HP := hide hP
    clear hP
    go_wp2_with fail
    go_loopw [45] (fun s45 wr => PlaysRel w1 ph pm rho ops s45 wr) (fun s45 _ => ops.length - (intOf s45).toNat)
    case atStart => exact ⟨0, [], by omega, rfl, s2⟩
    case round =>
      clear s2
      obtain ⟨k, fs, hk, rfl, S⟩ := hrel
      by_cases hlt : k < ops.length
      · have hlt' : (k : Int) < (ops.length : Int) := by omega
        obtain ⟨b, off, okd, onw, ost, of_, oi, op, om, oa, ot, os, oe, or_, oq, oc, rfl, hbw, hget, c0, c1, c2, c3, c4, c5, c6, c7, c8, c9, c10, c11, hrd, hin⟩ := (hR1.same S.mod).at_ k hlt
        have hstep := playsS_step rho ops hlt
        rw [hget] at hstep
        have HX := hide (And.intro S (And.intro hstep (And.intro hrd hin)))
        clear S hstep hrd hin hget hR1 hB1
        go_wp2_with fail
        obtain ⟨S, hstep, hrd, hin⟩ := HX.out
        have S2 := S.gr ((Gr.refl wr).alloc (objO okd onw ost of_ oi op om (.slice oq oa.length oc) ot os oe or_))
        have hrd2 := hrd.gr ((Gr.refl wr).alloc (objO okd onw ost of_ oi op om (.slice oq oa.length oc) ot os oe or_))
        refine (played_any S2.hd okd onw ost of_ oi om ot os oe op oa or_ oq oc hrd2 hin).mono ?_
        rintro en w4 ⟨rfl, fs', hd4, ht4⟩
        rw [hstep] at hd4
        have S4 := S2.to hd4 ht4
        clear HX S S2 hrd hrd2 hd4 ht4 c0 c1 c2 c3 c4 c5 c6 c7 c8 c9 c10 c11 hin
        go_wp2_with fail
        go_roundw
        case rel => exact ⟨k + 1, fs', by omega, by go_num, S4⟩
        case measure => simp [intOf]; omega
      · obtain rfl : k = ops.length := by omega
        rw [List.take_length] at S
        generalize playsS rho ops = L at S
        have hL8 := S.hd.small
        have hsrt := S.hd.srt
        have hok := S.hd.ok
        have HX := hide (And.intro S (And.intro hR1 (And.intro hsrt (And.intro hok hrho))))
        have hBw := S.mod.at_ hB1 (by simp)
        have CB := blk_cell hBw
        clear S hR1 hB1 hsrt hok hrho
        go_wp2_with fail
        go_quiet (fail)
        obtain ⟨S, -⟩ := HX.out
        have S2 := S.gr ((Gr.refl wr).drewN nq)
        have hB2 := (((Gr.refl wr).drewN nq).mod []).at_ hBw (by simp)
        clear CB hBw
        generalize wr.drewN nq = w3 at S2 hB2 ⊢
        have CB := blk_cell hB2
        clear S
        go_wp2_with fail
        refine (use_gen S2.hd nw p m hp).mono ?_
        rintro en w4 ⟨uf, ui, up, um, ua, ut, us, ue, ur, uq, uc, uk, rfl, hfr, huo⟩
        have S4 := (S2.same hfr.2.2).gr ((Gr.refl w4).alloc (objL uf ui up um (.slice uq ua.length uc) ut us ue ur))
        have hB4 := blk_alloc (hfr.2.2.at_ hB2 (by simp)) (objL uf ui up um (.slice uq ua.length uc) ut us ue ur)
        have hb4 := heap_alloc_new w4 (objL uf ui up um (.slice uq ua.length uc) ut us ue ur)
        have hu4 := hfr.1.gr ((Gr.refl w4).alloc (objL uf ui up um (.slice uq ua.length uc) ut us ue ur))
        clear CB S2 hB2 hfr
        have HU := hide huo
        clear huo
        go_wp2_with fail
        refine (list_rd S4.hd).mono ?_
        rintro en w5 ⟨lq, lc, lf, rfl, hls, -, hm5⟩
        have S5 := S4.same hm5
        have hB5 := hm5.at_ hB4 (by simp)
        have hb5 := hm5.at_ hb4 (by simp)
        have hu5 := hu4.mod hm5 (by simp)
        clear S4 hB4 hb4 hu4 hm5
        generalize w4.heap.size = lb at hb5 ⊢
        have HS5 := hide (And.intro S5 hu5)
        clear S5 hu5
        have hL8' : (L.length : Int) ≤ 8 := by omega
        clear hlt hk
        go_wp2_with fail
        go_loopw [15, 71] (fun s15 s71 wr => BearRel w5 L nw p.data.toList m s71 s15 wr) (fun _ s71 _ => L.length - (intOf s71).toNat)
        case atStart => exact ⟨0, by omega, rfl, by simp, Mod.refl _ _⟩
        case round =>
          obtain ⟨k, hk, rfl, rfl, hmr⟩ := hrel
          have hcnt : ((L.take k).countP fun x => bearsB x nw p.data.toList m) ≤ k := Nat.le_trans List.countP_le_length (by simp; omega)
          generalize hcn : ((L.take k).countP fun x => bearsB x nw p.data.toList m) = cn at hcnt
          by_cases hlt : k < L.length
          · have hlt' : (k : Int) < (L.length : Int) := by omega
            have hstep := count_step (fun x => bearsB x nw p.data.toList m) L hlt
            rw [hcn] at hstep
            obtain ⟨b, off, xf, xi, xp, xm, xa, xt, xs, xe, xr, xq, xc, rfl, hbw, hbf, hget, hmem, hrd, hsub, c0, c1, c2, c3, c4, c5, c6, c7, c8⟩ := (hls.mod hmr (by simp)).lease k hlt
            rw [hget] at hstep
            have hxok := HX.out.2.2.2.1 _ hmem
            have hxp : xp.size ≤ 9223372036854775807 := by have := okL_path hxok; simp only at this; omega
            have hxs : xa.length * 8 ≤ 140737488355328 := by have := okL_stamp hxok; simp only at this; omega
            obtain ⟨bb, hbb⟩ : ∃ bb, bearsB ⟨xf, xi, xp, xm, xa, xt, xs, xe, xr⟩ nw p.data.toList m = bb := ⟨_, rfl⟩
            rw [hbb] at hstep
            have HY := hide (And.intro hstep (And.intro hmem (And.intro hbb hcn)))
            have CBr := blk_cell ((hmr.at_ hB5 (by simp)))
            have Clr := blk_cell ((hmr.at_ hb5 (by simp)))
            have gx := (Gr.refl wr).alloc (objL xf xi xp xm (.slice xq xa.length xc) xt xs xe xr)
            have CBx := blk_cell (((gx.mod []).at_ (hmr.at_ hB5 (by simp)) (by simp)))
            have Cbx := blk_cell (((gx.mod []).at_ (hmr.at_ hb5 (by simp)) (by simp)))
            have Cx := blk_cell (heap_alloc_new wr (objL xf xi xp xm (.slice xq xa.length xc) xt xs xe xr))
            have hrdx := hrd.gr gx
            have HZ := hide (And.intro gx (And.intro hrdx (And.intro (hmr.at_ hb5 (by simp)) (heap_alloc_new wr (objL xf xi xp xm (.slice xq xa.length xc) xt xs xe xr)))))
            clear hstep hmem hbb hcn hget hxok hbf hsub hB5 hb5 hls hrd gx hrdx
            go_wp2_with fail
            have A1 := CBx 1
            have X0 := Cx 0
            have X1 := Cx 1
            have X2 := Cx 2
            have X3 := Cx 3
            have X4 := Cx 4
            have X5 := Cx 5
            have X6 := Cx 6
            have X7 := Cx 7
            have X8 := Cx 8
            clear c0 c1 c2 c3 c4 c5 c6 c7 c8 CBr Clr CBx Cbx Cx
            go_region_held3 (fun w' => w'.cell? ⟨ab, 1, none⟩ = some (.int .i64 nw) ∧ w'.cell? ⟨wr.heap.size, 0, none⟩ = some (.int .i64 xf) ∧ w'.cell? ⟨wr.heap.size, 1, none⟩ = some (.int .i64 xi) ∧ w'.cell? ⟨wr.heap.size, 2, none⟩ = some (.string xp) ∧ w'.cell? ⟨wr.heap.size, 3, none⟩ = some (.int .i64 xm) ∧
                w'.cell? ⟨wr.heap.size, 4, none⟩ = some (.slice xq xa.length xc) ∧ w'.cell? ⟨wr.heap.size, 5, none⟩ = some (.int .i64 xt) ∧ w'.cell? ⟨wr.heap.size, 6, none⟩ = some (.int .i64 xs) ∧ w'.cell? ⟨wr.heap.size, 7, none⟩ = some (.int .i64 xe) ∧ w'.cell? ⟨wr.heap.size, 8, none⟩ = some (.bool xr))
              (first | go_keep | (go_split_ands; refine ⟨?_, ?_, ?_, ?_, ?_, ?_, ?_, ?_, ?_, ?_⟩ <;> (refine hm8.kept ?_ (by simp); assumption)) | (go_split_ands; refine ⟨?_, ?_, ?_, ?_, ?_, ?_, ?_, ?_, ?_, ?_⟩ <;> (refine hg9.kept ?_; assumption)))
              (first | (go_at_call 16; refine (own_any (HZ.out.2.1.gr (by repeat (first | exact Gr.refl _ | apply Gr.drew | apply Gr.alloc))) hxs _ _ _ _ _ _ _ _).mono ?_; rintro e w8 ⟨oq, oc, rfl, hr8, ho8, hm8⟩) | (go_at_call 15; refine (bears_any hr8 _ _ _ _ _ _ _ _ hxp _ _ hp _).mono ?_; rintro e w9 ⟨rfl, hg9⟩; rw [HY.out.2.2.1]))
            obtain ⟨gx, -, hbr, hxr⟩ := HZ.out
            have hmt := ((hmr.then (gx.drew.mod [])).then hm8).then (hg9.mod [])
            have Cx := blk_cell ((hg9.mod []).at_ (hm8.at_ (((Gr.refl _).drew.mod []).at_ hxr (by simp)) (by simp)) (by simp))
            have Cl := blk_cell (((((gx.drew.mod [])).then hm8).then (hg9.mod [])).at_ hbr (by simp))
            have Hmt := hide hmt
            clear hmt hm8 hg9 hr8 ho8 gx hbr hxr A1 X0 X1 X2 X3 X4 X5 X6 X7 X8 HZ hmr
            cases bb with
            | false =>
              clear Cx Cl
              go_wp2_with fail
              go_roundw
              case rel => exact ⟨k + 1, by omega, by go_num, by rw [HY.out.1]; simp, Hmt.out⟩
              case measure => simp [intOf]; omega
            | true =>
              obtain ⟨h1, h2, h3, h4⟩ := HY.out
              obtain ⟨rfl, hxe⟩ : uk = 0 ∧ xe ≤ ue := by
                rcases HU.out with ⟨h5, _, _, h6⟩ | ⟨_, _, _, h6⟩
                · exact ⟨h5, h6 _ h2 h3⟩
                · have := h6 _ h2; rw [h3] at this; cases this
              obtain ⟨rfl, -⟩ := bears_parts h3
              have hd1 : decide (ue < xe) = false := by simp; omega
              clear h1 h2 h3 h4 hxe
              go_wp2_with fail
              go_roundw
              case rel => exact ⟨k + 1, by omega, by go_num, by rw [HY.out.1]; go_num, Hmt.out⟩
              case measure => simp [intOf]; omega
          · obtain rfl : k = L.length := by omega
            rw [List.take_length] at hcn
            obtain ⟨S5, hu5⟩ := HS5.out
            have S6 := S5.same hmr
            have hB6 := hmr.at_ hB5 (by simp)
            have hb6 := hmr.at_ hb5 (by simp)
            have hu6 := hu5.mod hmr (by simp)
            clear S5 hu5 HS5 hB5 hb5 hls hmr
            rcases HU.out with ⟨rfl, hx, hbx, -⟩ | ⟨hk0, h1, h2, h3⟩
            · have hc0 : 0 < cn := by
                rw [← hcn]
                exact List.countP_pos_iff.2 ⟨_, hx, hbx⟩
              have hget := get_of_mem HX.out.2.2.1 hx
              have hxok := HX.out.2.2.2.1 _ hx
              have hxp : up.size ≤ 9223372036854775807 := by have := okL_path hxok; simp only at this; omega
              have hxs : ua.length * 8 ≤ 140737488355328 := by have := okL_stamp hxok; simp only at this; omega
              have wf : i64w uf := i64w_of (by have := hxok.1; simp only at this; omega) (by have := hxok.1; simp only at this; omega)
              have wi : i64w ui := i64w_of (by have := hxok.1; simp only at this; omega) (by have := hxok.1; simp only at this; omega)
              obtain ⟨hr0, he0⟩ := bears_parts hbx
              simp only at hr0 he0 hget
              subst hr0
              have Cl := blk_cell hb6
              have HZ := hide (And.intro S6 (And.intro hB6 (And.intro hb6 (And.intro hu6 hbx))))
              have HW := hide (And.intro hx hcn)
              clear S6 hB6 hu6 hx hbx hcn hxok hb6
              go_wp2_with fail
              obtain ⟨S6, hB6, hb6, hu6, hbx⟩ := HZ.out
              refine (get_some S6.hd uf ui wf wi hget).mono ?_
              rintro en w7 ⟨gq, gc, rfl, hfr⟩
              have g8 := (Gr.refl w7).alloc (objL uf ui up um (.slice gq ua.length gc) ut us ue false)
              have S8 := (S6.same hfr.2.2).gr g8
              have hB8 := blk_alloc (hfr.2.2.at_ hB6 (by simp)) (objL uf ui up um (.slice gq ua.length gc) ut us ue false)
              have hb8 := blk_alloc (hfr.2.2.at_ hb6 (by simp)) (objL uf ui up um (.slice gq ua.length gc) ut us ue false)
              have hg8 := heap_alloc_new w7 (objL uf ui up um (.slice gq ua.length gc) ut us ue false)
              have hgr8 := hfr.1.gr g8
              have hu8 := (hu6.mod hfr.2.2 (by simp)).gr g8
              clear S6 hB6 hb6 hu6 hbx hfr g8 Cl hget
              go_wp2_with fail
              generalize w7.alloc (objL uf ui up um (.slice gq ua.length gc) ut us ue false) = w8 at S8 hB8 hb8 hg8 hgr8 hu8 ⊢
              generalize w7.heap.size = gb at hg8 ⊢
              have hbx := HZ.out.2.2.2.2
              have hcp : decide ((0 : Int) < (cn : Int)) = true := by simp; omega
              have hcp2 : decide (0 < cn) = true := by simp; omega
              have hne : decide (nw < ue) = true := by simp; omega
              have A1 := blk_cell hB8 1
              have G0 := blk_cell hg8 0
              have G1 := blk_cell hg8 1
              have G2 := blk_cell hg8 2
              have G3 := blk_cell hg8 3
              have G4 := blk_cell hg8 4
              have G5 := blk_cell hg8 5
              have G6 := blk_cell hg8 6
              have G7 := blk_cell hg8 7
              have G8 := blk_cell hg8 8
              have L0 := blk_cell hb8 0
              have L1 := blk_cell hb8 1
              have L2 := blk_cell hb8 2
              have L3 := blk_cell hb8 3
              have L4 := blk_cell hb8 4
              have L5 := blk_cell hb8 5
              have L6 := blk_cell hb8 6
              have L7 := blk_cell hb8 7
              have L8 := blk_cell hb8 8
              have HV := hide (And.intro S8 (And.intro hgr8 hu8))
              have HE := hide hbx
              clear S8 hB8 hb8 hg8 hgr8 hu8 hbx HZ HW hc0 he0 hk hlt hcnt
              go_region_held3 (fun w' => w'.cell? ⟨ab, 1, none⟩ = some (.int .i64 nw) ∧ w'.cell? ⟨gb, 0, none⟩ = some (.int .i64 uf) ∧ w'.cell? ⟨gb, 1, none⟩ = some (.int .i64 ui) ∧ w'.cell? ⟨gb, 2, none⟩ = some (.string up) ∧ w'.cell? ⟨gb, 3, none⟩ = some (.int .i64 um) ∧
                  w'.cell? ⟨gb, 4, none⟩ = some (.slice gq ua.length gc) ∧ w'.cell? ⟨gb, 5, none⟩ = some (.int .i64 ut) ∧ w'.cell? ⟨gb, 6, none⟩ = some (.int .i64 us) ∧ w'.cell? ⟨gb, 7, none⟩ = some (.int .i64 ue) ∧ w'.cell? ⟨gb, 8, none⟩ = some (.bool false) ∧
                  w'.cell? ⟨lb, 0, none⟩ = some (.int .i64 uf) ∧ w'.cell? ⟨lb, 1, none⟩ = some (.int .i64 ui) ∧ w'.cell? ⟨lb, 2, none⟩ = some (.string up) ∧ w'.cell? ⟨lb, 3, none⟩ = some (.int .i64 um) ∧
                  w'.cell? ⟨lb, 4, none⟩ = some (.slice uq ua.length uc) ∧ w'.cell? ⟨lb, 5, none⟩ = some (.int .i64 ut) ∧ w'.cell? ⟨lb, 6, none⟩ = some (.int .i64 us) ∧ w'.cell? ⟨lb, 7, none⟩ = some (.int .i64 ue) ∧ w'.cell? ⟨lb, 8, none⟩ = some (.bool false))
                (first | go_keep | (go_split_ands; refine ⟨?_, ?_, ?_, ?_, ?_, ?_, ?_, ?_, ?_, ?_, ?_, ?_, ?_, ?_, ?_, ?_, ?_, ?_, ?_⟩ <;> (refine hgs.kept ?_; assumption)) | (go_split_ands; refine ⟨?_, ?_, ?_, ?_, ?_, ?_, ?_, ?_, ?_, ?_, ?_, ?_, ?_, ?_, ?_, ?_, ?_, ?_, ?_⟩ <;> (refine hm8.kept ?_ (by simp); assumption)) | (go_split_ands; refine ⟨?_, ?_, ?_, ?_, ?_, ?_, ?_, ?_, ?_, ?_, ?_, ?_, ?_, ?_, ?_, ?_, ?_, ?_, ?_⟩ <;> (refine hg9.kept ?_; assumption)))
                (first | (go_at_call 18; refine (sameLease_eq (HV.out.2.1.gr (Gr.refl _).drew) (HV.out.2.2.gr (Gr.refl _).drew) _ _ _ _ _ _ _ _).mono ?_; rintro e ws ⟨rfl, hgs⟩) | (go_at_call 16; refine (own_any ((HV.out.2.2.gr (Gr.refl _).drew).gr hgs) hxs _ _ _ _ _ _ _ _).mono ?_; rintro e wo ⟨oq, oc, rfl, hr8, ho8, hm8⟩) | (go_at_call 15; refine (bears_any hr8 _ _ _ _ _ _ _ _ hxp _ _ hp _).mono ?_; rintro e w9 ⟨rfl, hg9⟩; rw [HE.out]))
              have hmt := ((((H1.out.then HV.out.1.mod).then ((Gr.refl w8).drew.mod [])).then (hgs.mod [])).then hm8).then (hg9.mod [])
              have Hmt := hide hmt
              clear hmt hgs hm8 hg9 hr8 ho8
              go_wp2_with fail
              go_ret
              exact ⟨rfl, Hmt.out⟩
            · have hc0 : cn = 0 := by
                rw [← hcn, List.countP_eq_zero]
                intro y hy; rw [h3 y hy]; simp
              subst hc0
              simp only at h1 h2
              subst h1 h2
              have hk1 : (uk != 0) = true := by simpa using hk0
              have hk2 : (uk == 0) = false := by simpa using hk0
              have Cl := blk_cell hb6
              have HS6 := hide S6
              clear S6 hB6 hb6 hu6 h3 hk0 hcn
              go_wp2_with fail
              go_ret
              exact ⟨rfl, H1.out.then HS6.out.mod⟩
  · by_cases hneg : rho < 0
    · go_wp2_with fail
      refine (hnew_bad rho hrho w1).mono ?_
      rintro en w2 ⟨rfl, rfl⟩
      clear hrho
      go_wp2_with fail
      go_ret
      exact ⟨rfl, H1.out⟩
    · have hbig : decide (999 < rho) = true := by simp; omega
      go_wp2_with fail
      refine (hnew_bad rho hrho w1).mono ?_
      rintro en w2 ⟨rfl, rfl⟩
      clear hrho
      go_wp2_with fail
      go_ret
      exact ⟨rfl, H1.out⟩
end Go.Proofs.Ytifllaeldcimgaa
