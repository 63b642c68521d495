/-
  WALK: the law HolderShort.
-/
import Derived.Test.YtifllaeldcimgaaHShort
namespace Go.Proofs.Ytifllaeldcimgaa
open Go.RowKit

def ShortRel (W : World) (ph pm : Nat) (rho : Int) (ops : List OpL) (s : Value) (wr : World) : Prop :=
  ∃ (k : Nat) (fs : List Nat), k ≤ ops.length ∧ s = .int .i64 (k : Int) ∧ HS W wr ph pm fs rho (playsS rho (ops.take k)) ∧ BackedL rho (ops.take k) (playsS rho (ops.take k))
def InnerRel (w5 : World) (m : Nat) (s : Value) (wr : World) : Prop := ∃ j : Nat, j ≤ m ∧ s = .int .i64 (j : Int) ∧ Mod [] w5 wr
theorem backed_take {w : World} {ops : List OpL} {p : Option Addr} {n c : Nat} (hR : RdOp w (.slice p n c) ops) {k : Nat} (hk : k ≤ ops.length) (c' : Nat) (rho f i m t s e now : Int) (pp : ByteArray) (a : List Int) (v : Value) (r : Bool) (hb : ∃ o, o ∈ ops.take k ∧ Backs rho ⟨f, i, pp, m, a, t, s, e, r⟩ o) (hn : now < e) :
    Calls Try.prog 19 #[.int .i64 rho, .slice p k c', .agg #[.int .i64 f, .int .i64 i, .string pp, .int .i64 m, v, .int .i64 t, .int .i64 s, .int .i64 e, .bool r], .int .i64 now] w fun en w' => en = .returned (.bool true) ∧ Gr w w' := by
  have hl : (ops.take k).length = k := by simp; omega
  obtain ⟨o, h1, h2⟩ := hb
  have h := backed_any (l := ops.take k) (p := p) (c := c') (by rw [hl]; exact hR.take hk c') rho f i m t s e now pp v r ⟨o, h1, h2.of rfl rfl (Int.le_refl _)⟩ hn
  rw [hl] at h
  exact h
set_option maxHeartbeats 40000000 in
set_option maxRecDepth 100000 in
theorem short_any {W : World} {ops : List OpL} {rho : Int} {vp : Option Addr} {vc : Nat} (hR : RdOp W (.slice vp ops.length vc) ops) (hcap : ops.length ≤ vc ∧ vc ≤ maxLen) :
    Calls Try.prog 5 #[.int .i64 rho, .slice vp ops.length vc] W fun e w' => e = .returned (.bool true) ∧ Mod [] W w' := by
  have hmx : ops.length ≤ 9223372036854775807 := hR.1
  go_enter Try.func5, Try.ntmps5
  go_wp2_with fail
  refine (awake_any _).mono ?_
  rintro en w1 ⟨rfl, hm1⟩
  have hR1 := hR.same hm1
  clear hR
  have H1 := hide hm1
  clear hm1
  by_cases hrho : 0 ≤ rho ∧ rho ≤ 999
  · go_wp2_with fail
    refine (hnew_ok rho hrho w1).mono ?_
    rintro en w2 ⟨rfl, hd2, hg2⟩
    have s2 : HS w1 w2 (w1.heap.size + 1) w1.heap.size [] rho [] := ⟨hd2, hg2.mod [], by omega, by omega⟩
    clear hd2 hg2
    generalize w1.heap.size + 1 = ph at s2 ⊢
    generalize w1.heap.size = pm at s2
    have hrh := hide hrho
    clear hrho
    go_wp2_with fail
    go_loopw [32] (fun s32 wr => ShortRel w1 ph pm rho ops s32 wr) (fun s32 _ => ops.length - (intOf s32).toNat)
    case atStart => exact ⟨0, [], by omega, rfl, s2, fun x hx => by cases hx⟩
    case round =>
      clear s2
      obtain ⟨k, fs, hk, rfl, S, hbk⟩ := hrel
      by_cases hlt : k < ops.length
      · have hlt' : (k : Int) < (ops.length : Int) := by omega
        obtain ⟨b, off, okd, onw, ost, of_, oi, op, om, oa, ot, os, oe, or_, oq, oc, rfl, hbw, hget, c0, c1, c2, c3, c4, c5, c6, c7, c8, c9, c10, c11, hrd, hin⟩ := (hR1.same S.mod).at_ k hlt
        have hstep := playsS_step rho ops hlt
        have htk : ops.take (k + 1) = ops.take k ++ [ops.getD k default] := by rw [List.take_add_one]; simp [hlt]
        have hbk2 := backed_step hrh.out S.hd.srt (ops.getD k default) hbk
        rw [hstep, ← htk] at hbk2
        rw [hget] at hstep
        have HX := hide (And.intro S (And.intro hstep (And.intro hrd (And.intro hin hbk2))))
        have HR1 := hide hR1
        clear S hstep hrd hin hget hR1 htk hbk hbk2
        by_cases h120 : 120 < k
        · have d120 : decide ((120 : Int) < (k : Int)) = true := by simp; omega
          have HF := hide (HX.out.1.mod.then (((Gr.refl wr).alloc (objO okd onw ost of_ oi op om (.slice oq oa.length oc) ot os oe or_)).mod []))
          go_wp2_with fail
          go_ret
          exact ⟨rfl, H1.out.then HF.out⟩
        · have d120 : decide ((120 : Int) < (k : Int)) = false := by simp; omega
          go_wp2_with fail
          obtain ⟨S, hstep, hrd, hin, hbk⟩ := HX.out
          have S2 := S.gr ((Gr.refl wr).alloc (objO okd onw ost of_ oi op om (.slice oq oa.length oc) ot os oe or_))
          have hrd2 := hrd.gr ((Gr.refl wr).alloc (objO okd onw ost of_ oi op om (.slice oq oa.length oc) ot os oe or_))
          refine (played_any S2.hd okd onw ost of_ oi om ot os oe op oa or_ oq oc hrd2 hin).mono ?_
          rintro en w4 ⟨rfl, fs', hd4, ht4⟩
          rw [hstep] at hd4
          have S4 := S2.to hd4 ht4
          generalize hLL : playsS rho (ops.take (k + 1)) = L at S4 hbk
          have HLL := hide hLL
          clear HX S S2 hrd hrd2 hd4 ht4 c0 c1 c2 c3 c4 c5 c6 c7 c8 c9 c10 c11 hin hstep hLL h120
          go_wp2_with fail
          refine (list_rd S4.hd).mono ?_
          rintro en w5 ⟨lq, lc, lf, rfl, hls, -, hm5⟩
          have S5 := S4.same hm5
          have hL8 := S5.hd.small
          have hL8' : (L.length : Int) ≤ 8 := by omega
          have HS5 := hide (And.intro S5 hbk)
          clear S4 hm5 S5 hbk
          go_wp2_with fail
          go_loopw [45] (fun s45 wr => InnerRel w5 L.length s45 wr) (fun s45 _ => L.length - (intOf s45).toNat)
          case atStart => exact ⟨0, by omega, rfl, Mod.refl _ _⟩
          case round =>
            obtain ⟨j, hj, rfl, hmr⟩ := hrel
            by_cases hlj : j < L.length
            · have hlj' : (j : Int) < (L.length : Int) := by omega
              obtain ⟨lb, loff, xf, xi, xp, xm, xa, xt, xs, xe, xr, xq, xc, rfl, hbw', hbf, hgetL, hmem, hrd, hsub, c0, c1, c2, c3, c4, c5, c6, c7, c8⟩ := (hls.mod hmr (by simp)).lease j hlj
              have hxok := HS5.out.1.hd.ok _ hmem
              have hxp : xp.size ≤ 9223372036854775807 := by have := okL_path hxok; simp only at this; omega
              have hxe : 0 ≤ xe ∧ xe ≤ 1152921504606846976 + 1048576 := by have := hxok.2.2.2.2.2; simp only at this; omega
              have hws : IntKind.i64.wrap (xe - 1) = xe - 1 := IntWalk.i64_in _ (by omega)
              have S6 := (HS5.out.1.same hmr).gr ((Gr.refl wr).alloc (objL xf xi xp xm (.slice xq xa.length xc) xt xs xe xr))
              have hx6 := heap_alloc_new wr (objL xf xi xp xm (.slice xq xa.length xc) xt xs xe xr)
              have hmr6 := hmr.then (((Gr.refl wr).alloc (objL xf xi xp xm (.slice xq xa.length xc) xt xs xe xr)).mod [])
              have HY := hide (And.intro hmem (And.intro hmr6 (And.intro S6 hx6)))
              clear hmem hmr hmr6 S6 hx6 hxok hgetL hrd hsub hbf
              go_wp2_with fail
              obtain ⟨hmem, hmr6, S6, hx6⟩ := HY.out
              refine (use_gen S6.hd (xe - 1) xp xm hxp).mono ?_
              rintro en w7 ⟨f1, i1, p1, m1, a1, t1, s1, e1, r1, q1, d1, k1, rfl, hf7, ho7⟩
              have hl1 := use_last S6.hd.srt S6.hd.ok hmem ho7
              have g7 := (Gr.refl w7).alloc (objL f1 i1 p1 m1 (.slice q1 a1.length d1) t1 s1 e1 r1)
              have S7 := (S6.same hf7.2.2).gr g7
              have hx7 := blk_alloc (hf7.2.2.at_ hx6 (by simp)) (objL f1 i1 p1 m1 (.slice q1 a1.length d1) t1 s1 e1 r1)
              have hu7 := heap_alloc_new w7 (objL f1 i1 p1 m1 (.slice q1 a1.length d1) t1 s1 e1 r1)
              have hm7 := (hmr6.then hf7.2.2).then (g7.mod [])
              clear S6 hx6 hmr6 hf7 ho7 g7 HY c0 c1 c2 c3 c4 c5 c6 c7 c8
              generalize wr.heap.size = xb at hx7 ⊢
              have CX7 := blk_cell hx7
              have HL1 := hide hl1
              have HY := hide (And.intro hmem (And.intro hm7 (And.intro S7 (And.intro hx7 hu7))))
              clear hl1 hmem hm7 S7 hx7 hu7
              go_wp2_with fail
              obtain ⟨hmem, hm7, S7, hx7, hu7⟩ := HY.out
              refine (use_gen S7.hd xe xp xm hxp).mono ?_
              rintro en w8 ⟨f2, i2, p2, m2, a2, t2, s2, e2, r2, q2, d2, k2, rfl, hf8, ho8⟩
              have hl2 := use_over hmem ho8
              have g8 := (Gr.refl w8).alloc (objL f2 i2 p2 m2 (.slice q2 a2.length d2) t2 s2 e2 r2)
              have S8 := (S7.same hf8.2.2).gr g8
              have hx8 := (g8.mod []).at_ (hf8.2.2.at_ hx7 (by simp)) (by simp)
              have hu8 := (g8.mod []).at_ (hf8.2.2.at_ hu7 (by simp)) (by simp)
              have hm8 := (hm7.then hf8.2.2).then (g8.mod [])
              clear S7 hx7 hu7 hm7 hf8 ho8 g8 HY CX7
              have HL2 := hide hl2
              have HY := hide (And.intro hmem (And.intro hm8 (And.intro S8 (And.intro hx8 hu8))))
              clear hl2 hmem hm8 S8 hx8 hu8
              generalize w7.heap.size = ub at HY ⊢
              go_wp2_with fail
              obtain ⟨hmem, hm8, S8, hx8, hu8⟩ := HY.out
              generalize w8.alloc (objL f2 i2 p2 m2 (.slice q2 a2.length d2) t2 s2 e2 r2) = w9 at hm8 S8 hx8 hu8 ⊢
              clear HY
              have X0 := blk_cell hx8 0
              have X1 := blk_cell hx8 1
              have X7 := blk_cell hx8 7
              have X8 := blk_cell hx8 8
              have U0 := blk_cell hu8 0
              have U1 := blk_cell hu8 1
              have U2 := blk_cell hu8 2
              have U3 := blk_cell hu8 3
              have U4 := blk_cell hu8 4
              have U5 := blk_cell hu8 5
              have U6 := blk_cell hu8 6
              have U7 := blk_cell hu8 7
              have U8 := blk_cell hu8 8
              have CX8 := blk_cell hx8
              have HY := hide (And.intro hm8 (And.intro S8 CX8))
              clear hmem hm8 S8 hx8 hu8 CX8
              rcases HL1.out with ⟨hk1, hu1, hex, hrr⟩ | ⟨hk1, hxr⟩
              · subst hk1
                have hbu := HS5.out.2 _ hu1
                have HBU := hide (And.intro hbu hex)
                clear hbu hex hu1
                have kw : IntKind.i64.wrap ((k : Int) + 1) = (k : Int) + 1 := IntWalk.i64_in _ (by omega)
                have kc : (k : Int) + 1 ≤ (vc : Int) := by omega
                have kc2 : k + 1 ≤ vc := by omega
                have k0 : (0 : Int) ≤ (k : Int) + 1 := by omega
                have kn : ((k : Int) + 1).toNat = k + 1 := by omega
                have hvm : (vc : Int) ≤ 9223372036854775807 := by have := hcap.2; unfold maxLen at this; omega
                cases xr with
                | false =>
                  clear hrr
                  refine wp_region_held_drew (S := (fun w' => w'.cell? ⟨xb, 0, none⟩ = some (.int .i64 xf) ∧ w'.cell? ⟨xb, 1, none⟩ = some (.int .i64 xi) ∧ w'.cell? ⟨xb, 7, none⟩ = some (.int .i64 xe) ∧ w'.cell? ⟨xb, 8, none⟩ = some (.bool false) ∧ w'.cell? ⟨ub, 0, none⟩ = some (.int .i64 f1) ∧ w'.cell? ⟨ub, 1, none⟩ = some (.int .i64 i1) ∧ w'.cell? ⟨ub, 2, none⟩ = some (.string p1) ∧ w'.cell? ⟨ub, 3, none⟩ = some (.int .i64 m1) ∧ w'.cell? ⟨ub, 4, none⟩ = some (.slice q1 a1.length d1) ∧ w'.cell? ⟨ub, 5, none⟩ = some (.int .i64 t1) ∧ w'.cell? ⟨ub, 6, none⟩ = some (.int .i64 s1) ∧ w'.cell? ⟨ub, 7, none⟩ = some (.int .i64 e1) ∧ w'.cell? ⟨ub, 8, none⟩ = some (.bool r1))) (by kernel_rfl) ?_ (fun hHeld => ?_)
                  · go_keep
                  refine wpAnyH_take (i := 0) (oi := { dst := some 72, op := Op.move (Operand.tmp 12), type := 23, pos := "law.go:183", after := #[], guard := none }) (v := ?_) rfl (by kernel_rfl) (by kernel_rfl) (by kernel_rfl) (fun _ _ _ h => h) (Or.inl ⟨by rfl, ?_⟩) (by assumption) ?_
                  rotate_left
                  · (intro w hSw; (try dsimp only at hSw); go_simp; try with_reducible rfl)
                  try simp only [Act.put, List.setIfInBounds_toArray, List.set_cons_zero, List.set_cons_succ]
                  refine wpAnyH_take (i := 1) (oi := { dst := some 73, op := Op.binOp BinOp.eql 23 (Operand.tmp 72) (Operand.const (Value.int IntKind.i64 0)) 23, type := 4, pos := "law.go:183", after := #[{ on := 0, ground := Ground.data }], guard := none }) (v := ?_) rfl (by kernel_rfl) (by kernel_rfl) (by kernel_rfl) (fun _ _ _ h => h) (Or.inl ⟨by rfl, ?_⟩) (by assumption) ?_
                  rotate_left
                  · (intro w hSw; (try dsimp only at hSw); go_simp; try with_reducible rfl)
                  try simp only [Act.put, List.setIfInBounds_toArray, List.set_cons_zero, List.set_cons_succ]
                  refine wpAnyH_take (i := 2) (oi := { dst := some 74, op := Op.move (Operand.tmp 73), type := 4, pos := "law.go:183", after := #[{ on := 1, ground := Ground.data }], guard := none }) (v := ?_) rfl (by kernel_rfl) (by kernel_rfl) (by kernel_rfl) (fun _ _ _ h => h) (Or.inl ⟨by rfl, ?_⟩) (by assumption) ?_
                  rotate_left
                  · (intro w hSw; (try dsimp only at hSw); go_simp; try with_reducible rfl)
                  try simp only [Act.put, List.setIfInBounds_toArray, List.set_cons_zero, List.set_cons_succ]
                  refine wpAnyH_take (i := 3) (oi := { dst := some 75, op := Op.move (Operand.tmp 0), type := 3, pos := "law.go:183", after := #[{ on := 2, ground := Ground.guard }], guard := some (2, true) }) (v := ?_) rfl (by kernel_rfl) (by kernel_rfl) (by kernel_rfl) (fun _ _ _ h => h) (Or.inl ⟨by rfl, ?_⟩) (by assumption) ?_
                  rotate_left
                  · (intro w hSw; (try dsimp only at hSw); go_simp; try with_reducible rfl)
                  try simp only [Act.put, List.setIfInBounds_toArray, List.set_cons_zero, List.set_cons_succ]
                  refine wpAnyH_take (i := 4) (oi := { dst := some 76, op := Op.move (Operand.tmp 1), type := 35, pos := "law.go:183", after := #[{ on := 2, ground := Ground.guard }], guard := some (2, true) }) (v := ?_) rfl (by kernel_rfl) (by kernel_rfl) (by kernel_rfl) (fun _ _ _ h => h) (Or.inl ⟨by rfl, ?_⟩) (by assumption) ?_
                  rotate_left
                  · (intro w hSw; (try dsimp only at hSw); go_simp; try with_reducible rfl)
                  try simp only [Act.put, List.setIfInBounds_toArray, List.set_cons_zero, List.set_cons_succ]
                  refine wpAnyH_take (i := 5) (oi := { dst := some 77, op := Op.move (Operand.tmp 7), type := 3, pos := "law.go:183", after := #[{ on := 2, ground := Ground.guard }], guard := some (2, true) }) (v := ?_) rfl (by kernel_rfl) (by kernel_rfl) (by kernel_rfl) (fun _ _ _ h => h) (Or.inl ⟨by rfl, ?_⟩) (by assumption) ?_
                  rotate_left
                  · (intro w hSw; (try dsimp only at hSw); go_simp; try with_reducible rfl)
                  try simp only [Act.put, List.setIfInBounds_toArray, List.set_cons_zero, List.set_cons_succ]
                  refine wpAnyH_take (i := 6) (oi := { dst := some 78, op := Op.binOp BinOp.add 3 (Operand.tmp 77) (Operand.const (Value.int IntKind.i64 1)) 3, type := 3, pos := "law.go:183", after := #[{ on := 5, ground := Ground.data }, { on := 2, ground := Ground.guard }], guard := some (2, true) }) (v := ?_) rfl (by kernel_rfl) (by kernel_rfl) (by kernel_rfl) (fun _ _ _ h => h) (Or.inl ⟨by rfl, ?_⟩) (by assumption) ?_
                  rotate_left
                  · (intro w hSw; (try dsimp only at hSw); go_simp; try with_reducible rfl)
                  try simp only [Act.put, List.setIfInBounds_toArray, List.set_cons_zero, List.set_cons_succ]
                  refine wpAnyH_take (i := 7) (oi := { dst := some 79, op := Op.slice 35 (Operand.tmp 76) none (some (Operand.tmp 78)) none, type := 35, pos := "law.go:183", after := #[{ on := 4, ground := Ground.data }, { on := 6, ground := Ground.data }, { on := 2, ground := Ground.guard }], guard := some (2, true) }) (v := ?_) rfl (by kernel_rfl) (by kernel_rfl) (by kernel_rfl) (fun _ _ _ h => h) (Or.inl ⟨by rfl, ?_⟩) (by assumption) ?_
                  rotate_left
                  · (intro w hSw; (try dsimp only at hSw); go_simp; try with_reducible rfl)
                  try simp only [Act.put, List.setIfInBounds_toArray, List.set_cons_zero, List.set_cons_succ]
                  refine wpAnyH_take (i := 8) (oi := { dst := some 80, op := Op.load 30 (Operand.tmp 11), type := 30, pos := "law.go:183", after := #[{ on := 2, ground := Ground.guard }], guard := some (2, true) }) (v := ?_) rfl (by kernel_rfl) (by kernel_rfl) (by kernel_rfl) (fun _ _ _ h => h) (Or.inl ⟨by rfl, ?_⟩) (by assumption) ?_
                  rotate_left
                  · (intro w hSw; (try dsimp only at hSw); go_simp; try with_reducible rfl)
                  try simp only [Act.put, List.setIfInBounds_toArray, List.set_cons_zero, List.set_cons_succ]
                  refine wpAnyH_take (i := 9) (oi := { dst := some 81, op := Op.fieldAddr 30 (Operand.tmp 10) 7, type := 0, pos := "law.go:183", after := #[{ on := 2, ground := Ground.guard }], guard := some (2, true) }) (v := ?_) rfl (by kernel_rfl) (by kernel_rfl) (by kernel_rfl) (fun _ _ _ h => h) (Or.inl ⟨by rfl, ?_⟩) (by assumption) ?_
                  rotate_left
                  · (intro w hSw; (try dsimp only at hSw); go_simp; try with_reducible rfl)
                  try simp only [Act.put, List.setIfInBounds_toArray, List.set_cons_zero, List.set_cons_succ]
                  refine wpAnyH_take (i := 10) (oi := { dst := some 82, op := Op.load 3 (Operand.tmp 81), type := 3, pos := "law.go:183", after := #[{ on := 9, ground := Ground.data }, { on := 2, ground := Ground.guard }], guard := some (2, true) }) (v := ?_) rfl (by kernel_rfl) (by kernel_rfl) (by kernel_rfl) (fun _ _ _ h => h) (Or.inl ⟨by rfl, ?_⟩) (by assumption) ?_
                  rotate_left
                  · (intro w hSw; (try dsimp only at hSw); go_simp; try with_reducible rfl)
                  try simp only [Act.put, List.setIfInBounds_toArray, List.set_cons_zero, List.set_cons_succ]
                  refine wpAnyH_take (i := 11) (oi := { dst := some 83, op := Op.binOp BinOp.sub 3 (Operand.tmp 82) (Operand.const (Value.int IntKind.i64 1)) 3, type := 3, pos := "law.go:183", after := #[{ on := 10, ground := Ground.data }, { on := 2, ground := Ground.guard }], guard := some (2, true) }) (v := ?_) rfl (by kernel_rfl) (by kernel_rfl) (by kernel_rfl) (fun _ _ _ h => h) (Or.inl ⟨by rfl, ?_⟩) (by assumption) ?_
                  rotate_left
                  · (intro w hSw; (try dsimp only at hSw); go_simp; try with_reducible rfl)
                  try simp only [Act.put, List.setIfInBounds_toArray, List.set_cons_zero, List.set_cons_succ]
                  refine wpAnyH_ready (rs := [12]) (by kernel_rfl) (by simp) ?_
                  refine AllReadyH.cons (o := { dst := some 84, op := Op.call { callee := Callee.value (Operand.func 19), args := #[Operand.tmp 75, Operand.tmp 79, Operand.tmp 80, Operand.tmp 83], argTypes := #[3, 35, 30, 3] }, type := 4, pos := "law.go:183", after := #[{ on := 3, ground := Ground.data }, { on := 7, ground := Ground.data }, { on := 8, ground := Ground.data }, { on := 11, ground := Ground.data }, { on := 2, ground := Ground.chain }, { on := 2, ground := Ground.guard }], guard := some (2, true) }) rfl (fun K hK => ?_) AllReadyH.nil
                  go_simp
                  (refine (backed_take ((HR1.out.same HY.out.2.1.mod).same (((Gr.refl _).drew).mod [])) (k := k + 1) (by omega) _ rho _ _ _ _ _ _ _ _ a1 _ _ HBU.out.1 HBU.out.2).mono ?_; rintro e wb ⟨rfl, hgb⟩)
                  refine hK.out _ _ ?_ (fun hHeld => ?_)
                  · (go_split_ands; refine ⟨?_, ?_, ?_, ?_, ?_, ?_, ?_, ?_, ?_, ?_, ?_, ?_, ?_⟩ <;> (refine hgb.kept ?_; assumption))
                  clear hK K
                  try simp only [Act.put, List.setIfInBounds_toArray, List.set_cons_zero, List.set_cons_succ]
                  refine wpAnyH_take (i := 13) (oi := { dst := some 85, op := Op.unOp UnOp.not 4 (Operand.tmp 84), type := 4, pos := "law.go:183", after := #[{ on := 12, ground := Ground.data }, { on := 2, ground := Ground.guard }], guard := some (2, true) }) (v := ?_) rfl (by kernel_rfl) (by kernel_rfl) (by kernel_rfl) (fun _ _ _ h => h) (Or.inl ⟨by rfl, ?_⟩) (by assumption) ?_
                  rotate_left
                  · (intro w hSw; (try dsimp only at hSw); go_simp; try with_reducible rfl)
                  try simp only [Act.put, List.setIfInBounds_toArray, List.set_cons_zero, List.set_cons_succ]
                  refine wpAnyH_take (i := 14) (oi := { dst := some 86, op := Op.pick (Operand.tmp 74) (Operand.tmp 85) (Operand.const (Value.bool false)), type := 4, pos := "law.go:183", after := #[{ on := 2, ground := Ground.data }, { on := 13, ground := Ground.data }], guard := none }) (v := ?_) rfl (by kernel_rfl) (by kernel_rfl) (by kernel_rfl) (fun _ _ _ h => h) (Or.inl ⟨by rfl, ?_⟩) (by assumption) ?_
                  rotate_left
                  · (intro w hSw; (try dsimp only at hSw); go_simp; try with_reducible rfl)
                  try simp only [Act.put, List.setIfInBounds_toArray, List.set_cons_zero, List.set_cons_succ]
                  refine wpAnyH_take (i := 15) (oi := { dst := some 87, op := Op.move (Operand.tmp 86), type := 4, pos := "law.go:183", after := #[{ on := 14, ground := Ground.data }, { on := 12, ground := Ground.chain }], guard := none }) (v := ?_) rfl (by kernel_rfl) (by kernel_rfl) (by kernel_rfl) (fun _ _ _ h => h) (Or.inl ⟨by rfl, ?_⟩) (by assumption) ?_
                  rotate_left
                  · (intro w hSw; (try dsimp only at hSw); go_simp; try with_reducible rfl)
                  try simp only [Act.put, List.setIfInBounds_toArray, List.set_cons_zero, List.set_cons_succ]
                  refine wpAnyH_take (i := 16) (oi := { dst := some 88, op := Op.fieldAddr 30 (Operand.tmp 10) 8, type := 0, pos := "law.go:183", after := #[{ on := 15, ground := Ground.guard }], guard := some (15, false) }) (v := ?_) rfl (by kernel_rfl) (by kernel_rfl) (by kernel_rfl) (fun _ _ _ h => h) (Or.inl ⟨by rfl, ?_⟩) (by assumption) ?_
                  rotate_left
                  · (intro w hSw; (try dsimp only at hSw); go_simp; try with_reducible rfl)
                  try simp only [Act.put, List.setIfInBounds_toArray, List.set_cons_zero, List.set_cons_succ]
                  refine wpAnyH_take (i := 17) (oi := { dst := some 89, op := Op.load 4 (Operand.tmp 88), type := 4, pos := "law.go:183", after := #[{ on := 16, ground := Ground.data }, { on := 15, ground := Ground.guard }], guard := some (15, false) }) (v := ?_) rfl (by kernel_rfl) (by kernel_rfl) (by kernel_rfl) (fun _ _ _ h => h) (Or.inl ⟨by rfl, ?_⟩) (by assumption) ?_
                  rotate_left
                  · (intro w hSw; (try dsimp only at hSw); go_simp; try with_reducible rfl)
                  try simp only [Act.put, List.setIfInBounds_toArray, List.set_cons_zero, List.set_cons_succ]
                  refine wpAnyH_take (i := 18) (oi := { dst := some 90, op := Op.move (Operand.tmp 89), type := 4, pos := "law.go:183", after := #[{ on := 17, ground := Ground.data }, { on := 15, ground := Ground.chain }, { on := 15, ground := Ground.guard }], guard := some (15, false) }) (v := ?_) rfl (by kernel_rfl) (by kernel_rfl) (by kernel_rfl) (fun _ _ _ h => h) (Or.inl ⟨by rfl, ?_⟩) (by assumption) ?_
                  rotate_left
                  · (intro w hSw; (try dsimp only at hSw); go_simp; try with_reducible rfl)
                  try simp only [Act.put, List.setIfInBounds_toArray, List.set_cons_zero, List.set_cons_succ]
                  refine wpAnyH_take (i := 19) (oi := { dst := some 91, op := Op.move (Operand.tmp 12), type := 23, pos := "law.go:183", after := #[{ on := 18, ground := Ground.guard }], guard := some (18, true) }) rfl (by kernel_rfl) (by kernel_rfl) (by kernel_rfl) (fun _ _ _ h => h) (Or.inr ⟨by rfl, rfl⟩) (by assumption) ?_
                  try simp only [Act.put, List.setIfInBounds_toArray, List.set_cons_zero, List.set_cons_succ]
                  refine wpAnyH_take (i := 20) (oi := { dst := some 92, op := Op.binOp BinOp.eql 23 (Operand.tmp 91) (Operand.const (Value.int IntKind.i64 0)) 23, type := 4, pos := "law.go:183", after := #[{ on := 19, ground := Ground.data }, { on := 18, ground := Ground.guard }], guard := some (18, true) }) rfl (by kernel_rfl) (by kernel_rfl) (by kernel_rfl) (fun _ _ _ h => h) (Or.inr ⟨by rfl, rfl⟩) (by assumption) ?_
                  try simp only [Act.put, List.setIfInBounds_toArray, List.set_cons_zero, List.set_cons_succ]
                  refine wpAnyH_take (i := 21) (oi := { dst := some 93, op := Op.pick (Operand.tmp 90) (Operand.tmp 92) (Operand.const (Value.bool false)), type := 4, pos := "law.go:183", after := #[{ on := 18, ground := Ground.data }, { on := 20, ground := Ground.data }, { on := 15, ground := Ground.guard }], guard := some (15, false) }) (v := ?_) rfl (by kernel_rfl) (by kernel_rfl) (by kernel_rfl) (fun _ _ _ h => h) (Or.inl ⟨by rfl, ?_⟩) (by assumption) ?_
                  rotate_left
                  · (intro w hSw; (try dsimp only at hSw); go_simp; try with_reducible rfl)
                  try simp only [Act.put, List.setIfInBounds_toArray, List.set_cons_zero, List.set_cons_succ]
                  refine wpAnyH_take (i := 22) (oi := { dst := some 94, op := Op.move (Operand.tmp 93), type := 4, pos := "law.go:183", after := #[{ on := 21, ground := Ground.data }, { on := 18, ground := Ground.chain }, { on := 15, ground := Ground.guard }], guard := some (15, false) }) (v := ?_) rfl (by kernel_rfl) (by kernel_rfl) (by kernel_rfl) (fun _ _ _ h => h) (Or.inl ⟨by rfl, ?_⟩) (by assumption) ?_
                  rotate_left
                  · (intro w hSw; (try dsimp only at hSw); go_simp; try with_reducible rfl)
                  try simp only [Act.put, List.setIfInBounds_toArray, List.set_cons_zero, List.set_cons_succ]
                  refine wpAnyH_take (i := 23) (oi := { dst := some 95, op := Op.fieldAddr 30 (Operand.tmp 11) 0, type := 0, pos := "law.go:183", after := #[{ on := 22, ground := Ground.guard }], guard := some (22, true) }) rfl (by kernel_rfl) (by kernel_rfl) (by kernel_rfl) (fun _ _ _ h => h) (Or.inr ⟨by rfl, rfl⟩) (by assumption) ?_
                  try simp only [Act.put, List.setIfInBounds_toArray, List.set_cons_zero, List.set_cons_succ]
                  refine wpAnyH_take (i := 24) (oi := { dst := some 96, op := Op.load 3 (Operand.tmp 95), type := 3, pos := "law.go:183", after := #[{ on := 23, ground := Ground.data }, { on := 22, ground := Ground.guard }], guard := some (22, true) }) rfl (by kernel_rfl) (by kernel_rfl) (by kernel_rfl) (fun _ _ _ h => h) (Or.inr ⟨by rfl, rfl⟩) (by assumption) ?_
                  try simp only [Act.put, List.setIfInBounds_toArray, List.set_cons_zero, List.set_cons_succ]
                  refine wpAnyH_take (i := 25) (oi := { dst := some 97, op := Op.fieldAddr 30 (Operand.tmp 10) 0, type := 0, pos := "law.go:183", after := #[{ on := 22, ground := Ground.guard }], guard := some (22, true) }) rfl (by kernel_rfl) (by kernel_rfl) (by kernel_rfl) (fun _ _ _ h => h) (Or.inr ⟨by rfl, rfl⟩) (by assumption) ?_
                  try simp only [Act.put, List.setIfInBounds_toArray, List.set_cons_zero, List.set_cons_succ]
                  refine wpAnyH_take (i := 26) (oi := { dst := some 98, op := Op.load 3 (Operand.tmp 97), type := 3, pos := "law.go:183", after := #[{ on := 25, ground := Ground.data }, { on := 22, ground := Ground.guard }], guard := some (22, true) }) rfl (by kernel_rfl) (by kernel_rfl) (by kernel_rfl) (fun _ _ _ h => h) (Or.inr ⟨by rfl, rfl⟩) (by assumption) ?_
                  try simp only [Act.put, List.setIfInBounds_toArray, List.set_cons_zero, List.set_cons_succ]
                  refine wpAnyH_take (i := 27) (oi := { dst := some 99, op := Op.binOp BinOp.eql 3 (Operand.tmp 96) (Operand.tmp 98) 3, type := 4, pos := "law.go:183", after := #[{ on := 24, ground := Ground.data }, { on := 26, ground := Ground.data }, { on := 22, ground := Ground.guard }], guard := some (22, true) }) rfl (by kernel_rfl) (by kernel_rfl) (by kernel_rfl) (fun _ _ _ h => h) (Or.inr ⟨by rfl, rfl⟩) (by assumption) ?_
                  try simp only [Act.put, List.setIfInBounds_toArray, List.set_cons_zero, List.set_cons_succ]
                  refine wpAnyH_take (i := 28) (oi := { dst := some 100, op := Op.pick (Operand.tmp 94) (Operand.tmp 99) (Operand.const (Value.bool false)), type := 4, pos := "law.go:183", after := #[{ on := 22, ground := Ground.data }, { on := 27, ground := Ground.data }, { on := 15, ground := Ground.guard }], guard := some (15, false) }) (v := ?_) rfl (by kernel_rfl) (by kernel_rfl) (by kernel_rfl) (fun _ _ _ h => h) (Or.inl ⟨by rfl, ?_⟩) (by assumption) ?_
                  rotate_left
                  · (intro w hSw; (try dsimp only at hSw); go_simp; try with_reducible rfl)
                  try simp only [Act.put, List.setIfInBounds_toArray, List.set_cons_zero, List.set_cons_succ]
                  refine wpAnyH_take (i := 29) (oi := { dst := some 101, op := Op.move (Operand.tmp 100), type := 4, pos := "law.go:183", after := #[{ on := 28, ground := Ground.data }, { on := 22, ground := Ground.chain }, { on := 15, ground := Ground.guard }], guard := some (15, false) }) (v := ?_) rfl (by kernel_rfl) (by kernel_rfl) (by kernel_rfl) (fun _ _ _ h => h) (Or.inl ⟨by rfl, ?_⟩) (by assumption) ?_
                  rotate_left
                  · (intro w hSw; (try dsimp only at hSw); go_simp; try with_reducible rfl)
                  try simp only [Act.put, List.setIfInBounds_toArray, List.set_cons_zero, List.set_cons_succ]
                  refine wpAnyH_take (i := 30) (oi := { dst := some 102, op := Op.fieldAddr 30 (Operand.tmp 11) 1, type := 0, pos := "law.go:183", after := #[{ on := 29, ground := Ground.guard }], guard := some (29, true) }) rfl (by kernel_rfl) (by kernel_rfl) (by kernel_rfl) (fun _ _ _ h => h) (Or.inr ⟨by rfl, rfl⟩) (by assumption) ?_
                  try simp only [Act.put, List.setIfInBounds_toArray, List.set_cons_zero, List.set_cons_succ]
                  refine wpAnyH_take (i := 31) (oi := { dst := some 103, op := Op.load 3 (Operand.tmp 102), type := 3, pos := "law.go:183", after := #[{ on := 30, ground := Ground.data }, { on := 29, ground := Ground.guard }], guard := some (29, true) }) rfl (by kernel_rfl) (by kernel_rfl) (by kernel_rfl) (fun _ _ _ h => h) (Or.inr ⟨by rfl, rfl⟩) (by assumption) ?_
                  try simp only [Act.put, List.setIfInBounds_toArray, List.set_cons_zero, List.set_cons_succ]
                  refine wpAnyH_take (i := 32) (oi := { dst := some 104, op := Op.fieldAddr 30 (Operand.tmp 10) 1, type := 0, pos := "law.go:183", after := #[{ on := 29, ground := Ground.guard }], guard := some (29, true) }) rfl (by kernel_rfl) (by kernel_rfl) (by kernel_rfl) (fun _ _ _ h => h) (Or.inr ⟨by rfl, rfl⟩) (by assumption) ?_
                  try simp only [Act.put, List.setIfInBounds_toArray, List.set_cons_zero, List.set_cons_succ]
                  refine wpAnyH_take (i := 33) (oi := { dst := some 105, op := Op.load 3 (Operand.tmp 104), type := 3, pos := "law.go:183", after := #[{ on := 32, ground := Ground.data }, { on := 29, ground := Ground.guard }], guard := some (29, true) }) rfl (by kernel_rfl) (by kernel_rfl) (by kernel_rfl) (fun _ _ _ h => h) (Or.inr ⟨by rfl, rfl⟩) (by assumption) ?_
                  try simp only [Act.put, List.setIfInBounds_toArray, List.set_cons_zero, List.set_cons_succ]
                  refine wpAnyH_take (i := 34) (oi := { dst := some 106, op := Op.binOp BinOp.eql 3 (Operand.tmp 103) (Operand.tmp 105) 3, type := 4, pos := "law.go:183", after := #[{ on := 31, ground := Ground.data }, { on := 33, ground := Ground.data }, { on := 29, ground := Ground.guard }], guard := some (29, true) }) rfl (by kernel_rfl) (by kernel_rfl) (by kernel_rfl) (fun _ _ _ h => h) (Or.inr ⟨by rfl, rfl⟩) (by assumption) ?_
                  try simp only [Act.put, List.setIfInBounds_toArray, List.set_cons_zero, List.set_cons_succ]
                  refine wpAnyH_take (i := 35) (oi := { dst := some 107, op := Op.pick (Operand.tmp 101) (Operand.tmp 106) (Operand.const (Value.bool false)), type := 4, pos := "law.go:183", after := #[{ on := 29, ground := Ground.data }, { on := 34, ground := Ground.data }, { on := 15, ground := Ground.guard }], guard := some (15, false) }) (v := ?_) rfl (by kernel_rfl) (by kernel_rfl) (by kernel_rfl) (fun _ _ _ h => h) (Or.inl ⟨by rfl, ?_⟩) (by assumption) ?_
                  rotate_left
                  · (intro w hSw; (try dsimp only at hSw); go_simp; try with_reducible rfl)
                  try simp only [Act.put, List.setIfInBounds_toArray, List.set_cons_zero, List.set_cons_succ]
                  refine wpAnyH_take (i := 36) (oi := { dst := some 108, op := Op.pick (Operand.tmp 87) (Operand.const (Value.bool true)) (Operand.tmp 107), type := 4, pos := "law.go:183", after := #[{ on := 15, ground := Ground.data }, { on := 35, ground := Ground.data }], guard := none }) (v := ?_) rfl (by kernel_rfl) (by kernel_rfl) (by kernel_rfl) (fun _ _ _ h => h) (Or.inl ⟨by rfl, ?_⟩) (by assumption) ?_
                  rotate_left
                  · (intro w hSw; (try dsimp only at hSw); go_simp; try with_reducible rfl)
                  try simp only [Act.put, List.setIfInBounds_toArray, List.set_cons_zero, List.set_cons_succ]
                  refine wpAnyH_done (by kernel_rfl) ?_ _
                  have gz := (Gr.refl w9).drew.trans hgb
                  clear hgb
                  obtain ⟨hm8, S8, CX8⟩ := HY.out
                  have Z8 := gz.kept X8
                  have Hz := hide (And.intro (hm8.then (gz.mod [])) (S8.gr gz))
                  clear hm8 S8 CX8 gz X0 X1 X7 X8 U0 U1 U2 U3 U4 U5 U6 U7 U8 HY hHeld
                  by_cases hk2 : k2 = 0
                  · subst hk2
                    have hln : L.length ≠ 1 := HL2.out.elim (fun h => absurd rfl h) id
                    have hb1 : ((L.length : Int) == 1) = false := by rw [beq_eq_false_iff_ne]; omega
                    have hb3 : (L.length == 1) = false := by rw [beq_eq_false_iff_ne]; omega
                    clear hln
                    go_wp2_with fail
                    refine (list_rd Hz.out.2.hd).mono ?_
                    rintro en w11 ⟨q11, c11, f11, rfl, -, -, hm11⟩
                    have HE := hide (Hz.out.1.then hm11)
                    clear hm11 Z8
                    go_wp2_with fail
                    go_roundw
                    case rel => exact ⟨j + 1, by omega, by go_num, HE.out⟩
                    case measure => simp [intOf]; omega
                  · have hb2 : (k2 == 0) = false := by simpa using hk2
                    clear hk2
                    go_wp2_with fail
                    go_roundw
                    case rel => exact ⟨j + 1, by omega, by go_num, Hz.out.1⟩
                    case measure => simp [intOf]; omega
                | true =>
                  have hrr := hrr rfl
                  rcases hrr with hff | ⟨hff, hii⟩
                  · have hbf : (f1 == xf) = false := by rw [beq_eq_false_iff_ne]; exact hff
                    clear hff
                    refine wp_region_held_drew (S := (fun w' => w'.cell? ⟨xb, 0, none⟩ = some (.int .i64 xf) ∧ w'.cell? ⟨xb, 1, none⟩ = some (.int .i64 xi) ∧ w'.cell? ⟨xb, 7, none⟩ = some (.int .i64 xe) ∧ w'.cell? ⟨xb, 8, none⟩ = some (.bool true) ∧ w'.cell? ⟨ub, 0, none⟩ = some (.int .i64 f1) ∧ w'.cell? ⟨ub, 1, none⟩ = some (.int .i64 i1) ∧ w'.cell? ⟨ub, 2, none⟩ = some (.string p1) ∧ w'.cell? ⟨ub, 3, none⟩ = some (.int .i64 m1) ∧ w'.cell? ⟨ub, 4, none⟩ = some (.slice q1 a1.length d1) ∧ w'.cell? ⟨ub, 5, none⟩ = some (.int .i64 t1) ∧ w'.cell? ⟨ub, 6, none⟩ = some (.int .i64 s1) ∧ w'.cell? ⟨ub, 7, none⟩ = some (.int .i64 e1) ∧ w'.cell? ⟨ub, 8, none⟩ = some (.bool r1))) (by kernel_rfl) ?_ (fun hHeld => ?_)
                    · go_keep
                    refine wpAnyH_take (i := 0) (oi := { dst := some 72, op := Op.move (Operand.tmp 12), type := 23, pos := "law.go:183", after := #[], guard := none }) (v := ?_) rfl (by kernel_rfl) (by kernel_rfl) (by kernel_rfl) (fun _ _ _ h => h) (Or.inl ⟨by rfl, ?_⟩) (by assumption) ?_
                    rotate_left
                    · (intro w hSw; (try dsimp only at hSw); go_simp; try with_reducible rfl)
                    try simp only [Act.put, List.setIfInBounds_toArray, List.set_cons_zero, List.set_cons_succ]
                    refine wpAnyH_take (i := 1) (oi := { dst := some 73, op := Op.binOp BinOp.eql 23 (Operand.tmp 72) (Operand.const (Value.int IntKind.i64 0)) 23, type := 4, pos := "law.go:183", after := #[{ on := 0, ground := Ground.data }], guard := none }) (v := ?_) rfl (by kernel_rfl) (by kernel_rfl) (by kernel_rfl) (fun _ _ _ h => h) (Or.inl ⟨by rfl, ?_⟩) (by assumption) ?_
                    rotate_left
                    · (intro w hSw; (try dsimp only at hSw); go_simp; try with_reducible rfl)
                    try simp only [Act.put, List.setIfInBounds_toArray, List.set_cons_zero, List.set_cons_succ]
                    refine wpAnyH_take (i := 2) (oi := { dst := some 74, op := Op.move (Operand.tmp 73), type := 4, pos := "law.go:183", after := #[{ on := 1, ground := Ground.data }], guard := none }) (v := ?_) rfl (by kernel_rfl) (by kernel_rfl) (by kernel_rfl) (fun _ _ _ h => h) (Or.inl ⟨by rfl, ?_⟩) (by assumption) ?_
                    rotate_left
                    · (intro w hSw; (try dsimp only at hSw); go_simp; try with_reducible rfl)
                    try simp only [Act.put, List.setIfInBounds_toArray, List.set_cons_zero, List.set_cons_succ]
                    refine wpAnyH_take (i := 3) (oi := { dst := some 75, op := Op.move (Operand.tmp 0), type := 3, pos := "law.go:183", after := #[{ on := 2, ground := Ground.guard }], guard := some (2, true) }) (v := ?_) rfl (by kernel_rfl) (by kernel_rfl) (by kernel_rfl) (fun _ _ _ h => h) (Or.inl ⟨by rfl, ?_⟩) (by assumption) ?_
                    rotate_left
                    · (intro w hSw; (try dsimp only at hSw); go_simp; try with_reducible rfl)
                    try simp only [Act.put, List.setIfInBounds_toArray, List.set_cons_zero, List.set_cons_succ]
                    refine wpAnyH_take (i := 4) (oi := { dst := some 76, op := Op.move (Operand.tmp 1), type := 35, pos := "law.go:183", after := #[{ on := 2, ground := Ground.guard }], guard := some (2, true) }) (v := ?_) rfl (by kernel_rfl) (by kernel_rfl) (by kernel_rfl) (fun _ _ _ h => h) (Or.inl ⟨by rfl, ?_⟩) (by assumption) ?_
                    rotate_left
                    · (intro w hSw; (try dsimp only at hSw); go_simp; try with_reducible rfl)
                    try simp only [Act.put, List.setIfInBounds_toArray, List.set_cons_zero, List.set_cons_succ]
                    refine wpAnyH_take (i := 5) (oi := { dst := some 77, op := Op.move (Operand.tmp 7), type := 3, pos := "law.go:183", after := #[{ on := 2, ground := Ground.guard }], guard := some (2, true) }) (v := ?_) rfl (by kernel_rfl) (by kernel_rfl) (by kernel_rfl) (fun _ _ _ h => h) (Or.inl ⟨by rfl, ?_⟩) (by assumption) ?_
                    rotate_left
                    · (intro w hSw; (try dsimp only at hSw); go_simp; try with_reducible rfl)
                    try simp only [Act.put, List.setIfInBounds_toArray, List.set_cons_zero, List.set_cons_succ]
                    refine wpAnyH_take (i := 6) (oi := { dst := some 78, op := Op.binOp BinOp.add 3 (Operand.tmp 77) (Operand.const (Value.int IntKind.i64 1)) 3, type := 3, pos := "law.go:183", after := #[{ on := 5, ground := Ground.data }, { on := 2, ground := Ground.guard }], guard := some (2, true) }) (v := ?_) rfl (by kernel_rfl) (by kernel_rfl) (by kernel_rfl) (fun _ _ _ h => h) (Or.inl ⟨by rfl, ?_⟩) (by assumption) ?_
                    rotate_left
                    · (intro w hSw; (try dsimp only at hSw); go_simp; try with_reducible rfl)
                    try simp only [Act.put, List.setIfInBounds_toArray, List.set_cons_zero, List.set_cons_succ]
                    refine wpAnyH_take (i := 7) (oi := { dst := some 79, op := Op.slice 35 (Operand.tmp 76) none (some (Operand.tmp 78)) none, type := 35, pos := "law.go:183", after := #[{ on := 4, ground := Ground.data }, { on := 6, ground := Ground.data }, { on := 2, ground := Ground.guard }], guard := some (2, true) }) (v := ?_) rfl (by kernel_rfl) (by kernel_rfl) (by kernel_rfl) (fun _ _ _ h => h) (Or.inl ⟨by rfl, ?_⟩) (by assumption) ?_
                    rotate_left
                    · (intro w hSw; (try dsimp only at hSw); go_simp; try with_reducible rfl)
                    try simp only [Act.put, List.setIfInBounds_toArray, List.set_cons_zero, List.set_cons_succ]
                    refine wpAnyH_take (i := 8) (oi := { dst := some 80, op := Op.load 30 (Operand.tmp 11), type := 30, pos := "law.go:183", after := #[{ on := 2, ground := Ground.guard }], guard := some (2, true) }) (v := ?_) rfl (by kernel_rfl) (by kernel_rfl) (by kernel_rfl) (fun _ _ _ h => h) (Or.inl ⟨by rfl, ?_⟩) (by assumption) ?_
                    rotate_left
                    · (intro w hSw; (try dsimp only at hSw); go_simp; try with_reducible rfl)
                    try simp only [Act.put, List.setIfInBounds_toArray, List.set_cons_zero, List.set_cons_succ]
                    refine wpAnyH_take (i := 9) (oi := { dst := some 81, op := Op.fieldAddr 30 (Operand.tmp 10) 7, type := 0, pos := "law.go:183", after := #[{ on := 2, ground := Ground.guard }], guard := some (2, true) }) (v := ?_) rfl (by kernel_rfl) (by kernel_rfl) (by kernel_rfl) (fun _ _ _ h => h) (Or.inl ⟨by rfl, ?_⟩) (by assumption) ?_
                    rotate_left
                    · (intro w hSw; (try dsimp only at hSw); go_simp; try with_reducible rfl)
                    try simp only [Act.put, List.setIfInBounds_toArray, List.set_cons_zero, List.set_cons_succ]
                    refine wpAnyH_take (i := 10) (oi := { dst := some 82, op := Op.load 3 (Operand.tmp 81), type := 3, pos := "law.go:183", after := #[{ on := 9, ground := Ground.data }, { on := 2, ground := Ground.guard }], guard := some (2, true) }) (v := ?_) rfl (by kernel_rfl) (by kernel_rfl) (by kernel_rfl) (fun _ _ _ h => h) (Or.inl ⟨by rfl, ?_⟩) (by assumption) ?_
                    rotate_left
                    · (intro w hSw; (try dsimp only at hSw); go_simp; try with_reducible rfl)
                    try simp only [Act.put, List.setIfInBounds_toArray, List.set_cons_zero, List.set_cons_succ]
                    refine wpAnyH_take (i := 11) (oi := { dst := some 83, op := Op.binOp BinOp.sub 3 (Operand.tmp 82) (Operand.const (Value.int IntKind.i64 1)) 3, type := 3, pos := "law.go:183", after := #[{ on := 10, ground := Ground.data }, { on := 2, ground := Ground.guard }], guard := some (2, true) }) (v := ?_) rfl (by kernel_rfl) (by kernel_rfl) (by kernel_rfl) (fun _ _ _ h => h) (Or.inl ⟨by rfl, ?_⟩) (by assumption) ?_
                    rotate_left
                    · (intro w hSw; (try dsimp only at hSw); go_simp; try with_reducible rfl)
                    try simp only [Act.put, List.setIfInBounds_toArray, List.set_cons_zero, List.set_cons_succ]
                    refine wpAnyH_ready (rs := [12]) (by kernel_rfl) (by simp) ?_
                    refine AllReadyH.cons (o := { dst := some 84, op := Op.call { callee := Callee.value (Operand.func 19), args := #[Operand.tmp 75, Operand.tmp 79, Operand.tmp 80, Operand.tmp 83], argTypes := #[3, 35, 30, 3] }, type := 4, pos := "law.go:183", after := #[{ on := 3, ground := Ground.data }, { on := 7, ground := Ground.data }, { on := 8, ground := Ground.data }, { on := 11, ground := Ground.data }, { on := 2, ground := Ground.chain }, { on := 2, ground := Ground.guard }], guard := some (2, true) }) rfl (fun K hK => ?_) AllReadyH.nil
                    go_simp
                    (refine (backed_take ((HR1.out.same HY.out.2.1.mod).same (((Gr.refl _).drew).mod [])) (k := k + 1) (by omega) _ rho _ _ _ _ _ _ _ _ a1 _ _ HBU.out.1 HBU.out.2).mono ?_; rintro e wb ⟨rfl, hgb⟩)
                    refine hK.out _ _ ?_ (fun hHeld => ?_)
                    · (go_split_ands; refine ⟨?_, ?_, ?_, ?_, ?_, ?_, ?_, ?_, ?_, ?_, ?_, ?_, ?_⟩ <;> (refine hgb.kept ?_; assumption))
                    clear hK K
                    try simp only [Act.put, List.setIfInBounds_toArray, List.set_cons_zero, List.set_cons_succ]
                    refine wpAnyH_take (i := 13) (oi := { dst := some 85, op := Op.unOp UnOp.not 4 (Operand.tmp 84), type := 4, pos := "law.go:183", after := #[{ on := 12, ground := Ground.data }, { on := 2, ground := Ground.guard }], guard := some (2, true) }) (v := ?_) rfl (by kernel_rfl) (by kernel_rfl) (by kernel_rfl) (fun _ _ _ h => h) (Or.inl ⟨by rfl, ?_⟩) (by assumption) ?_
                    rotate_left
                    · (intro w hSw; (try dsimp only at hSw); go_simp; try with_reducible rfl)
                    try simp only [Act.put, List.setIfInBounds_toArray, List.set_cons_zero, List.set_cons_succ]
                    refine wpAnyH_take (i := 14) (oi := { dst := some 86, op := Op.pick (Operand.tmp 74) (Operand.tmp 85) (Operand.const (Value.bool false)), type := 4, pos := "law.go:183", after := #[{ on := 2, ground := Ground.data }, { on := 13, ground := Ground.data }], guard := none }) (v := ?_) rfl (by kernel_rfl) (by kernel_rfl) (by kernel_rfl) (fun _ _ _ h => h) (Or.inl ⟨by rfl, ?_⟩) (by assumption) ?_
                    rotate_left
                    · (intro w hSw; (try dsimp only at hSw); go_simp; try with_reducible rfl)
                    try simp only [Act.put, List.setIfInBounds_toArray, List.set_cons_zero, List.set_cons_succ]
                    refine wpAnyH_take (i := 15) (oi := { dst := some 87, op := Op.move (Operand.tmp 86), type := 4, pos := "law.go:183", after := #[{ on := 14, ground := Ground.data }, { on := 12, ground := Ground.chain }], guard := none }) (v := ?_) rfl (by kernel_rfl) (by kernel_rfl) (by kernel_rfl) (fun _ _ _ h => h) (Or.inl ⟨by rfl, ?_⟩) (by assumption) ?_
                    rotate_left
                    · (intro w hSw; (try dsimp only at hSw); go_simp; try with_reducible rfl)
                    try simp only [Act.put, List.setIfInBounds_toArray, List.set_cons_zero, List.set_cons_succ]
                    refine wpAnyH_take (i := 16) (oi := { dst := some 88, op := Op.fieldAddr 30 (Operand.tmp 10) 8, type := 0, pos := "law.go:183", after := #[{ on := 15, ground := Ground.guard }], guard := some (15, false) }) (v := ?_) rfl (by kernel_rfl) (by kernel_rfl) (by kernel_rfl) (fun _ _ _ h => h) (Or.inl ⟨by rfl, ?_⟩) (by assumption) ?_
                    rotate_left
                    · (intro w hSw; (try dsimp only at hSw); go_simp; try with_reducible rfl)
                    try simp only [Act.put, List.setIfInBounds_toArray, List.set_cons_zero, List.set_cons_succ]
                    refine wpAnyH_take (i := 17) (oi := { dst := some 89, op := Op.load 4 (Operand.tmp 88), type := 4, pos := "law.go:183", after := #[{ on := 16, ground := Ground.data }, { on := 15, ground := Ground.guard }], guard := some (15, false) }) (v := ?_) rfl (by kernel_rfl) (by kernel_rfl) (by kernel_rfl) (fun _ _ _ h => h) (Or.inl ⟨by rfl, ?_⟩) (by assumption) ?_
                    rotate_left
                    · (intro w hSw; (try dsimp only at hSw); go_simp; try with_reducible rfl)
                    try simp only [Act.put, List.setIfInBounds_toArray, List.set_cons_zero, List.set_cons_succ]
                    refine wpAnyH_take (i := 18) (oi := { dst := some 90, op := Op.move (Operand.tmp 89), type := 4, pos := "law.go:183", after := #[{ on := 17, ground := Ground.data }, { on := 15, ground := Ground.chain }, { on := 15, ground := Ground.guard }], guard := some (15, false) }) (v := ?_) rfl (by kernel_rfl) (by kernel_rfl) (by kernel_rfl) (fun _ _ _ h => h) (Or.inl ⟨by rfl, ?_⟩) (by assumption) ?_
                    rotate_left
                    · (intro w hSw; (try dsimp only at hSw); go_simp; try with_reducible rfl)
                    try simp only [Act.put, List.setIfInBounds_toArray, List.set_cons_zero, List.set_cons_succ]
                    refine wpAnyH_take (i := 19) (oi := { dst := some 91, op := Op.move (Operand.tmp 12), type := 23, pos := "law.go:183", after := #[{ on := 18, ground := Ground.guard }], guard := some (18, true) }) (v := ?_) rfl (by kernel_rfl) (by kernel_rfl) (by kernel_rfl) (fun _ _ _ h => h) (Or.inl ⟨by rfl, ?_⟩) (by assumption) ?_
                    rotate_left
                    · (intro w hSw; (try dsimp only at hSw); go_simp; try with_reducible rfl)
                    try simp only [Act.put, List.setIfInBounds_toArray, List.set_cons_zero, List.set_cons_succ]
                    refine wpAnyH_take (i := 20) (oi := { dst := some 92, op := Op.binOp BinOp.eql 23 (Operand.tmp 91) (Operand.const (Value.int IntKind.i64 0)) 23, type := 4, pos := "law.go:183", after := #[{ on := 19, ground := Ground.data }, { on := 18, ground := Ground.guard }], guard := some (18, true) }) (v := ?_) rfl (by kernel_rfl) (by kernel_rfl) (by kernel_rfl) (fun _ _ _ h => h) (Or.inl ⟨by rfl, ?_⟩) (by assumption) ?_
                    rotate_left
                    · (intro w hSw; (try dsimp only at hSw); go_simp; try with_reducible rfl)
                    try simp only [Act.put, List.setIfInBounds_toArray, List.set_cons_zero, List.set_cons_succ]
                    refine wpAnyH_take (i := 21) (oi := { dst := some 93, op := Op.pick (Operand.tmp 90) (Operand.tmp 92) (Operand.const (Value.bool false)), type := 4, pos := "law.go:183", after := #[{ on := 18, ground := Ground.data }, { on := 20, ground := Ground.data }, { on := 15, ground := Ground.guard }], guard := some (15, false) }) (v := ?_) rfl (by kernel_rfl) (by kernel_rfl) (by kernel_rfl) (fun _ _ _ h => h) (Or.inl ⟨by rfl, ?_⟩) (by assumption) ?_
                    rotate_left
                    · (intro w hSw; (try dsimp only at hSw); go_simp; try with_reducible rfl)
                    try simp only [Act.put, List.setIfInBounds_toArray, List.set_cons_zero, List.set_cons_succ]
                    refine wpAnyH_take (i := 22) (oi := { dst := some 94, op := Op.move (Operand.tmp 93), type := 4, pos := "law.go:183", after := #[{ on := 21, ground := Ground.data }, { on := 18, ground := Ground.chain }, { on := 15, ground := Ground.guard }], guard := some (15, false) }) (v := ?_) rfl (by kernel_rfl) (by kernel_rfl) (by kernel_rfl) (fun _ _ _ h => h) (Or.inl ⟨by rfl, ?_⟩) (by assumption) ?_
                    rotate_left
                    · (intro w hSw; (try dsimp only at hSw); go_simp; try with_reducible rfl)
                    try simp only [Act.put, List.setIfInBounds_toArray, List.set_cons_zero, List.set_cons_succ]
                    refine wpAnyH_take (i := 23) (oi := { dst := some 95, op := Op.fieldAddr 30 (Operand.tmp 11) 0, type := 0, pos := "law.go:183", after := #[{ on := 22, ground := Ground.guard }], guard := some (22, true) }) (v := ?_) rfl (by kernel_rfl) (by kernel_rfl) (by kernel_rfl) (fun _ _ _ h => h) (Or.inl ⟨by rfl, ?_⟩) (by assumption) ?_
                    rotate_left
                    · (intro w hSw; (try dsimp only at hSw); go_simp; try with_reducible rfl)
                    try simp only [Act.put, List.setIfInBounds_toArray, List.set_cons_zero, List.set_cons_succ]
                    refine wpAnyH_take (i := 24) (oi := { dst := some 96, op := Op.load 3 (Operand.tmp 95), type := 3, pos := "law.go:183", after := #[{ on := 23, ground := Ground.data }, { on := 22, ground := Ground.guard }], guard := some (22, true) }) (v := ?_) rfl (by kernel_rfl) (by kernel_rfl) (by kernel_rfl) (fun _ _ _ h => h) (Or.inl ⟨by rfl, ?_⟩) (by assumption) ?_
                    rotate_left
                    · (intro w hSw; (try dsimp only at hSw); go_simp; try with_reducible rfl)
                    try simp only [Act.put, List.setIfInBounds_toArray, List.set_cons_zero, List.set_cons_succ]
                    refine wpAnyH_take (i := 25) (oi := { dst := some 97, op := Op.fieldAddr 30 (Operand.tmp 10) 0, type := 0, pos := "law.go:183", after := #[{ on := 22, ground := Ground.guard }], guard := some (22, true) }) (v := ?_) rfl (by kernel_rfl) (by kernel_rfl) (by kernel_rfl) (fun _ _ _ h => h) (Or.inl ⟨by rfl, ?_⟩) (by assumption) ?_
                    rotate_left
                    · (intro w hSw; (try dsimp only at hSw); go_simp; try with_reducible rfl)
                    try simp only [Act.put, List.setIfInBounds_toArray, List.set_cons_zero, List.set_cons_succ]
                    refine wpAnyH_take (i := 26) (oi := { dst := some 98, op := Op.load 3 (Operand.tmp 97), type := 3, pos := "law.go:183", after := #[{ on := 25, ground := Ground.data }, { on := 22, ground := Ground.guard }], guard := some (22, true) }) (v := ?_) rfl (by kernel_rfl) (by kernel_rfl) (by kernel_rfl) (fun _ _ _ h => h) (Or.inl ⟨by rfl, ?_⟩) (by assumption) ?_
                    rotate_left
                    · (intro w hSw; (try dsimp only at hSw); go_simp; try with_reducible rfl)
                    try simp only [Act.put, List.setIfInBounds_toArray, List.set_cons_zero, List.set_cons_succ]
                    refine wpAnyH_take (i := 27) (oi := { dst := some 99, op := Op.binOp BinOp.eql 3 (Operand.tmp 96) (Operand.tmp 98) 3, type := 4, pos := "law.go:183", after := #[{ on := 24, ground := Ground.data }, { on := 26, ground := Ground.data }, { on := 22, ground := Ground.guard }], guard := some (22, true) }) (v := ?_) rfl (by kernel_rfl) (by kernel_rfl) (by kernel_rfl) (fun _ _ _ h => h) (Or.inl ⟨by rfl, ?_⟩) (by assumption) ?_
                    rotate_left
                    · (intro w hSw; (try dsimp only at hSw); go_simp; try with_reducible rfl)
                    try simp only [Act.put, List.setIfInBounds_toArray, List.set_cons_zero, List.set_cons_succ]
                    refine wpAnyH_take (i := 28) (oi := { dst := some 100, op := Op.pick (Operand.tmp 94) (Operand.tmp 99) (Operand.const (Value.bool false)), type := 4, pos := "law.go:183", after := #[{ on := 22, ground := Ground.data }, { on := 27, ground := Ground.data }, { on := 15, ground := Ground.guard }], guard := some (15, false) }) (v := ?_) rfl (by kernel_rfl) (by kernel_rfl) (by kernel_rfl) (fun _ _ _ h => h) (Or.inl ⟨by rfl, ?_⟩) (by assumption) ?_
                    rotate_left
                    · (intro w hSw; (try dsimp only at hSw); go_simp; try with_reducible rfl)
                    try simp only [Act.put, List.setIfInBounds_toArray, List.set_cons_zero, List.set_cons_succ]
                    refine wpAnyH_take (i := 29) (oi := { dst := some 101, op := Op.move (Operand.tmp 100), type := 4, pos := "law.go:183", after := #[{ on := 28, ground := Ground.data }, { on := 22, ground := Ground.chain }, { on := 15, ground := Ground.guard }], guard := some (15, false) }) (v := ?_) rfl (by kernel_rfl) (by kernel_rfl) (by kernel_rfl) (fun _ _ _ h => h) (Or.inl ⟨by rfl, ?_⟩) (by assumption) ?_
                    rotate_left
                    · (intro w hSw; (try dsimp only at hSw); go_simp; try with_reducible rfl)
                    try simp only [Act.put, List.setIfInBounds_toArray, List.set_cons_zero, List.set_cons_succ]
                    refine wpAnyH_take (i := 30) (oi := { dst := some 102, op := Op.fieldAddr 30 (Operand.tmp 11) 1, type := 0, pos := "law.go:183", after := #[{ on := 29, ground := Ground.guard }], guard := some (29, true) }) rfl (by kernel_rfl) (by kernel_rfl) (by kernel_rfl) (fun _ _ _ h => h) (Or.inr ⟨by rfl, rfl⟩) (by assumption) ?_
                    try simp only [Act.put, List.setIfInBounds_toArray, List.set_cons_zero, List.set_cons_succ]
                    refine wpAnyH_take (i := 31) (oi := { dst := some 103, op := Op.load 3 (Operand.tmp 102), type := 3, pos := "law.go:183", after := #[{ on := 30, ground := Ground.data }, { on := 29, ground := Ground.guard }], guard := some (29, true) }) rfl (by kernel_rfl) (by kernel_rfl) (by kernel_rfl) (fun _ _ _ h => h) (Or.inr ⟨by rfl, rfl⟩) (by assumption) ?_
                    try simp only [Act.put, List.setIfInBounds_toArray, List.set_cons_zero, List.set_cons_succ]
                    refine wpAnyH_take (i := 32) (oi := { dst := some 104, op := Op.fieldAddr 30 (Operand.tmp 10) 1, type := 0, pos := "law.go:183", after := #[{ on := 29, ground := Ground.guard }], guard := some (29, true) }) rfl (by kernel_rfl) (by kernel_rfl) (by kernel_rfl) (fun _ _ _ h => h) (Or.inr ⟨by rfl, rfl⟩) (by assumption) ?_
                    try simp only [Act.put, List.setIfInBounds_toArray, List.set_cons_zero, List.set_cons_succ]
                    refine wpAnyH_take (i := 33) (oi := { dst := some 105, op := Op.load 3 (Operand.tmp 104), type := 3, pos := "law.go:183", after := #[{ on := 32, ground := Ground.data }, { on := 29, ground := Ground.guard }], guard := some (29, true) }) rfl (by kernel_rfl) (by kernel_rfl) (by kernel_rfl) (fun _ _ _ h => h) (Or.inr ⟨by rfl, rfl⟩) (by assumption) ?_
                    try simp only [Act.put, List.setIfInBounds_toArray, List.set_cons_zero, List.set_cons_succ]
                    refine wpAnyH_take (i := 34) (oi := { dst := some 106, op := Op.binOp BinOp.eql 3 (Operand.tmp 103) (Operand.tmp 105) 3, type := 4, pos := "law.go:183", after := #[{ on := 31, ground := Ground.data }, { on := 33, ground := Ground.data }, { on := 29, ground := Ground.guard }], guard := some (29, true) }) rfl (by kernel_rfl) (by kernel_rfl) (by kernel_rfl) (fun _ _ _ h => h) (Or.inr ⟨by rfl, rfl⟩) (by assumption) ?_
                    try simp only [Act.put, List.setIfInBounds_toArray, List.set_cons_zero, List.set_cons_succ]
                    refine wpAnyH_take (i := 35) (oi := { dst := some 107, op := Op.pick (Operand.tmp 101) (Operand.tmp 106) (Operand.const (Value.bool false)), type := 4, pos := "law.go:183", after := #[{ on := 29, ground := Ground.data }, { on := 34, ground := Ground.data }, { on := 15, ground := Ground.guard }], guard := some (15, false) }) (v := ?_) rfl (by kernel_rfl) (by kernel_rfl) (by kernel_rfl) (fun _ _ _ h => h) (Or.inl ⟨by rfl, ?_⟩) (by assumption) ?_
                    rotate_left
                    · (intro w hSw; (try dsimp only at hSw); go_simp; try with_reducible rfl)
                    try simp only [Act.put, List.setIfInBounds_toArray, List.set_cons_zero, List.set_cons_succ]
                    refine wpAnyH_take (i := 36) (oi := { dst := some 108, op := Op.pick (Operand.tmp 87) (Operand.const (Value.bool true)) (Operand.tmp 107), type := 4, pos := "law.go:183", after := #[{ on := 15, ground := Ground.data }, { on := 35, ground := Ground.data }], guard := none }) (v := ?_) rfl (by kernel_rfl) (by kernel_rfl) (by kernel_rfl) (fun _ _ _ h => h) (Or.inl ⟨by rfl, ?_⟩) (by assumption) ?_
                    rotate_left
                    · (intro w hSw; (try dsimp only at hSw); go_simp; try with_reducible rfl)
                    try simp only [Act.put, List.setIfInBounds_toArray, List.set_cons_zero, List.set_cons_succ]
                    refine wpAnyH_done (by kernel_rfl) ?_ _
                    have gz := (Gr.refl w9).drew.trans hgb
                    clear hgb
                    obtain ⟨hm8, S8, CX8⟩ := HY.out
                    have Z8 := gz.kept X8
                    have Hz := hide (And.intro (hm8.then (gz.mod [])) (S8.gr gz))
                    clear hm8 S8 CX8 gz X0 X1 X7 X8 U0 U1 U2 U3 U4 U5 U6 U7 U8 HY hHeld
                    by_cases hk2 : k2 = 0
                    · subst hk2
                      have hln : L.length ≠ 1 := HL2.out.elim (fun h => absurd rfl h) id
                      have hb1 : ((L.length : Int) == 1) = false := by rw [beq_eq_false_iff_ne]; omega
                      have hb3 : (L.length == 1) = false := by rw [beq_eq_false_iff_ne]; omega
                      clear hln
                      go_wp2_with fail
                      refine (list_rd Hz.out.2.hd).mono ?_
                      rintro en w11 ⟨q11, c11, f11, rfl, -, -, hm11⟩
                      have HE := hide (Hz.out.1.then hm11)
                      clear hm11 Z8
                      go_wp2_with fail
                      go_roundw
                      case rel => exact ⟨j + 1, by omega, by go_num, HE.out⟩
                      case measure => simp [intOf]; omega
                    · have hb2 : (k2 == 0) = false := by simpa using hk2
                      clear hk2
                      go_wp2_with fail
                      go_roundw
                      case rel => exact ⟨j + 1, by omega, by go_num, Hz.out.1⟩
                      case measure => simp [intOf]; omega
                  · subst hff
                    have hbi : (i1 == xi) = false := by rw [beq_eq_false_iff_ne]; exact hii
                    clear hii
                    refine wp_region_held_drew (S := (fun w' => w'.cell? ⟨xb, 0, none⟩ = some (.int .i64 f1) ∧ w'.cell? ⟨xb, 1, none⟩ = some (.int .i64 xi) ∧ w'.cell? ⟨xb, 7, none⟩ = some (.int .i64 xe) ∧ w'.cell? ⟨xb, 8, none⟩ = some (.bool true) ∧ w'.cell? ⟨ub, 0, none⟩ = some (.int .i64 f1) ∧ w'.cell? ⟨ub, 1, none⟩ = some (.int .i64 i1) ∧ w'.cell? ⟨ub, 2, none⟩ = some (.string p1) ∧ w'.cell? ⟨ub, 3, none⟩ = some (.int .i64 m1) ∧ w'.cell? ⟨ub, 4, none⟩ = some (.slice q1 a1.length d1) ∧ w'.cell? ⟨ub, 5, none⟩ = some (.int .i64 t1) ∧ w'.cell? ⟨ub, 6, none⟩ = some (.int .i64 s1) ∧ w'.cell? ⟨ub, 7, none⟩ = some (.int .i64 e1) ∧ w'.cell? ⟨ub, 8, none⟩ = some (.bool r1))) (by kernel_rfl) ?_ (fun hHeld => ?_)
                    · go_keep
                    refine wpAnyH_take (i := 0) (oi := { dst := some 72, op := Op.move (Operand.tmp 12), type := 23, pos := "law.go:183", after := #[], guard := none }) (v := ?_) rfl (by kernel_rfl) (by kernel_rfl) (by kernel_rfl) (fun _ _ _ h => h) (Or.inl ⟨by rfl, ?_⟩) (by assumption) ?_
                    rotate_left
                    · (intro w hSw; (try dsimp only at hSw); go_simp; try with_reducible rfl)
                    try simp only [Act.put, List.setIfInBounds_toArray, List.set_cons_zero, List.set_cons_succ]
                    refine wpAnyH_take (i := 1) (oi := { dst := some 73, op := Op.binOp BinOp.eql 23 (Operand.tmp 72) (Operand.const (Value.int IntKind.i64 0)) 23, type := 4, pos := "law.go:183", after := #[{ on := 0, ground := Ground.data }], guard := none }) (v := ?_) rfl (by kernel_rfl) (by kernel_rfl) (by kernel_rfl) (fun _ _ _ h => h) (Or.inl ⟨by rfl, ?_⟩) (by assumption) ?_
                    rotate_left
                    · (intro w hSw; (try dsimp only at hSw); go_simp; try with_reducible rfl)
                    try simp only [Act.put, List.setIfInBounds_toArray, List.set_cons_zero, List.set_cons_succ]
                    refine wpAnyH_take (i := 2) (oi := { dst := some 74, op := Op.move (Operand.tmp 73), type := 4, pos := "law.go:183", after := #[{ on := 1, ground := Ground.data }], guard := none }) (v := ?_) rfl (by kernel_rfl) (by kernel_rfl) (by kernel_rfl) (fun _ _ _ h => h) (Or.inl ⟨by rfl, ?_⟩) (by assumption) ?_
                    rotate_left
                    · (intro w hSw; (try dsimp only at hSw); go_simp; try with_reducible rfl)
                    try simp only [Act.put, List.setIfInBounds_toArray, List.set_cons_zero, List.set_cons_succ]
                    refine wpAnyH_take (i := 3) (oi := { dst := some 75, op := Op.move (Operand.tmp 0), type := 3, pos := "law.go:183", after := #[{ on := 2, ground := Ground.guard }], guard := some (2, true) }) (v := ?_) rfl (by kernel_rfl) (by kernel_rfl) (by kernel_rfl) (fun _ _ _ h => h) (Or.inl ⟨by rfl, ?_⟩) (by assumption) ?_
                    rotate_left
                    · (intro w hSw; (try dsimp only at hSw); go_simp; try with_reducible rfl)
                    try simp only [Act.put, List.setIfInBounds_toArray, List.set_cons_zero, List.set_cons_succ]
                    refine wpAnyH_take (i := 4) (oi := { dst := some 76, op := Op.move (Operand.tmp 1), type := 35, pos := "law.go:183", after := #[{ on := 2, ground := Ground.guard }], guard := some (2, true) }) (v := ?_) rfl (by kernel_rfl) (by kernel_rfl) (by kernel_rfl) (fun _ _ _ h => h) (Or.inl ⟨by rfl, ?_⟩) (by assumption) ?_
                    rotate_left
                    · (intro w hSw; (try dsimp only at hSw); go_simp; try with_reducible rfl)
                    try simp only [Act.put, List.setIfInBounds_toArray, List.set_cons_zero, List.set_cons_succ]
                    refine wpAnyH_take (i := 5) (oi := { dst := some 77, op := Op.move (Operand.tmp 7), type := 3, pos := "law.go:183", after := #[{ on := 2, ground := Ground.guard }], guard := some (2, true) }) (v := ?_) rfl (by kernel_rfl) (by kernel_rfl) (by kernel_rfl) (fun _ _ _ h => h) (Or.inl ⟨by rfl, ?_⟩) (by assumption) ?_
                    rotate_left
                    · (intro w hSw; (try dsimp only at hSw); go_simp; try with_reducible rfl)
                    try simp only [Act.put, List.setIfInBounds_toArray, List.set_cons_zero, List.set_cons_succ]
                    refine wpAnyH_take (i := 6) (oi := { dst := some 78, op := Op.binOp BinOp.add 3 (Operand.tmp 77) (Operand.const (Value.int IntKind.i64 1)) 3, type := 3, pos := "law.go:183", after := #[{ on := 5, ground := Ground.data }, { on := 2, ground := Ground.guard }], guard := some (2, true) }) (v := ?_) rfl (by kernel_rfl) (by kernel_rfl) (by kernel_rfl) (fun _ _ _ h => h) (Or.inl ⟨by rfl, ?_⟩) (by assumption) ?_
                    rotate_left
                    · (intro w hSw; (try dsimp only at hSw); go_simp; try with_reducible rfl)
                    try simp only [Act.put, List.setIfInBounds_toArray, List.set_cons_zero, List.set_cons_succ]
                    refine wpAnyH_take (i := 7) (oi := { dst := some 79, op := Op.slice 35 (Operand.tmp 76) none (some (Operand.tmp 78)) none, type := 35, pos := "law.go:183", after := #[{ on := 4, ground := Ground.data }, { on := 6, ground := Ground.data }, { on := 2, ground := Ground.guard }], guard := some (2, true) }) (v := ?_) rfl (by kernel_rfl) (by kernel_rfl) (by kernel_rfl) (fun _ _ _ h => h) (Or.inl ⟨by rfl, ?_⟩) (by assumption) ?_
                    rotate_left
                    · (intro w hSw; (try dsimp only at hSw); go_simp; try with_reducible rfl)
                    try simp only [Act.put, List.setIfInBounds_toArray, List.set_cons_zero, List.set_cons_succ]
                    refine wpAnyH_take (i := 8) (oi := { dst := some 80, op := Op.load 30 (Operand.tmp 11), type := 30, pos := "law.go:183", after := #[{ on := 2, ground := Ground.guard }], guard := some (2, true) }) (v := ?_) rfl (by kernel_rfl) (by kernel_rfl) (by kernel_rfl) (fun _ _ _ h => h) (Or.inl ⟨by rfl, ?_⟩) (by assumption) ?_
                    rotate_left
                    · (intro w hSw; (try dsimp only at hSw); go_simp; try with_reducible rfl)
                    try simp only [Act.put, List.setIfInBounds_toArray, List.set_cons_zero, List.set_cons_succ]
                    refine wpAnyH_take (i := 9) (oi := { dst := some 81, op := Op.fieldAddr 30 (Operand.tmp 10) 7, type := 0, pos := "law.go:183", after := #[{ on := 2, ground := Ground.guard }], guard := some (2, true) }) (v := ?_) rfl (by kernel_rfl) (by kernel_rfl) (by kernel_rfl) (fun _ _ _ h => h) (Or.inl ⟨by rfl, ?_⟩) (by assumption) ?_
                    rotate_left
                    · (intro w hSw; (try dsimp only at hSw); go_simp; try with_reducible rfl)
                    try simp only [Act.put, List.setIfInBounds_toArray, List.set_cons_zero, List.set_cons_succ]
                    refine wpAnyH_take (i := 10) (oi := { dst := some 82, op := Op.load 3 (Operand.tmp 81), type := 3, pos := "law.go:183", after := #[{ on := 9, ground := Ground.data }, { on := 2, ground := Ground.guard }], guard := some (2, true) }) (v := ?_) rfl (by kernel_rfl) (by kernel_rfl) (by kernel_rfl) (fun _ _ _ h => h) (Or.inl ⟨by rfl, ?_⟩) (by assumption) ?_
                    rotate_left
                    · (intro w hSw; (try dsimp only at hSw); go_simp; try with_reducible rfl)
                    try simp only [Act.put, List.setIfInBounds_toArray, List.set_cons_zero, List.set_cons_succ]
                    refine wpAnyH_take (i := 11) (oi := { dst := some 83, op := Op.binOp BinOp.sub 3 (Operand.tmp 82) (Operand.const (Value.int IntKind.i64 1)) 3, type := 3, pos := "law.go:183", after := #[{ on := 10, ground := Ground.data }, { on := 2, ground := Ground.guard }], guard := some (2, true) }) (v := ?_) rfl (by kernel_rfl) (by kernel_rfl) (by kernel_rfl) (fun _ _ _ h => h) (Or.inl ⟨by rfl, ?_⟩) (by assumption) ?_
                    rotate_left
                    · (intro w hSw; (try dsimp only at hSw); go_simp; try with_reducible rfl)
                    try simp only [Act.put, List.setIfInBounds_toArray, List.set_cons_zero, List.set_cons_succ]
                    refine wpAnyH_ready (rs := [12]) (by kernel_rfl) (by simp) ?_
                    refine AllReadyH.cons (o := { dst := some 84, op := Op.call { callee := Callee.value (Operand.func 19), args := #[Operand.tmp 75, Operand.tmp 79, Operand.tmp 80, Operand.tmp 83], argTypes := #[3, 35, 30, 3] }, type := 4, pos := "law.go:183", after := #[{ on := 3, ground := Ground.data }, { on := 7, ground := Ground.data }, { on := 8, ground := Ground.data }, { on := 11, ground := Ground.data }, { on := 2, ground := Ground.chain }, { on := 2, ground := Ground.guard }], guard := some (2, true) }) rfl (fun K hK => ?_) AllReadyH.nil
                    go_simp
                    (refine (backed_take ((HR1.out.same HY.out.2.1.mod).same (((Gr.refl _).drew).mod [])) (k := k + 1) (by omega) _ rho _ _ _ _ _ _ _ _ a1 _ _ HBU.out.1 HBU.out.2).mono ?_; rintro e wb ⟨rfl, hgb⟩)
                    refine hK.out _ _ ?_ (fun hHeld => ?_)
                    · (go_split_ands; refine ⟨?_, ?_, ?_, ?_, ?_, ?_, ?_, ?_, ?_, ?_, ?_, ?_, ?_⟩ <;> (refine hgb.kept ?_; assumption))
                    clear hK K
                    try simp only [Act.put, List.setIfInBounds_toArray, List.set_cons_zero, List.set_cons_succ]
                    refine wpAnyH_take (i := 13) (oi := { dst := some 85, op := Op.unOp UnOp.not 4 (Operand.tmp 84), type := 4, pos := "law.go:183", after := #[{ on := 12, ground := Ground.data }, { on := 2, ground := Ground.guard }], guard := some (2, true) }) (v := ?_) rfl (by kernel_rfl) (by kernel_rfl) (by kernel_rfl) (fun _ _ _ h => h) (Or.inl ⟨by rfl, ?_⟩) (by assumption) ?_
                    rotate_left
                    · (intro w hSw; (try dsimp only at hSw); go_simp; try with_reducible rfl)
                    try simp only [Act.put, List.setIfInBounds_toArray, List.set_cons_zero, List.set_cons_succ]
                    refine wpAnyH_take (i := 14) (oi := { dst := some 86, op := Op.pick (Operand.tmp 74) (Operand.tmp 85) (Operand.const (Value.bool false)), type := 4, pos := "law.go:183", after := #[{ on := 2, ground := Ground.data }, { on := 13, ground := Ground.data }], guard := none }) (v := ?_) rfl (by kernel_rfl) (by kernel_rfl) (by kernel_rfl) (fun _ _ _ h => h) (Or.inl ⟨by rfl, ?_⟩) (by assumption) ?_
                    rotate_left
                    · (intro w hSw; (try dsimp only at hSw); go_simp; try with_reducible rfl)
                    try simp only [Act.put, List.setIfInBounds_toArray, List.set_cons_zero, List.set_cons_succ]
                    refine wpAnyH_take (i := 15) (oi := { dst := some 87, op := Op.move (Operand.tmp 86), type := 4, pos := "law.go:183", after := #[{ on := 14, ground := Ground.data }, { on := 12, ground := Ground.chain }], guard := none }) (v := ?_) rfl (by kernel_rfl) (by kernel_rfl) (by kernel_rfl) (fun _ _ _ h => h) (Or.inl ⟨by rfl, ?_⟩) (by assumption) ?_
                    rotate_left
                    · (intro w hSw; (try dsimp only at hSw); go_simp; try with_reducible rfl)
                    try simp only [Act.put, List.setIfInBounds_toArray, List.set_cons_zero, List.set_cons_succ]
                    refine wpAnyH_take (i := 16) (oi := { dst := some 88, op := Op.fieldAddr 30 (Operand.tmp 10) 8, type := 0, pos := "law.go:183", after := #[{ on := 15, ground := Ground.guard }], guard := some (15, false) }) (v := ?_) rfl (by kernel_rfl) (by kernel_rfl) (by kernel_rfl) (fun _ _ _ h => h) (Or.inl ⟨by rfl, ?_⟩) (by assumption) ?_
                    rotate_left
                    · (intro w hSw; (try dsimp only at hSw); go_simp; try with_reducible rfl)
                    try simp only [Act.put, List.setIfInBounds_toArray, List.set_cons_zero, List.set_cons_succ]
                    refine wpAnyH_take (i := 17) (oi := { dst := some 89, op := Op.load 4 (Operand.tmp 88), type := 4, pos := "law.go:183", after := #[{ on := 16, ground := Ground.data }, { on := 15, ground := Ground.guard }], guard := some (15, false) }) (v := ?_) rfl (by kernel_rfl) (by kernel_rfl) (by kernel_rfl) (fun _ _ _ h => h) (Or.inl ⟨by rfl, ?_⟩) (by assumption) ?_
                    rotate_left
                    · (intro w hSw; (try dsimp only at hSw); go_simp; try with_reducible rfl)
                    try simp only [Act.put, List.setIfInBounds_toArray, List.set_cons_zero, List.set_cons_succ]
                    refine wpAnyH_take (i := 18) (oi := { dst := some 90, op := Op.move (Operand.tmp 89), type := 4, pos := "law.go:183", after := #[{ on := 17, ground := Ground.data }, { on := 15, ground := Ground.chain }, { on := 15, ground := Ground.guard }], guard := some (15, false) }) (v := ?_) rfl (by kernel_rfl) (by kernel_rfl) (by kernel_rfl) (fun _ _ _ h => h) (Or.inl ⟨by rfl, ?_⟩) (by assumption) ?_
                    rotate_left
                    · (intro w hSw; (try dsimp only at hSw); go_simp; try with_reducible rfl)
                    try simp only [Act.put, List.setIfInBounds_toArray, List.set_cons_zero, List.set_cons_succ]
                    refine wpAnyH_take (i := 19) (oi := { dst := some 91, op := Op.move (Operand.tmp 12), type := 23, pos := "law.go:183", after := #[{ on := 18, ground := Ground.guard }], guard := some (18, true) }) (v := ?_) rfl (by kernel_rfl) (by kernel_rfl) (by kernel_rfl) (fun _ _ _ h => h) (Or.inl ⟨by rfl, ?_⟩) (by assumption) ?_
                    rotate_left
                    · (intro w hSw; (try dsimp only at hSw); go_simp; try with_reducible rfl)
                    try simp only [Act.put, List.setIfInBounds_toArray, List.set_cons_zero, List.set_cons_succ]
                    refine wpAnyH_take (i := 20) (oi := { dst := some 92, op := Op.binOp BinOp.eql 23 (Operand.tmp 91) (Operand.const (Value.int IntKind.i64 0)) 23, type := 4, pos := "law.go:183", after := #[{ on := 19, ground := Ground.data }, { on := 18, ground := Ground.guard }], guard := some (18, true) }) (v := ?_) rfl (by kernel_rfl) (by kernel_rfl) (by kernel_rfl) (fun _ _ _ h => h) (Or.inl ⟨by rfl, ?_⟩) (by assumption) ?_
                    rotate_left
                    · (intro w hSw; (try dsimp only at hSw); go_simp; try with_reducible rfl)
                    try simp only [Act.put, List.setIfInBounds_toArray, List.set_cons_zero, List.set_cons_succ]
                    refine wpAnyH_take (i := 21) (oi := { dst := some 93, op := Op.pick (Operand.tmp 90) (Operand.tmp 92) (Operand.const (Value.bool false)), type := 4, pos := "law.go:183", after := #[{ on := 18, ground := Ground.data }, { on := 20, ground := Ground.data }, { on := 15, ground := Ground.guard }], guard := some (15, false) }) (v := ?_) rfl (by kernel_rfl) (by kernel_rfl) (by kernel_rfl) (fun _ _ _ h => h) (Or.inl ⟨by rfl, ?_⟩) (by assumption) ?_
                    rotate_left
                    · (intro w hSw; (try dsimp only at hSw); go_simp; try with_reducible rfl)
                    try simp only [Act.put, List.setIfInBounds_toArray, List.set_cons_zero, List.set_cons_succ]
                    refine wpAnyH_take (i := 22) (oi := { dst := some 94, op := Op.move (Operand.tmp 93), type := 4, pos := "law.go:183", after := #[{ on := 21, ground := Ground.data }, { on := 18, ground := Ground.chain }, { on := 15, ground := Ground.guard }], guard := some (15, false) }) (v := ?_) rfl (by kernel_rfl) (by kernel_rfl) (by kernel_rfl) (fun _ _ _ h => h) (Or.inl ⟨by rfl, ?_⟩) (by assumption) ?_
                    rotate_left
                    · (intro w hSw; (try dsimp only at hSw); go_simp; try with_reducible rfl)
                    try simp only [Act.put, List.setIfInBounds_toArray, List.set_cons_zero, List.set_cons_succ]
                    refine wpAnyH_take (i := 23) (oi := { dst := some 95, op := Op.fieldAddr 30 (Operand.tmp 11) 0, type := 0, pos := "law.go:183", after := #[{ on := 22, ground := Ground.guard }], guard := some (22, true) }) (v := ?_) rfl (by kernel_rfl) (by kernel_rfl) (by kernel_rfl) (fun _ _ _ h => h) (Or.inl ⟨by rfl, ?_⟩) (by assumption) ?_
                    rotate_left
                    · (intro w hSw; (try dsimp only at hSw); go_simp; try with_reducible rfl)
                    try simp only [Act.put, List.setIfInBounds_toArray, List.set_cons_zero, List.set_cons_succ]
                    refine wpAnyH_take (i := 24) (oi := { dst := some 96, op := Op.load 3 (Operand.tmp 95), type := 3, pos := "law.go:183", after := #[{ on := 23, ground := Ground.data }, { on := 22, ground := Ground.guard }], guard := some (22, true) }) (v := ?_) rfl (by kernel_rfl) (by kernel_rfl) (by kernel_rfl) (fun _ _ _ h => h) (Or.inl ⟨by rfl, ?_⟩) (by assumption) ?_
                    rotate_left
                    · (intro w hSw; (try dsimp only at hSw); go_simp; try with_reducible rfl)
                    try simp only [Act.put, List.setIfInBounds_toArray, List.set_cons_zero, List.set_cons_succ]
                    refine wpAnyH_take (i := 25) (oi := { dst := some 97, op := Op.fieldAddr 30 (Operand.tmp 10) 0, type := 0, pos := "law.go:183", after := #[{ on := 22, ground := Ground.guard }], guard := some (22, true) }) (v := ?_) rfl (by kernel_rfl) (by kernel_rfl) (by kernel_rfl) (fun _ _ _ h => h) (Or.inl ⟨by rfl, ?_⟩) (by assumption) ?_
                    rotate_left
                    · (intro w hSw; (try dsimp only at hSw); go_simp; try with_reducible rfl)
                    try simp only [Act.put, List.setIfInBounds_toArray, List.set_cons_zero, List.set_cons_succ]
                    refine wpAnyH_take (i := 26) (oi := { dst := some 98, op := Op.load 3 (Operand.tmp 97), type := 3, pos := "law.go:183", after := #[{ on := 25, ground := Ground.data }, { on := 22, ground := Ground.guard }], guard := some (22, true) }) (v := ?_) rfl (by kernel_rfl) (by kernel_rfl) (by kernel_rfl) (fun _ _ _ h => h) (Or.inl ⟨by rfl, ?_⟩) (by assumption) ?_
                    rotate_left
                    · (intro w hSw; (try dsimp only at hSw); go_simp; try with_reducible rfl)
                    try simp only [Act.put, List.setIfInBounds_toArray, List.set_cons_zero, List.set_cons_succ]
                    refine wpAnyH_take (i := 27) (oi := { dst := some 99, op := Op.binOp BinOp.eql 3 (Operand.tmp 96) (Operand.tmp 98) 3, type := 4, pos := "law.go:183", after := #[{ on := 24, ground := Ground.data }, { on := 26, ground := Ground.data }, { on := 22, ground := Ground.guard }], guard := some (22, true) }) (v := ?_) rfl (by kernel_rfl) (by kernel_rfl) (by kernel_rfl) (fun _ _ _ h => h) (Or.inl ⟨by rfl, ?_⟩) (by assumption) ?_
                    rotate_left
                    · (intro w hSw; (try dsimp only at hSw); go_simp; try with_reducible rfl)
                    try simp only [Act.put, List.setIfInBounds_toArray, List.set_cons_zero, List.set_cons_succ]
                    refine wpAnyH_take (i := 28) (oi := { dst := some 100, op := Op.pick (Operand.tmp 94) (Operand.tmp 99) (Operand.const (Value.bool false)), type := 4, pos := "law.go:183", after := #[{ on := 22, ground := Ground.data }, { on := 27, ground := Ground.data }, { on := 15, ground := Ground.guard }], guard := some (15, false) }) (v := ?_) rfl (by kernel_rfl) (by kernel_rfl) (by kernel_rfl) (fun _ _ _ h => h) (Or.inl ⟨by rfl, ?_⟩) (by assumption) ?_
                    rotate_left
                    · (intro w hSw; (try dsimp only at hSw); go_simp; try with_reducible rfl)
                    try simp only [Act.put, List.setIfInBounds_toArray, List.set_cons_zero, List.set_cons_succ]
                    refine wpAnyH_take (i := 29) (oi := { dst := some 101, op := Op.move (Operand.tmp 100), type := 4, pos := "law.go:183", after := #[{ on := 28, ground := Ground.data }, { on := 22, ground := Ground.chain }, { on := 15, ground := Ground.guard }], guard := some (15, false) }) (v := ?_) rfl (by kernel_rfl) (by kernel_rfl) (by kernel_rfl) (fun _ _ _ h => h) (Or.inl ⟨by rfl, ?_⟩) (by assumption) ?_
                    rotate_left
                    · (intro w hSw; (try dsimp only at hSw); go_simp; try with_reducible rfl)
                    try simp only [Act.put, List.setIfInBounds_toArray, List.set_cons_zero, List.set_cons_succ]
                    refine wpAnyH_take (i := 30) (oi := { dst := some 102, op := Op.fieldAddr 30 (Operand.tmp 11) 1, type := 0, pos := "law.go:183", after := #[{ on := 29, ground := Ground.guard }], guard := some (29, true) }) (v := ?_) rfl (by kernel_rfl) (by kernel_rfl) (by kernel_rfl) (fun _ _ _ h => h) (Or.inl ⟨by rfl, ?_⟩) (by assumption) ?_
                    rotate_left
                    · (intro w hSw; (try dsimp only at hSw); go_simp; try with_reducible rfl)
                    try simp only [Act.put, List.setIfInBounds_toArray, List.set_cons_zero, List.set_cons_succ]
                    refine wpAnyH_take (i := 31) (oi := { dst := some 103, op := Op.load 3 (Operand.tmp 102), type := 3, pos := "law.go:183", after := #[{ on := 30, ground := Ground.data }, { on := 29, ground := Ground.guard }], guard := some (29, true) }) (v := ?_) rfl (by kernel_rfl) (by kernel_rfl) (by kernel_rfl) (fun _ _ _ h => h) (Or.inl ⟨by rfl, ?_⟩) (by assumption) ?_
                    rotate_left
                    · (intro w hSw; (try dsimp only at hSw); go_simp; try with_reducible rfl)
                    try simp only [Act.put, List.setIfInBounds_toArray, List.set_cons_zero, List.set_cons_succ]
                    refine wpAnyH_take (i := 32) (oi := { dst := some 104, op := Op.fieldAddr 30 (Operand.tmp 10) 1, type := 0, pos := "law.go:183", after := #[{ on := 29, ground := Ground.guard }], guard := some (29, true) }) (v := ?_) rfl (by kernel_rfl) (by kernel_rfl) (by kernel_rfl) (fun _ _ _ h => h) (Or.inl ⟨by rfl, ?_⟩) (by assumption) ?_
                    rotate_left
                    · (intro w hSw; (try dsimp only at hSw); go_simp; try with_reducible rfl)
                    try simp only [Act.put, List.setIfInBounds_toArray, List.set_cons_zero, List.set_cons_succ]
                    refine wpAnyH_take (i := 33) (oi := { dst := some 105, op := Op.load 3 (Operand.tmp 104), type := 3, pos := "law.go:183", after := #[{ on := 32, ground := Ground.data }, { on := 29, ground := Ground.guard }], guard := some (29, true) }) (v := ?_) rfl (by kernel_rfl) (by kernel_rfl) (by kernel_rfl) (fun _ _ _ h => h) (Or.inl ⟨by rfl, ?_⟩) (by assumption) ?_
                    rotate_left
                    · (intro w hSw; (try dsimp only at hSw); go_simp; try with_reducible rfl)
                    try simp only [Act.put, List.setIfInBounds_toArray, List.set_cons_zero, List.set_cons_succ]
                    refine wpAnyH_take (i := 34) (oi := { dst := some 106, op := Op.binOp BinOp.eql 3 (Operand.tmp 103) (Operand.tmp 105) 3, type := 4, pos := "law.go:183", after := #[{ on := 31, ground := Ground.data }, { on := 33, ground := Ground.data }, { on := 29, ground := Ground.guard }], guard := some (29, true) }) (v := ?_) rfl (by kernel_rfl) (by kernel_rfl) (by kernel_rfl) (fun _ _ _ h => h) (Or.inl ⟨by rfl, ?_⟩) (by assumption) ?_
                    rotate_left
                    · (intro w hSw; (try dsimp only at hSw); go_simp; try with_reducible rfl)
                    try simp only [Act.put, List.setIfInBounds_toArray, List.set_cons_zero, List.set_cons_succ]
                    refine wpAnyH_take (i := 35) (oi := { dst := some 107, op := Op.pick (Operand.tmp 101) (Operand.tmp 106) (Operand.const (Value.bool false)), type := 4, pos := "law.go:183", after := #[{ on := 29, ground := Ground.data }, { on := 34, ground := Ground.data }, { on := 15, ground := Ground.guard }], guard := some (15, false) }) (v := ?_) rfl (by kernel_rfl) (by kernel_rfl) (by kernel_rfl) (fun _ _ _ h => h) (Or.inl ⟨by rfl, ?_⟩) (by assumption) ?_
                    rotate_left
                    · (intro w hSw; (try dsimp only at hSw); go_simp; try with_reducible rfl)
                    try simp only [Act.put, List.setIfInBounds_toArray, List.set_cons_zero, List.set_cons_succ]
                    refine wpAnyH_take (i := 36) (oi := { dst := some 108, op := Op.pick (Operand.tmp 87) (Operand.const (Value.bool true)) (Operand.tmp 107), type := 4, pos := "law.go:183", after := #[{ on := 15, ground := Ground.data }, { on := 35, ground := Ground.data }], guard := none }) (v := ?_) rfl (by kernel_rfl) (by kernel_rfl) (by kernel_rfl) (fun _ _ _ h => h) (Or.inl ⟨by rfl, ?_⟩) (by assumption) ?_
                    rotate_left
                    · (intro w hSw; (try dsimp only at hSw); go_simp; try with_reducible rfl)
                    try simp only [Act.put, List.setIfInBounds_toArray, List.set_cons_zero, List.set_cons_succ]
                    refine wpAnyH_done (by kernel_rfl) ?_ _
                    have gz := (Gr.refl w9).drew.trans hgb
                    clear hgb
                    obtain ⟨hm8, S8, CX8⟩ := HY.out
                    have Z8 := gz.kept X8
                    have Hz := hide (And.intro (hm8.then (gz.mod [])) (S8.gr gz))
                    clear hm8 S8 CX8 gz X0 X1 X7 X8 U0 U1 U2 U3 U4 U5 U6 U7 U8 HY hHeld
                    by_cases hk2 : k2 = 0
                    · subst hk2
                      have hln : L.length ≠ 1 := HL2.out.elim (fun h => absurd rfl h) id
                      have hb1 : ((L.length : Int) == 1) = false := by rw [beq_eq_false_iff_ne]; omega
                      have hb3 : (L.length == 1) = false := by rw [beq_eq_false_iff_ne]; omega
                      clear hln
                      go_wp2_with fail
                      refine (list_rd Hz.out.2.hd).mono ?_
                      rintro en w11 ⟨q11, c11, f11, rfl, -, -, hm11⟩
                      have HE := hide (Hz.out.1.then hm11)
                      clear hm11 Z8
                      go_wp2_with fail
                      go_roundw
                      case rel => exact ⟨j + 1, by omega, by go_num, HE.out⟩
                      case measure => simp [intOf]; omega
                    · have hb2 : (k2 == 0) = false := by simpa using hk2
                      clear hk2
                      go_wp2_with fail
                      go_roundw
                      case rel => exact ⟨j + 1, by omega, by go_num, Hz.out.1⟩
                      case measure => simp [intOf]; omega
              · have hxr' : xr = true := hxr
                clear hxr
                subst hxr'
                have hbk : (k1 == 0) = false := by simpa using hk1
                have hbk' : (k1 != 0) = true := by simpa using hk1
                clear hk1
                refine wp_region_held_drew (S := (fun w' => w'.cell? ⟨xb, 0, none⟩ = some (.int .i64 xf) ∧ w'.cell? ⟨xb, 1, none⟩ = some (.int .i64 xi) ∧ w'.cell? ⟨xb, 7, none⟩ = some (.int .i64 xe) ∧ w'.cell? ⟨xb, 8, none⟩ = some (.bool true) ∧ w'.cell? ⟨ub, 0, none⟩ = some (.int .i64 f1) ∧ w'.cell? ⟨ub, 1, none⟩ = some (.int .i64 i1) ∧ w'.cell? ⟨ub, 2, none⟩ = some (.string p1) ∧ w'.cell? ⟨ub, 3, none⟩ = some (.int .i64 m1) ∧ w'.cell? ⟨ub, 4, none⟩ = some (.slice q1 a1.length d1) ∧ w'.cell? ⟨ub, 5, none⟩ = some (.int .i64 t1) ∧ w'.cell? ⟨ub, 6, none⟩ = some (.int .i64 s1) ∧ w'.cell? ⟨ub, 7, none⟩ = some (.int .i64 e1) ∧ w'.cell? ⟨ub, 8, none⟩ = some (.bool r1))) (by kernel_rfl) ?_ (fun hHeld => ?_)
                · go_keep
                refine wpAnyH_take (i := 0) (oi := { dst := some 72, op := Op.move (Operand.tmp 12), type := 23, pos := "law.go:183", after := #[], guard := none }) (v := ?_) rfl (by kernel_rfl) (by kernel_rfl) (by kernel_rfl) (fun _ _ _ h => h) (Or.inl ⟨by rfl, ?_⟩) (by assumption) ?_
                rotate_left
                · (intro w hSw; (try dsimp only at hSw); go_simp; try with_reducible rfl)
                try simp only [Act.put, List.setIfInBounds_toArray, List.set_cons_zero, List.set_cons_succ]
                refine wpAnyH_take (i := 1) (oi := { dst := some 73, op := Op.binOp BinOp.eql 23 (Operand.tmp 72) (Operand.const (Value.int IntKind.i64 0)) 23, type := 4, pos := "law.go:183", after := #[{ on := 0, ground := Ground.data }], guard := none }) (v := ?_) rfl (by kernel_rfl) (by kernel_rfl) (by kernel_rfl) (fun _ _ _ h => h) (Or.inl ⟨by rfl, ?_⟩) (by assumption) ?_
                rotate_left
                · (intro w hSw; (try dsimp only at hSw); go_simp; try with_reducible rfl)
                try simp only [Act.put, List.setIfInBounds_toArray, List.set_cons_zero, List.set_cons_succ]
                refine wpAnyH_take (i := 2) (oi := { dst := some 74, op := Op.move (Operand.tmp 73), type := 4, pos := "law.go:183", after := #[{ on := 1, ground := Ground.data }], guard := none }) (v := ?_) rfl (by kernel_rfl) (by kernel_rfl) (by kernel_rfl) (fun _ _ _ h => h) (Or.inl ⟨by rfl, ?_⟩) (by assumption) ?_
                rotate_left
                · (intro w hSw; (try dsimp only at hSw); go_simp; try with_reducible rfl)
                try simp only [Act.put, List.setIfInBounds_toArray, List.set_cons_zero, List.set_cons_succ]
                refine wpAnyH_take (i := 3) (oi := { dst := some 75, op := Op.move (Operand.tmp 0), type := 3, pos := "law.go:183", after := #[{ on := 2, ground := Ground.guard }], guard := some (2, true) }) rfl (by kernel_rfl) (by kernel_rfl) (by kernel_rfl) (fun _ _ _ h => h) (Or.inr ⟨by rfl, rfl⟩) (by assumption) ?_
                try simp only [Act.put, List.setIfInBounds_toArray, List.set_cons_zero, List.set_cons_succ]
                refine wpAnyH_take (i := 4) (oi := { dst := some 76, op := Op.move (Operand.tmp 1), type := 35, pos := "law.go:183", after := #[{ on := 2, ground := Ground.guard }], guard := some (2, true) }) rfl (by kernel_rfl) (by kernel_rfl) (by kernel_rfl) (fun _ _ _ h => h) (Or.inr ⟨by rfl, rfl⟩) (by assumption) ?_
                try simp only [Act.put, List.setIfInBounds_toArray, List.set_cons_zero, List.set_cons_succ]
                refine wpAnyH_take (i := 5) (oi := { dst := some 77, op := Op.move (Operand.tmp 7), type := 3, pos := "law.go:183", after := #[{ on := 2, ground := Ground.guard }], guard := some (2, true) }) rfl (by kernel_rfl) (by kernel_rfl) (by kernel_rfl) (fun _ _ _ h => h) (Or.inr ⟨by rfl, rfl⟩) (by assumption) ?_
                try simp only [Act.put, List.setIfInBounds_toArray, List.set_cons_zero, List.set_cons_succ]
                refine wpAnyH_take (i := 6) (oi := { dst := some 78, op := Op.binOp BinOp.add 3 (Operand.tmp 77) (Operand.const (Value.int IntKind.i64 1)) 3, type := 3, pos := "law.go:183", after := #[{ on := 5, ground := Ground.data }, { on := 2, ground := Ground.guard }], guard := some (2, true) }) rfl (by kernel_rfl) (by kernel_rfl) (by kernel_rfl) (fun _ _ _ h => h) (Or.inr ⟨by rfl, rfl⟩) (by assumption) ?_
                try simp only [Act.put, List.setIfInBounds_toArray, List.set_cons_zero, List.set_cons_succ]
                refine wpAnyH_take (i := 7) (oi := { dst := some 79, op := Op.slice 35 (Operand.tmp 76) none (some (Operand.tmp 78)) none, type := 35, pos := "law.go:183", after := #[{ on := 4, ground := Ground.data }, { on := 6, ground := Ground.data }, { on := 2, ground := Ground.guard }], guard := some (2, true) }) rfl (by kernel_rfl) (by kernel_rfl) (by kernel_rfl) (fun _ _ _ h => h) (Or.inr ⟨by rfl, rfl⟩) (by assumption) ?_
                try simp only [Act.put, List.setIfInBounds_toArray, List.set_cons_zero, List.set_cons_succ]
                refine wpAnyH_take (i := 8) (oi := { dst := some 80, op := Op.load 30 (Operand.tmp 11), type := 30, pos := "law.go:183", after := #[{ on := 2, ground := Ground.guard }], guard := some (2, true) }) rfl (by kernel_rfl) (by kernel_rfl) (by kernel_rfl) (fun _ _ _ h => h) (Or.inr ⟨by rfl, rfl⟩) (by assumption) ?_
                try simp only [Act.put, List.setIfInBounds_toArray, List.set_cons_zero, List.set_cons_succ]
                refine wpAnyH_take (i := 9) (oi := { dst := some 81, op := Op.fieldAddr 30 (Operand.tmp 10) 7, type := 0, pos := "law.go:183", after := #[{ on := 2, ground := Ground.guard }], guard := some (2, true) }) rfl (by kernel_rfl) (by kernel_rfl) (by kernel_rfl) (fun _ _ _ h => h) (Or.inr ⟨by rfl, rfl⟩) (by assumption) ?_
                try simp only [Act.put, List.setIfInBounds_toArray, List.set_cons_zero, List.set_cons_succ]
                refine wpAnyH_take (i := 10) (oi := { dst := some 82, op := Op.load 3 (Operand.tmp 81), type := 3, pos := "law.go:183", after := #[{ on := 9, ground := Ground.data }, { on := 2, ground := Ground.guard }], guard := some (2, true) }) rfl (by kernel_rfl) (by kernel_rfl) (by kernel_rfl) (fun _ _ _ h => h) (Or.inr ⟨by rfl, rfl⟩) (by assumption) ?_
                try simp only [Act.put, List.setIfInBounds_toArray, List.set_cons_zero, List.set_cons_succ]
                refine wpAnyH_take (i := 11) (oi := { dst := some 83, op := Op.binOp BinOp.sub 3 (Operand.tmp 82) (Operand.const (Value.int IntKind.i64 1)) 3, type := 3, pos := "law.go:183", after := #[{ on := 10, ground := Ground.data }, { on := 2, ground := Ground.guard }], guard := some (2, true) }) rfl (by kernel_rfl) (by kernel_rfl) (by kernel_rfl) (fun _ _ _ h => h) (Or.inr ⟨by rfl, rfl⟩) (by assumption) ?_
                try simp only [Act.put, List.setIfInBounds_toArray, List.set_cons_zero, List.set_cons_succ]
                refine wpAnyH_ready (rs := [12]) (by kernel_rfl) (by simp) ?_
                refine AllReadyH.cons (o := { dst := some 84, op := Op.call { callee := Callee.value (Operand.func 19), args := #[Operand.tmp 75, Operand.tmp 79, Operand.tmp 80, Operand.tmp 83], argTypes := #[3, 35, 30, 3] }, type := 4, pos := "law.go:183", after := #[{ on := 3, ground := Ground.data }, { on := 7, ground := Ground.data }, { on := 8, ground := Ground.data }, { on := 11, ground := Ground.data }, { on := 2, ground := Ground.chain }, { on := 2, ground := Ground.guard }], guard := some (2, true) }) rfl (fun K hK => ?_) AllReadyH.nil
                go_simp
                skip
                refine hK.out _ _ ?_ (fun hHeld => ?_)
                · exact hHeld
                clear hK K
                try simp only [Act.put, List.setIfInBounds_toArray, List.set_cons_zero, List.set_cons_succ]
                refine wpAnyH_take (i := 13) (oi := { dst := some 85, op := Op.unOp UnOp.not 4 (Operand.tmp 84), type := 4, pos := "law.go:183", after := #[{ on := 12, ground := Ground.data }, { on := 2, ground := Ground.guard }], guard := some (2, true) }) rfl (by kernel_rfl) (by kernel_rfl) (by kernel_rfl) (fun _ _ _ h => h) (Or.inr ⟨by rfl, rfl⟩) (by assumption) ?_
                try simp only [Act.put, List.setIfInBounds_toArray, List.set_cons_zero, List.set_cons_succ]
                refine wpAnyH_take (i := 14) (oi := { dst := some 86, op := Op.pick (Operand.tmp 74) (Operand.tmp 85) (Operand.const (Value.bool false)), type := 4, pos := "law.go:183", after := #[{ on := 2, ground := Ground.data }, { on := 13, ground := Ground.data }], guard := none }) (v := ?_) rfl (by kernel_rfl) (by kernel_rfl) (by kernel_rfl) (fun _ _ _ h => h) (Or.inl ⟨by rfl, ?_⟩) (by assumption) ?_
                rotate_left
                · (intro w hSw; (try dsimp only at hSw); go_simp; try with_reducible rfl)
                try simp only [Act.put, List.setIfInBounds_toArray, List.set_cons_zero, List.set_cons_succ]
                refine wpAnyH_take (i := 15) (oi := { dst := some 87, op := Op.move (Operand.tmp 86), type := 4, pos := "law.go:183", after := #[{ on := 14, ground := Ground.data }, { on := 12, ground := Ground.chain }], guard := none }) (v := ?_) rfl (by kernel_rfl) (by kernel_rfl) (by kernel_rfl) (fun _ _ _ h => h) (Or.inl ⟨by rfl, ?_⟩) (by assumption) ?_
                rotate_left
                · (intro w hSw; (try dsimp only at hSw); go_simp; try with_reducible rfl)
                try simp only [Act.put, List.setIfInBounds_toArray, List.set_cons_zero, List.set_cons_succ]
                refine wpAnyH_take (i := 16) (oi := { dst := some 88, op := Op.fieldAddr 30 (Operand.tmp 10) 8, type := 0, pos := "law.go:183", after := #[{ on := 15, ground := Ground.guard }], guard := some (15, false) }) (v := ?_) rfl (by kernel_rfl) (by kernel_rfl) (by kernel_rfl) (fun _ _ _ h => h) (Or.inl ⟨by rfl, ?_⟩) (by assumption) ?_
                rotate_left
                · (intro w hSw; (try dsimp only at hSw); go_simp; try with_reducible rfl)
                try simp only [Act.put, List.setIfInBounds_toArray, List.set_cons_zero, List.set_cons_succ]
                refine wpAnyH_take (i := 17) (oi := { dst := some 89, op := Op.load 4 (Operand.tmp 88), type := 4, pos := "law.go:183", after := #[{ on := 16, ground := Ground.data }, { on := 15, ground := Ground.guard }], guard := some (15, false) }) (v := ?_) rfl (by kernel_rfl) (by kernel_rfl) (by kernel_rfl) (fun _ _ _ h => h) (Or.inl ⟨by rfl, ?_⟩) (by assumption) ?_
                rotate_left
                · (intro w hSw; (try dsimp only at hSw); go_simp; try with_reducible rfl)
                try simp only [Act.put, List.setIfInBounds_toArray, List.set_cons_zero, List.set_cons_succ]
                refine wpAnyH_take (i := 18) (oi := { dst := some 90, op := Op.move (Operand.tmp 89), type := 4, pos := "law.go:183", after := #[{ on := 17, ground := Ground.data }, { on := 15, ground := Ground.chain }, { on := 15, ground := Ground.guard }], guard := some (15, false) }) (v := ?_) rfl (by kernel_rfl) (by kernel_rfl) (by kernel_rfl) (fun _ _ _ h => h) (Or.inl ⟨by rfl, ?_⟩) (by assumption) ?_
                rotate_left
                · (intro w hSw; (try dsimp only at hSw); go_simp; try with_reducible rfl)
                try simp only [Act.put, List.setIfInBounds_toArray, List.set_cons_zero, List.set_cons_succ]
                refine wpAnyH_take (i := 19) (oi := { dst := some 91, op := Op.move (Operand.tmp 12), type := 23, pos := "law.go:183", after := #[{ on := 18, ground := Ground.guard }], guard := some (18, true) }) (v := ?_) rfl (by kernel_rfl) (by kernel_rfl) (by kernel_rfl) (fun _ _ _ h => h) (Or.inl ⟨by rfl, ?_⟩) (by assumption) ?_
                rotate_left
                · (intro w hSw; (try dsimp only at hSw); go_simp; try with_reducible rfl)
                try simp only [Act.put, List.setIfInBounds_toArray, List.set_cons_zero, List.set_cons_succ]
                refine wpAnyH_take (i := 20) (oi := { dst := some 92, op := Op.binOp BinOp.eql 23 (Operand.tmp 91) (Operand.const (Value.int IntKind.i64 0)) 23, type := 4, pos := "law.go:183", after := #[{ on := 19, ground := Ground.data }, { on := 18, ground := Ground.guard }], guard := some (18, true) }) (v := ?_) rfl (by kernel_rfl) (by kernel_rfl) (by kernel_rfl) (fun _ _ _ h => h) (Or.inl ⟨by rfl, ?_⟩) (by assumption) ?_
                rotate_left
                · (intro w hSw; (try dsimp only at hSw); go_simp; try with_reducible rfl)
                try simp only [Act.put, List.setIfInBounds_toArray, List.set_cons_zero, List.set_cons_succ]
                refine wpAnyH_take (i := 21) (oi := { dst := some 93, op := Op.pick (Operand.tmp 90) (Operand.tmp 92) (Operand.const (Value.bool false)), type := 4, pos := "law.go:183", after := #[{ on := 18, ground := Ground.data }, { on := 20, ground := Ground.data }, { on := 15, ground := Ground.guard }], guard := some (15, false) }) (v := ?_) rfl (by kernel_rfl) (by kernel_rfl) (by kernel_rfl) (fun _ _ _ h => h) (Or.inl ⟨by rfl, ?_⟩) (by assumption) ?_
                rotate_left
                · (intro w hSw; (try dsimp only at hSw); go_simp; try with_reducible rfl)
                try simp only [Act.put, List.setIfInBounds_toArray, List.set_cons_zero, List.set_cons_succ]
                refine wpAnyH_take (i := 22) (oi := { dst := some 94, op := Op.move (Operand.tmp 93), type := 4, pos := "law.go:183", after := #[{ on := 21, ground := Ground.data }, { on := 18, ground := Ground.chain }, { on := 15, ground := Ground.guard }], guard := some (15, false) }) (v := ?_) rfl (by kernel_rfl) (by kernel_rfl) (by kernel_rfl) (fun _ _ _ h => h) (Or.inl ⟨by rfl, ?_⟩) (by assumption) ?_
                rotate_left
                · (intro w hSw; (try dsimp only at hSw); go_simp; try with_reducible rfl)
                try simp only [Act.put, List.setIfInBounds_toArray, List.set_cons_zero, List.set_cons_succ]
                refine wpAnyH_take (i := 23) (oi := { dst := some 95, op := Op.fieldAddr 30 (Operand.tmp 11) 0, type := 0, pos := "law.go:183", after := #[{ on := 22, ground := Ground.guard }], guard := some (22, true) }) rfl (by kernel_rfl) (by kernel_rfl) (by kernel_rfl) (fun _ _ _ h => h) (Or.inr ⟨by rfl, rfl⟩) (by assumption) ?_
                try simp only [Act.put, List.setIfInBounds_toArray, List.set_cons_zero, List.set_cons_succ]
                refine wpAnyH_take (i := 24) (oi := { dst := some 96, op := Op.load 3 (Operand.tmp 95), type := 3, pos := "law.go:183", after := #[{ on := 23, ground := Ground.data }, { on := 22, ground := Ground.guard }], guard := some (22, true) }) rfl (by kernel_rfl) (by kernel_rfl) (by kernel_rfl) (fun _ _ _ h => h) (Or.inr ⟨by rfl, rfl⟩) (by assumption) ?_
                try simp only [Act.put, List.setIfInBounds_toArray, List.set_cons_zero, List.set_cons_succ]
                refine wpAnyH_take (i := 25) (oi := { dst := some 97, op := Op.fieldAddr 30 (Operand.tmp 10) 0, type := 0, pos := "law.go:183", after := #[{ on := 22, ground := Ground.guard }], guard := some (22, true) }) rfl (by kernel_rfl) (by kernel_rfl) (by kernel_rfl) (fun _ _ _ h => h) (Or.inr ⟨by rfl, rfl⟩) (by assumption) ?_
                try simp only [Act.put, List.setIfInBounds_toArray, List.set_cons_zero, List.set_cons_succ]
                refine wpAnyH_take (i := 26) (oi := { dst := some 98, op := Op.load 3 (Operand.tmp 97), type := 3, pos := "law.go:183", after := #[{ on := 25, ground := Ground.data }, { on := 22, ground := Ground.guard }], guard := some (22, true) }) rfl (by kernel_rfl) (by kernel_rfl) (by kernel_rfl) (fun _ _ _ h => h) (Or.inr ⟨by rfl, rfl⟩) (by assumption) ?_
                try simp only [Act.put, List.setIfInBounds_toArray, List.set_cons_zero, List.set_cons_succ]
                refine wpAnyH_take (i := 27) (oi := { dst := some 99, op := Op.binOp BinOp.eql 3 (Operand.tmp 96) (Operand.tmp 98) 3, type := 4, pos := "law.go:183", after := #[{ on := 24, ground := Ground.data }, { on := 26, ground := Ground.data }, { on := 22, ground := Ground.guard }], guard := some (22, true) }) rfl (by kernel_rfl) (by kernel_rfl) (by kernel_rfl) (fun _ _ _ h => h) (Or.inr ⟨by rfl, rfl⟩) (by assumption) ?_
                try simp only [Act.put, List.setIfInBounds_toArray, List.set_cons_zero, List.set_cons_succ]
                refine wpAnyH_take (i := 28) (oi := { dst := some 100, op := Op.pick (Operand.tmp 94) (Operand.tmp 99) (Operand.const (Value.bool false)), type := 4, pos := "law.go:183", after := #[{ on := 22, ground := Ground.data }, { on := 27, ground := Ground.data }, { on := 15, ground := Ground.guard }], guard := some (15, false) }) (v := ?_) rfl (by kernel_rfl) (by kernel_rfl) (by kernel_rfl) (fun _ _ _ h => h) (Or.inl ⟨by rfl, ?_⟩) (by assumption) ?_
                rotate_left
                · (intro w hSw; (try dsimp only at hSw); go_simp; try with_reducible rfl)
                try simp only [Act.put, List.setIfInBounds_toArray, List.set_cons_zero, List.set_cons_succ]
                refine wpAnyH_take (i := 29) (oi := { dst := some 101, op := Op.move (Operand.tmp 100), type := 4, pos := "law.go:183", after := #[{ on := 28, ground := Ground.data }, { on := 22, ground := Ground.chain }, { on := 15, ground := Ground.guard }], guard := some (15, false) }) (v := ?_) rfl (by kernel_rfl) (by kernel_rfl) (by kernel_rfl) (fun _ _ _ h => h) (Or.inl ⟨by rfl, ?_⟩) (by assumption) ?_
                rotate_left
                · (intro w hSw; (try dsimp only at hSw); go_simp; try with_reducible rfl)
                try simp only [Act.put, List.setIfInBounds_toArray, List.set_cons_zero, List.set_cons_succ]
                refine wpAnyH_take (i := 30) (oi := { dst := some 102, op := Op.fieldAddr 30 (Operand.tmp 11) 1, type := 0, pos := "law.go:183", after := #[{ on := 29, ground := Ground.guard }], guard := some (29, true) }) rfl (by kernel_rfl) (by kernel_rfl) (by kernel_rfl) (fun _ _ _ h => h) (Or.inr ⟨by rfl, rfl⟩) (by assumption) ?_
                try simp only [Act.put, List.setIfInBounds_toArray, List.set_cons_zero, List.set_cons_succ]
                refine wpAnyH_take (i := 31) (oi := { dst := some 103, op := Op.load 3 (Operand.tmp 102), type := 3, pos := "law.go:183", after := #[{ on := 30, ground := Ground.data }, { on := 29, ground := Ground.guard }], guard := some (29, true) }) rfl (by kernel_rfl) (by kernel_rfl) (by kernel_rfl) (fun _ _ _ h => h) (Or.inr ⟨by rfl, rfl⟩) (by assumption) ?_
                try simp only [Act.put, List.setIfInBounds_toArray, List.set_cons_zero, List.set_cons_succ]
                refine wpAnyH_take (i := 32) (oi := { dst := some 104, op := Op.fieldAddr 30 (Operand.tmp 10) 1, type := 0, pos := "law.go:183", after := #[{ on := 29, ground := Ground.guard }], guard := some (29, true) }) rfl (by kernel_rfl) (by kernel_rfl) (by kernel_rfl) (fun _ _ _ h => h) (Or.inr ⟨by rfl, rfl⟩) (by assumption) ?_
                try simp only [Act.put, List.setIfInBounds_toArray, List.set_cons_zero, List.set_cons_succ]
                refine wpAnyH_take (i := 33) (oi := { dst := some 105, op := Op.load 3 (Operand.tmp 104), type := 3, pos := "law.go:183", after := #[{ on := 32, ground := Ground.data }, { on := 29, ground := Ground.guard }], guard := some (29, true) }) rfl (by kernel_rfl) (by kernel_rfl) (by kernel_rfl) (fun _ _ _ h => h) (Or.inr ⟨by rfl, rfl⟩) (by assumption) ?_
                try simp only [Act.put, List.setIfInBounds_toArray, List.set_cons_zero, List.set_cons_succ]
                refine wpAnyH_take (i := 34) (oi := { dst := some 106, op := Op.binOp BinOp.eql 3 (Operand.tmp 103) (Operand.tmp 105) 3, type := 4, pos := "law.go:183", after := #[{ on := 31, ground := Ground.data }, { on := 33, ground := Ground.data }, { on := 29, ground := Ground.guard }], guard := some (29, true) }) rfl (by kernel_rfl) (by kernel_rfl) (by kernel_rfl) (fun _ _ _ h => h) (Or.inr ⟨by rfl, rfl⟩) (by assumption) ?_
                try simp only [Act.put, List.setIfInBounds_toArray, List.set_cons_zero, List.set_cons_succ]
                refine wpAnyH_take (i := 35) (oi := { dst := some 107, op := Op.pick (Operand.tmp 101) (Operand.tmp 106) (Operand.const (Value.bool false)), type := 4, pos := "law.go:183", after := #[{ on := 29, ground := Ground.data }, { on := 34, ground := Ground.data }, { on := 15, ground := Ground.guard }], guard := some (15, false) }) (v := ?_) rfl (by kernel_rfl) (by kernel_rfl) (by kernel_rfl) (fun _ _ _ h => h) (Or.inl ⟨by rfl, ?_⟩) (by assumption) ?_
                rotate_left
                · (intro w hSw; (try dsimp only at hSw); go_simp; try with_reducible rfl)
                try simp only [Act.put, List.setIfInBounds_toArray, List.set_cons_zero, List.set_cons_succ]
                refine wpAnyH_take (i := 36) (oi := { dst := some 108, op := Op.pick (Operand.tmp 87) (Operand.const (Value.bool true)) (Operand.tmp 107), type := 4, pos := "law.go:183", after := #[{ on := 15, ground := Ground.data }, { on := 35, ground := Ground.data }], guard := none }) (v := ?_) rfl (by kernel_rfl) (by kernel_rfl) (by kernel_rfl) (fun _ _ _ h => h) (Or.inl ⟨by rfl, ?_⟩) (by assumption) ?_
                rotate_left
                · (intro w hSw; (try dsimp only at hSw); go_simp; try with_reducible rfl)
                try simp only [Act.put, List.setIfInBounds_toArray, List.set_cons_zero, List.set_cons_succ]
                refine wpAnyH_done (by kernel_rfl) ?_ _
                have gz := (Gr.refl w9).drew
                obtain ⟨hm8, S8, CX8⟩ := HY.out
                have Z8 := gz.kept X8
                have Hz := hide (And.intro (hm8.then (gz.mod [])) (S8.gr gz))
                clear hm8 S8 CX8 gz X0 X1 X7 X8 U0 U1 U2 U3 U4 U5 U6 U7 U8 HY hHeld
                by_cases hk2 : k2 = 0
                · subst hk2
                  have hln : L.length ≠ 1 := HL2.out.elim (fun h => absurd rfl h) id
                  have hb1 : ((L.length : Int) == 1) = false := by rw [beq_eq_false_iff_ne]; omega
                  have hb3 : (L.length == 1) = false := by rw [beq_eq_false_iff_ne]; omega
                  clear hln
                  go_wp2_with fail
                  refine (list_rd Hz.out.2.hd).mono ?_
                  rintro en w11 ⟨q11, c11, f11, rfl, -, -, hm11⟩
                  have HE := hide (Hz.out.1.then hm11)
                  clear hm11 Z8
                  go_wp2_with fail
                  go_roundw
                  case rel => exact ⟨j + 1, by omega, by go_num, HE.out⟩
                  case measure => simp [intOf]; omega
                · have hb2 : (k2 == 0) = false := by simpa using hk2
                  clear hk2
                  go_wp2_with fail
                  go_roundw
                  case rel => exact ⟨j + 1, by omega, by go_num, Hz.out.1⟩
                  case measure => simp [intOf]; omega
            · clear hls
              have HE := hide (show ∃ fs0, HS w1 wr ph pm fs0 rho (playsS rho (ops.take (k + 1))) ∧ BackedL rho (ops.take (k + 1)) (playsS rho (ops.take (k + 1))) from ⟨fs', by rw [HLL.out]; exact HS5.out.1.same hmr, by rw [HLL.out]; exact HS5.out.2⟩)
              clear hmr
              go_wp2_with fail
              obtain ⟨fs0, he1, he2⟩ := HE.out
              have HE2 := hide (And.intro he1 he2)
              clear he1 he2
              go_roundw
              case rel => exact ⟨k + 1, fs0, by omega, by go_num, HE2.out.1, HE2.out.2⟩
              case measure => simp [intOf]; omega
      · have HX := hide S
        clear S hbk hR1
        go_wp2_with fail
        go_ret
        exact ⟨rfl, H1.out.then HX.out.mod⟩
  · go_wp2_with fail
    refine (hnew_bad rho hrho w1).mono ?_
    rintro en w2 ⟨rfl, rfl⟩
    clear hrho
    go_wp2_with fail
    go_ret
    exact ⟨rfl, H1.out⟩
end Go.Proofs.Ytifllaeldcimgaa
