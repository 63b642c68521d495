/-
  WALK: the law HolderRecalled.
-/
import Derived.Test.YtifllaeldcimgaaHRec
namespace Go.Proofs.Ytifllaeldcimgaa
open Go.RowKit

set_option maxHeartbeats 16000000 in
set_option maxRecDepth 100000 in
theorem recalled_any {W : World} {ops more : List OpL} {rho : Int} {vp : Option Addr} {vc : Nat} (hR : RdOp W (.slice vp ops.length vc) ops) {mp : Option Addr} {mc : Nat} (hM : RdOp W (.slice mp more.length mc) more) (f i m t s e : Int) (p : ByteArray) (a : List Int) (r : Bool) (q : Option Addr) (c : Nat) (wf : i64w f) (wi : i64w i) :
    Calls Try.prog 6 #[.int .i64 rho, .slice vp ops.length vc, .agg #[.int .i64 f, .int .i64 i, .string p, .int .i64 m, .slice q a.length c, .int .i64 t, .int .i64 s, .int .i64 e, .bool r, .slice mp more.length mc]] W fun e w' => e = .returned (.bool true) ∧ Mod [] W w' := by
  have hmx : ops.length ≤ 9223372036854775807 := hR.1
  have hmm : more.length ≤ 9223372036854775807 := hM.1
  go_enter Try.func6, Try.ntmps6
  go_wp2_with fail
  refine (awake_any _).mono ?_
  rintro en w1 ⟨rfl, hm1⟩
  have hB1 := hm1.at_ (heap_alloc_new W (objC f i p m (.slice q a.length c) t s e r (.slice mp more.length mc))) (by simp)
  have hm1 := (((Gr.refl W).alloc (objC f i p m (.slice q a.length c) t s e r (.slice mp more.length mc))).mod []).then hm1
  have hR1 := hR.same hm1
  have hM1 := hM.same hm1
  have hbl := lt_of_block hB1
  have HM := hide hM1
  clear hR hM hM1
  have H1 := hide hm1
  clear hm1
  generalize W.heap.size = ab at hB1 hbl ⊢
  by_cases hrho : 0 ≤ rho ∧ rho ≤ 999
  · go_wp2_with fail
    refine (hnew_ok rho hrho w1).mono ?_
    rintro en w2 ⟨rfl, hd2, hg2⟩
    have s2 : HS w1 w2 (w1.heap.size + 1) w1.heap.size [] rho [] := ⟨hd2, hg2.mod [], by omega, by omega⟩
    clear hd2 hg2
    generalize w1.heap.size + 1 = ph at s2 ⊢
    generalize hP : w1.heap.size = pm at s2
    have hap : ab ≠ pm := by omega
    have HP := hide (And.intro hP hap)
    clear hP hap
    go_wp2_with fail
    go_loopw [38] (fun s38 wr => PlaysRel w1 ph pm rho ops s38 wr) (fun s38 _ => ops.length - (intOf s38).toNat)
    case atStart => exact ⟨0, [], by omega, rfl, s2⟩
    case round =>
      clear s2
      obtain ⟨k, fs, hk, rfl, S⟩ := hrel
      by_cases hlt : k < ops.length
      · have hlt' : (k : Int) < (ops.length : Int) := by omega
        obtain ⟨b, off, okd, onw, ost, of_, oi, op, om, oa, ot, os, oe, or_, oq, oc, rfl, hbw, hget, c0, c1, c2, c3, c4, c5, c6, c7, c8, c9, c10, c11, hrd, hin⟩ := (hR1.same S.mod).at_ k hlt
        have hstep := playsS_step rho ops hlt
        rw [hget] at hstep
        have HX := hide (And.intro S (And.intro hstep (And.intro hrd hin)))
        clear S hstep hrd hin hget hR1 hB1
        go_wp2_with fail
        obtain ⟨S, hstep, hrd, hin⟩ := HX.out
        have S2 := S.gr ((Gr.refl wr).alloc (objO okd onw ost of_ oi op om (.slice oq oa.length oc) ot os oe or_))
        have hrd2 := hrd.gr ((Gr.refl wr).alloc (objO okd onw ost of_ oi op om (.slice oq oa.length oc) ot os oe or_))
        refine (played_any S2.hd okd onw ost of_ oi om ot os oe op oa or_ oq oc hrd2 hin).mono ?_
        rintro en w4 ⟨rfl, fs', hd4, ht4⟩
        rw [hstep] at hd4
        have S4 := S2.to hd4 ht4
        clear HX S S2 hrd hrd2 hd4 ht4 c0 c1 c2 c3 c4 c5 c6 c7 c8 c9 c10 c11 hin
        go_wp2_with fail
        go_roundw
        case rel => exact ⟨k + 1, fs', by omega, by go_num, S4⟩
        case measure => simp [intOf]; omega
      · obtain rfl : k = ops.length := by omega
        rw [List.take_length] at S
        generalize playsS rho ops = L at S
        have hL8 := S.hd.small
        have hsrt := S.hd.srt
        have HX := hide S
        have HB := hide hB1
        clear hR1 S hB1
        go_wp2_with fail
        refine (list_rd HX.out.hd).mono ?_
        rintro en w3 ⟨lq, lc, lf, rfl, -, -, hm3⟩
        have S3 := HX.out.same hm3
        have hB3 := S3.mod.at_ HB.out (by simp)
        have CB := blk_cell hB3
        have HL := hide (And.intro hL8 hsrt)
        clear HX hm3 hB3 hL8
        rcases recall_law hsrt (f, i) with ⟨hno, hre⟩ | ⟨⟨xf, xi, xp, xm, xa, xt, xs, xe, xr⟩, L1, b1, hre, hs1, hx1, hxr, hl1, hre2⟩
        · clear hsrt
          have HN := hide (And.intro hno hre)
          clear hno hre
          go_wp2_with fail
          refine (recall_eq S3.hd f i wf wi HN.out.2).mono ?_
          rintro en w4 ⟨rfl, fs4, hd4, ht4⟩
          have S4 := S3.to hd4 ht4
          have CB4 := blk_cell (S4.mod.at_ HB.out (by simp))
          clear S3 CB hd4 ht4
          go_wp2_with fail
          refine (get_none S4.hd f i wf wi HN.out.1).mono ?_
          rintro en w5 ⟨gq, gc, rfl, hf5⟩
          have S5 := (S4.same hf5.2.2).gr ((Gr.refl w5).alloc (objL 0 0 ByteArray.empty 0 (.slice gq 0 gc) 0 0 0 false))
          have CB5 := blk_cell (S5.mod.at_ HB.out (by simp))
          clear S4 CB4 hf5
          go_wp2_with fail
          refine (recall_eq S5.hd f i wf wi HN.out.2).mono ?_
          rintro en w6 ⟨rfl, fs6, hd6, ht6⟩
          have S6 := S5.to hd6 ht6
          have CB6 := blk_cell (S6.mod.at_ HB.out (by simp))
          clear S5 CB5 hd6 ht6
          have HS6 := hide S6
          clear S6
          go_wp2_with fail
          have hll : ((L.length : Int) == (L.length : Int)) = true := by simp
          go_loopw [94] (fun s94 wr => IdleRel w6 more.length s94 wr) (fun s94 _ => more.length - (intOf s94).toNat)
          case atStart => exact ⟨0, by omega, rfl, Mod.refl _ _⟩
          case round =>
            clear CB6
            obtain ⟨k, hk, rfl, hmr⟩ := hrel
            by_cases hlt : k < more.length
            · have hlt' : (k : Int) < (more.length : Int) := by omega
              obtain ⟨b, off, okd, onw, ost, of_, oi, op, om, oa, ot, os, oe, or_, oq, oc, rfl, hbw, hget, c0, c1, c2, c3, c4, c5, c6, c7, c8, c9, c10, c11, hrd, hin⟩ := (HM.out.same (HS6.out.mod.then hmr)).at_ k hlt
              have hmr2 := hmr.then (((Gr.refl wr).alloc (objO okd onw ost of_ oi op om (.slice oq oa.length oc) ot os oe or_)).mod [])
              have Hmr := hide hmr2
              clear hget hrd hin hmr hmr2
              by_cases k1 : okd = 1
              · subst k1
                go_wp2_with fail
                go_roundw
                case rel => exact ⟨k + 1, by omega, by go_num, Hmr.out⟩
                case measure => simp [intOf]; omega
              · have k1' : (okd != 1) = true := by simpa using k1
                by_cases k2 : okd = 2
                · subst k2
                  clear k1
                  go_wp2_with fail
                  go_roundw
                  case rel => exact ⟨k + 1, by omega, by go_num, Hmr.out⟩
                  case measure => simp [intOf]; omega
                · have k2' : (okd != 2) = true := by simpa using k2
                  clear k1 k2
                  go_wp2_with fail
                  go_roundw
                  case rel => exact ⟨k + 1, by omega, by go_num, Hmr.out⟩
                  case measure => simp [intOf]; omega
            · go_wp2_with fail
              refine (list_rd (HS6.out.same hmr).hd).mono ?_
              rintro en w7 ⟨lq7, lc7, lf7, rfl, -, -, hm7⟩
              have Hf := hide (H1.out.then ((HS6.out.mod.then hmr).then hm7))
              clear hmr hm7
              go_wp2_with fail
              go_ret
              exact ⟨rfl, Hf.out⟩
        · have hs1' := hide hs1
          have hN := hide (And.intro hre (And.intro hre2 hx1))
          clear hre hre2 hx1 hsrt hs1
          simp only at hxr
          subst hxr
          go_wp2_with fail
          refine (recall_eq S3.hd f i wf wi hN.out.1).mono ?_
          rintro en w4 ⟨rfl, fs4, hd4, ht4⟩
          have S4 := S3.to hd4 ht4
          have CB4 := blk_cell (S4.mod.at_ HB.out (by simp))
          clear S3 CB hd4 ht4
          go_wp2_with fail
          refine (get_some S4.hd f i wf wi hN.out.2.2).mono ?_
          rintro en w5 ⟨gq, gc, rfl, hf5⟩
          have g5 := (Gr.refl w5).alloc (objL xf xi xp xm (.slice gq xa.length gc) xt xs xe true)
          have S5 := (S4.same hf5.2.2).gr g5
          have CB5 := blk_cell (S5.mod.at_ HB.out (by simp))
          have hb5 := heap_alloc_new w5 (objL xf xi xp xm (.slice gq xa.length gc) xt xs xe true)
          have hr5 := hf5.1.gr g5
          have hoff : pm ∉ ob (.slice gq xa.length gc) := S4.off (Nat.le_refl _) (fun k hk => (hf5.2.1 k hk).1)
          have hxp : w5.heap.size ≠ pm := by have := (S4.same hf5.2.2).hd.lt.2; omega
          clear S4 CB4 hf5 g5
          have HO := hide (And.intro S5 (And.intro hb5 (And.intro hr5 (And.intro hoff hxp))))
          clear hb5 hr5 hoff hxp
          go_wp2_with fail
          refine (recall_eq S5.hd f i wf wi hN.out.2.1).mono ?_
          rintro en w6 ⟨rfl, fs6, hd6, ht6⟩
          obtain ⟨-, hb5, hr5, hoff, hxp⟩ := HO.out
          have S6 := S5.to hd6 ht6
          have hb6 := ht6.mod.at_ hb5 (by simpa using hxp)
          have hr6 := hr5.mod ht6.mod (fun k hk e => by simp at e; exact hoff (e ▸ hk))
          clear S5 CB5 hd6 ht6 HO hb5 hr5
          generalize w5.heap.size = xb at hb6 hxp ⊢
          have CB6 := blk_cell (S6.mod.at_ HB.out (by simp))
          have CX6 := blk_cell hb6
          have HO := hide (And.intro S6 (And.intro hb6 (And.intro hr6 (And.intro hoff hxp))))
          clear S6 hb6 hr6 hoff hxp
          cases b1 <;> go_wp2_with fail
          all_goals
            go_loopw [94] (fun s94 wr => RecRel w1 w6 ph pm rho L.length more.length (f, i) (some ⟨xf, xi, xp, xm, xa, xt, xs, xe, true⟩) s94 wr) (fun s94 _ => more.length - (intOf s94).toNat)
            case atStart => exact ⟨0, fs6, L1, by omega, rfl, HO.out.1, hl1, hN.out.2.2, Mod.refl _ _⟩
            case round =>
              clear CB6 CX6
              obtain ⟨k, fs, M, hk, rfl, S, hlM, hg, hfr⟩ := hrel
              by_cases hlt : k < more.length
              · have hlt' : (k : Int) < (more.length : Int) := by omega
                obtain ⟨b, off, okd, onw, ost, of_, oi, op, om, oa, ot, os, oe, or_, oq, oc, rfl, hbw, hget, c0, c1, c2, c3, c4, c5, c6, c7, c8, c9, c10, c11, hrd, hin⟩ := (HM.out.same S.mod).at_ k hlt
                clear hget
                have gb := (Gr.refl wr).alloc (objO okd onw ost of_ oi op om (.slice oq oa.length oc) ot os oe or_)
                have S7 := S.gr gb
                have hrd7 := hrd.gr gb
                have hfr7 := hfr.then (gb.mod [pm])
                have hob7 := heap_alloc_new wr (objO okd onw ost of_ oi op om (.slice oq oa.length oc) ot os oe or_)
                have hop : wr.heap.size ≠ pm := by have := S.hd.lt.2; omega
                have HR := hide (And.intro S7 (And.intro hrd7 (And.intro hfr7 (And.intro hob7 (And.intro hop (And.intro hlM (And.intro hg hin)))))))
                clear S S7 hrd hrd7 hfr hfr7 hob7 hop hlM hg hin gb
                by_cases k12 : okd = 1 ∨ okd = 2
                · have HK := hide k12
                  have hks : ((okd != 1) = false) ∨ ((okd != 1) = true ∧ (okd != 2) = false) := by
                    rcases k12 with e | e
                    · left; simp [e]
                    · right; simp [e]
                  clear k12
                  rcases hks with hk1 | ⟨hk1, hk2⟩
                  all_goals
                    go_wp2_with fail
                    obtain ⟨S7, hrd7, hfr7, hob7, hop, hlM, hg, hin⟩ := HR.out
                    refine (played_any S7.hd okd onw ost of_ oi om ot os oe op oa or_ oq oc hrd7 hin).mono ?_
                    rintro en w8 ⟨rfl, fs8, hd8, ht8⟩
                    obtain ⟨hg8, hl8⟩ := play_keep rho S7.hd.srt hg rfl ⟨okd, onw, ost, ⟨of_, oi, op, om, oa, ot, os, oe, or_⟩⟩ HK.out
                    rw [hlM] at hl8
                    generalize playS rho M _ = M8 at hd8 hg8 hl8
                    have S8 := S7.to hd8 ht8
                    have fr8 := hfr7.then ht8.mod
                    have hob8 := ht8.mod.at_ hob7 (by simpa using hop)
                    clear HR S7 hrd7 hfr7 hob7 hop hlM hg hin hd8 ht8 c0 c1 c2 c3 c4 c5 c6 c7 c8 c9 c10 c11
                    generalize wr.heap.size = obk at hob8 ⊢
                    have CA := blk_cell (S8.mod.at_ HB.out (by simp))
                    have HR := hide (And.intro S8 (And.intro fr8 (And.intro hob8 (And.intro hg8 hl8))))
                    clear S8 fr8 hob8 hg8 hl8
                    go_wp2_with fail
                    obtain ⟨S8, fr8, hob8, hg8, hl8⟩ := HR.out
                    refine (get_some S8.hd f i wf wi hg8).mono ?_
                    rintro en w9 ⟨yq, yc, rfl, hf9⟩
                    have g9 := (Gr.refl w9).alloc (objL xf xi xp xm (.slice yq xa.length yc) xt xs xe true)
                    have S9 := (S8.same hf9.2.2).gr g9
                    have fr9 := (fr8.then (hf9.2.2.mono (by simp))).then (g9.mod [pm])
                    have hob9 := (g9.mod []).at_ (hf9.2.2.at_ hob8 (by simp)) (by simp)
                    have hy9 := heap_alloc_new w9 (objL xf xi xp xm (.slice yq xa.length yc) xt xs xe true)
                    have hry9 := hf9.1.gr g9
                    clear S8 fr8 hob8 hf9 HR g9 CA
                    have CO := blk_cell hob9
                    have CX := blk_cell (fr9.at_ HO.out.2.1 (by simpa using HO.out.2.2.2.2))
                    have hxok := S9.hd.ok _ (getL_some hg8).1
                    have hxps : xp.size ≤ 9223372036854775807 := by have := okL_path hxok; simp only at this; omega
                    have HR := hide (And.intro S9 (And.intro fr9 (And.intro hy9 (And.intro hry9 (And.intro hg8 hl8)))))
                    clear S9 fr9 hob9 hy9 hry9 hg8 hl8
                    go_wp2_with fail
                    obtain ⟨S9, fr9, hy9, hry9, hg8, hl8⟩ := HR.out
                    clear HR CO CX
                    generalize w9.alloc (objL xf xi xp xm (.slice yq xa.length yc) xt xs xe true) = w10 at S9 fr9 hy9 hry9 ⊢
                    generalize w9.heap.size = yb at hy9 ⊢
                    refine (use_gen S9.hd onw xp xm hxps).mono ?_
                    rintro en w11 ⟨zf, zi, zp, zm, za, zt, zs, ze, zr, zq, zc, zk, rfl, hf11, huo⟩
                    have hne := use_rec S9.hd.srt hg8 rfl huo
                    simp only at hne
                    have g11 := (Gr.refl w11).alloc (objL zf zi zp zm (.slice zq za.length zc) zt zs ze zr)
                    have S11 := (S9.same hf11.2.2).gr g11
                    have fr11 := (fr9.then (hf11.2.2.mono (by simp))).then (g11.mod [pm])
                    have hy11 := (g11.mod []).at_ (hf11.2.2.at_ hy9 (by simp)) (by simp)
                    have hz11 := heap_alloc_new w11 (objL zf zi zp zm (.slice zq za.length zc) zt zs ze zr)
                    have hry11 := (hry9.mod hf11.2.2 (by simp)).gr g11
                    clear S9 fr9 hy9 hry9 huo hf11 g11
                    have hx11 := fr11.at_ HO.out.2.1 (by simpa using HO.out.2.2.2.2)
                    have hrx11 := HO.out.2.2.1.mod fr11 (fun k hk e => by simp at e; exact HO.out.2.2.2.1 (e ▸ hk))
                    have CX := blk_cell hx11
                    have CY := blk_cell hy11
                    have CZ := blk_cell hz11
                    have HR := hide (And.intro S11 (And.intro fr11 (And.intro hx11 (And.intro hz11 (And.intro hg8 (And.intro hl8 hxok))))))
                    have HS2 := hide (And.intro hrx11 hry11)
                    clear S11 fr11 hx11 hy11 hz11 hry11 hrx11 hg8 hl8 hxok
                    go_wp2_with fail
                    refine (sameLease_eq HS2.out.1 HS2.out.2 _ _ _ _ _ _ _ _).mono ?_
                    rintro en w13 ⟨rfl, hg13⟩
                    obtain ⟨S11, fr11, hx11, hz11, hg8, hl8, hxok⟩ := HR.out
                    have S13 := S11.gr hg13
                    have fr13 := fr11.then (hg13.mod [pm])
                    have CX13 := blk_cell ((hg13.mod []).at_ hx11 (by simp))
                    have CZ13 := blk_cell ((hg13.mod []).at_ hz11 (by simp))
                    have wxf : i64w xf := i64w_of (by have := hxok.1; simp only at this; omega) (by have := hxok.1; simp only at this; omega)
                    have wxi : i64w xi := i64w_of (by have := hxok.1; simp only at this; omega) (by have := hxok.1; simp only at this; omega)
                    clear S11 fr11 hx11 hz11 hxok hg13 CX CY CZ HR HS2
                    have HR := hide (And.intro S13 (And.intro fr13 (And.intro hg8 hl8)))
                    clear S13 fr13 hg8 hl8
                    have HQ := hide (show HS w1 (w13.alloc (.cells #[.int .i64 5] 3)) ph pm fs8 rho M8 ∧ RdN (w13.alloc (.cells #[.int .i64 5] 3)) (.slice (some ⟨w13.heap.size, 0, none⟩) [(5 : Int)].length 1) [5] ∧ Mod [pm] w6 (w13.alloc (.cells #[.int .i64 5] 3)) ∧ getL M8 (xf, xi) = some ⟨xf, xi, xp, xm, xa, xt, xs, xe, true⟩ from
                      ⟨HR.out.1.gr ((Gr.refl w13).alloc _), rd_one (heap_alloc_new w13 (.cells #[.int .i64 5] 3)), HR.out.2.1.then (((Gr.refl w13).alloc _).mod [pm]), by
                        have hkx : ((xf, xi) : Key) = (f, i) := (getL_some HR.out.2.2.1).2
                        rw [hkx]; exact HR.out.2.2.1⟩)
                    by_cases hz0 : zk = 0
                    · subst hz0
                      rcases hne with hne | hne | ⟨hne1, hne⟩
                      · exact absurd rfl hne
                      · have e1 : (zf == xf) = false := by simpa using hne
                        clear hne
                        go_wp2_with fail
                        refine (renewed_eq HQ.out.1.hd 5 5 xf xi 30 [5] _ 1 wxf wxi HQ.out.2.1 (renewed_rec rho 5 5 30 [5] HQ.out.2.2.2 rfl)).mono ?_
                        rintro en w15 ⟨rfl, fs15, hd15, ht15⟩
                        have S15 := HQ.out.1.to hd15 ht15
                        have fr15 := HQ.out.2.2.1.then ht15.mod
                        obtain ⟨-, -, hg8, hl8⟩ := HR.out
                        have HF := hide (And.intro S15 (And.intro fr15 (And.intro hg8 hl8)))
                        clear hd15 ht15 S15 fr15 hg8 hl8 HQ HR
                        go_wp2_with fail
                        go_roundw
                        case rel => exact ⟨k + 1, fs15, M8, by omega, by go_num, HF.out.1, HF.out.2.2.2, HF.out.2.2.1, HF.out.2.1⟩
                        case measure => simp [intOf]; omega
                      · subst hne1
                        have e1 : (zi == xi) = false := by simpa using hne
                        clear hne
                        go_wp2_with fail
                        refine (renewed_eq HQ.out.1.hd 5 5 zf xi 30 [5] _ 1 wxf wxi HQ.out.2.1 (renewed_rec rho 5 5 30 [5] HQ.out.2.2.2 rfl)).mono ?_
                        rintro en w15 ⟨rfl, fs15, hd15, ht15⟩
                        have S15 := HQ.out.1.to hd15 ht15
                        have fr15 := HQ.out.2.2.1.then ht15.mod
                        obtain ⟨-, -, hg8, hl8⟩ := HR.out
                        have HF := hide (And.intro S15 (And.intro fr15 (And.intro hg8 hl8)))
                        clear hd15 ht15 S15 fr15 hg8 hl8 HQ HR
                        go_wp2_with fail
                        go_roundw
                        case rel => exact ⟨k + 1, fs15, M8, by omega, by go_num, HF.out.1, HF.out.2.2.2, HF.out.2.2.1, HF.out.2.1⟩
                        case measure => simp [intOf]; omega
                    · have e1 : (zk == 0) = false := by simpa using hz0
                      clear hne hz0
                      go_wp2_with fail
                      refine (renewed_eq HQ.out.1.hd 5 5 xf xi 30 [5] _ 1 wxf wxi HQ.out.2.1 (renewed_rec rho 5 5 30 [5] HQ.out.2.2.2 rfl)).mono ?_
                      rintro en w15 ⟨rfl, fs15, hd15, ht15⟩
                      have S15 := HQ.out.1.to hd15 ht15
                      have fr15 := HQ.out.2.2.1.then ht15.mod
                      obtain ⟨-, -, hg8, hl8⟩ := HR.out
                      have HF := hide (And.intro S15 (And.intro fr15 (And.intro hg8 hl8)))
                      clear hd15 ht15 S15 fr15 hg8 hl8 HQ HR
                      go_wp2_with fail
                      go_roundw
                      case rel => exact ⟨k + 1, fs15, M8, by omega, by go_num, HF.out.1, HF.out.2.2.2, HF.out.2.2.1, HF.out.2.1⟩
                      case measure => simp [intOf]; omega
                · have k1' : (okd != 1) = true := by simp; omega
                  have k2' : (okd != 2) = true := by simp; omega
                  clear k12
                  go_wp2_with fail
                  obtain ⟨S7, -, hfr7, -, -, hlM, hg, -⟩ := HR.out
                  have HF := hide (And.intro S7 (And.intro hfr7 (And.intro hlM hg)))
                  clear S7 hfr7 hlM hg HR
                  go_roundw
                  case rel => exact ⟨k + 1, fs, M, by omega, by go_num, HF.out.1, HF.out.2.2.1, HF.out.2.2.2, HF.out.2.1⟩
                  case measure => simp [intOf]; omega
              · have hll : ((M.length : Int) == (L.length : Int)) = true := by simp [hlM]
                have HF := hide S
                clear S hlM hg hfr
                go_wp2_with fail
                refine (list_rd HF.out.hd).mono ?_
                rintro en w7 ⟨lq7, lc7, lf7, rfl, -, -, hm7⟩
                have Hf := hide (H1.out.then (HF.out.mod.then hm7))
                clear hm7
                go_wp2_with fail
                go_ret
                exact ⟨rfl, Hf.out⟩
  · go_wp2_with fail
    refine (hnew_bad rho hrho w1).mono ?_
    rintro en w2 ⟨rfl, rfl⟩
    clear hrho
    go_wp2_with fail
    go_ret
    exact ⟨rfl, H1.out⟩
end Go.Proofs.Ytifllaeldcimgaa
