/-
  WALKS: the document's layer 17: Use. (The great seat alone.)
-/
import Derived.Test.YtifllaeldcimgaaGreatRefHold4
import Derived.Deep.RegionHeld3
namespace Go.Proofs.YtifllaeldcimgaaGreat
open Go.RowKit

def RUseRel (w2 : World) (l : List Lease) (pr : Lease → Bool) (g : Nat) (a i : Value) (wr : World) : Prop :=
  ∃ k : Nat, k + g = l.length ∧ i = .int .i64 k ∧ Mod [] w2 wr ∧
    ((a = .int .i64 (-1) ∧ Hid (bestL ((l.take k).filter pr) = none)) ∨ ∃ j : Nat, j < k ∧ a = .int .i64 j ∧ Hid (bestL ((l.take k).filter pr) = some (l.getD j default)))
/-- what Use answers: a lease out of the list, or none -/
def RUsed (w : World) (f : List Nat) (o : Option Lease × Int) (e : Ending) (w' : World) : Prop :=
  ∃ v, e = .returned (.tuple #[aggL (o.1.getD Lease.zero) v, .int .i64 o.2]) ∧ LsV w' f (o.1.getD Lease.zero, v) ∧ Mod [] w w'
set_option maxHeartbeats 4000000 in
set_option maxRecDepth 100000 in
theorem ruse_any {w : World} {v : Value} {fl : List Nat} {l : List Lease} (h : Dc w v fl l) (hs : SrtL l) (hpz : ∀ x, x ∈ l → x.path.size ≤ 27) (hsm : l.length ≤ 100) (rho now : Int) (path : ByteArray) (hq : path.size ≤ 9223372036854775806) (md : Int) :
    Calls Tryz.prog 14 #[.agg #[.int .i64 rho, v], .int .i64 now, .string path, .int .i64 md] w fun en w' => RUsed w fl (useS l now path.data.toList md) en w' := by
  have h0lt := h.lt
  obtain ⟨pl, cl, rfl⟩ := h.rd.len
  have g1 := ((Gr.refl w).alloc (objD rho (.slice pl l.length cl))).alloc objZ
  have bD := blk_alloc (heap_alloc_new w (objD rho (.slice pl l.length cl))) objZ
  have bZ := heap_alloc_new (w.alloc (objD rho (.slice pl l.length cl))) objZ
  have e1 : (w.alloc (objD rho (.slice pl l.length cl))).heap.size = w.heap.size + 1 := by simp
  rw [e1] at bZ
  have HB := hide (And.intro (g1.mod []) (And.intro bD (And.intro bZ (h.same (g1.mod [])))))
  obtain ⟨o, ho⟩ : ∃ o, useS l now path.data.toList md = o := ⟨_, rfl⟩
  rw [ho]
  unfold useS at ho
  have HO := hide ho
  clear g1 bD bZ e1 h ho
  go_enter Tryz.func14, Tryz.ntmps14
  go_wp2_with fail
  refine (rpvalid_any path hq _).mono ?_
  rintro en w2 ⟨rfl, hm2⟩
  obtain ⟨hm1, bD1, bZ1, h1⟩ := HB.out
  have bD := hm2.at_ bD1 (by simp)
  have bZ := hm2.at_ bZ1 (by simp)
  have h2 := h1.same hm2
  have hm := hm1.then hm2
  clear HB hm1 bD1 bZ1 h1 hm2
  have CZ := blk_cell bZ
  have FZ := blk_free bZ
  have zret : ∀ cd : Int, o = (none, cd) → ∀ w', Mod [] w w' → RUsed w fl o (.returned (.tuple #[aggL Lease.zero (.slice none 0 0), .int .i64 cd])) w' := by
    rintro cd rfl w' hw'
    exact ⟨.slice none 0 0, rfl, ⟨World.ownsRow_nil _ _ _ _, by simp [ob, Value.ownBlock]⟩, hw'⟩
  cases hpk : pathOk path.data.toList
  · have ho := HO.out
    rw [hpk, if_pos rfl] at ho
    have HZ := hide (zret 10 ho.symm)
    clear ho HO zret hpk
    go_wp2_with fail
    have q := st9_heap bZ rfl (.int .i64 0) (.int .i64 0) (.string { data := #[] }) (.int .i64 0) (.slice none 0 0) (.int .i64 0) (.int .i64 0) (.int .i64 0) (.bool false)
    have qm := st9_mod w2 w hm (w.heap.size + 1) (fun h => absurd h (by omega)) (.int .i64 0) (.int .i64 0) (.string { data := #[] }) (.int .i64 0) (.slice none 0 0) (.int .i64 0) (.int .i64 0) (.int .i64 0) (.bool false)
    refine bodyPost_ret (v := .tuple #[aggL Lease.zero (.slice none 0 0), .int .i64 10]) (res_cell2 Tryz.results14 _ _ rfl q Tryz.isAgg36 Tryz.sizeOf36 rfl) rfl (HZ.out _ qm)
  · have ho := HO.out
    rw [hpk, if_neg (by simp)] at ho
    have HO := hide ho
    clear ho hpk
    go_wp2_with fail
    refine (rmode_any _ _).mono ?_
    rintro en w3 ⟨rfl, rfl⟩
    by_cases hmo : modeOk md
    · have ho := HO.out
      rw [if_neg (fun x => x hmo)] at ho
      rw [decide_eq_true hmo]
      have HO := hide ho
      clear ho hmo
      go_wp2_with fail
      go_loopg [10, 11, 12] l.length (fun g a ii _ wr => RUseRel w3 l (fun x => bearsB x now path.data.toList md) g a ii wr)
      case atStart => exact ⟨0, Nat.zero_add _, rfl, Mod.refl _ _, .inl ⟨rfl, rfl⟩⟩
      case round =>
        obtain ⟨k, hk, rfl, hmr, hat⟩ := hrel
        have bDr := hmr.at_ bD (by simp)
        have bZr := hmr.at_ bZ (by simp)
        have CD := blk_cell bDr
        have CZr := blk_cell bZr
        have FZr := blk_free bZr
        by_cases hlt : k < l.length
        · obtain ⟨gg, rfl⟩ : ∃ g, gk = g + 1 := ⟨gk - 1, by omega⟩
          obtain ⟨b, off, vs, rfl, hb, hbf, hls, c0, c1, c2, c3, c4, c5, c6, c7, c8⟩ := (h2.rd.mod hmr (by simp)).at_ k hlt
          have i1 : (0 : Int) ≤ (k : Int) := by omega
          have i2 : (k : Int) < (l.length : Int) := by omega
          have hst := best_step hs (fun x => bearsB x now path.data.toList md) k hlt
          have hpk := hpz (l.getD k default) (by simp [hlt])
          obtain ⟨y, hy⟩ : ∃ y, l.getD k default = y := ⟨_, rfl⟩
          rw [hy] at hls c0 c1 c2 c3 c5 c6 c7 c8 hst hpk
          obtain ⟨yf, yi, yp, ym, ya, yt, ys, ye, yr⟩ := y
          obtain ⟨qv, cv, hvs⟩ := hls.rd.len
          simp only at hvs
          subst hvs
          simp only at c0 c1 c2 c3 c4 c5 c6 c7 c8 hst hpk
          have hrd : RdN wr (.slice qv ya.length cv) ya := hls.rd
          have HKD := hide hy
          have HST := hide hst
          clear hy
          have HX := hide (And.intro h2 (And.intro bD (And.intro bZ (And.intro hmr (And.intro hls hm)))))
          clear h2 bD bZ hmr hls hst bDr bZr hm CZ FZ CZr FZr zret
          go_wp2_with fail
          refine (rbears_any hrd yf yi ym yt ys ye yp yr (by omega) now path hq md).mono ?_
          rintro en w4 ⟨rfl, hm4⟩
          obtain ⟨h2, bD, bZ, hmr, hls, hm⟩ := HX.out
          have hmr4 := hmr.then hm4
          have CD4 := blk_cell (hmr4.at_ bD (by simp))
          have d0 := hm4.kept c0 (by simp)
          have d1 := hm4.kept c1 (by simp)
          have d2 := hm4.kept c2 (by simp)
          have d3 := hm4.kept c3 (by simp)
          have d4 := hm4.kept c4 (by simp)
          have d5 := hm4.kept c5 (by simp)
          have d6 := hm4.kept c6 (by simp)
          have d7 := hm4.kept c7 (by simp)
          have d8 := hm4.kept c8 (by simp)
          have hrd4 := hrd.mod hm4 (by simp)
          obtain ⟨br, hbr⟩ : ∃ br, bearsB ⟨yf, yi, yp, ym, ya, yt, ys, ye, yr⟩ now path.data.toList md = br := ⟨_, rfl⟩
          have hst := HST.out
          rw [hbr] at hst ⊢
          clear c0 c1 c2 c3 c4 c5 c6 c7 c8 CD hrd hbr HST
          cases br
          · rw [if_neg (by simp)] at hst
            have HF := hide (show ∀ q, RUseRel w3 l (fun x => bearsB x now path.data.toList md) gg u10 (.int .i64 ((k : Int) + 1)) (w4.drewN q) from by
              intro q
              refine ⟨k + 1, by omega, by go_num, hmr4.drewN q, ?_⟩
              rcases hat with ⟨e1, e2⟩ | ⟨j, e0, e1, e2⟩
              · exact .inl ⟨e1, hst.trans e2.out⟩
              · exact .inr ⟨j, by omega, e1, hst.trans e2.out⟩)
            clear HX h2 bD bZ hmr hls hm hmr4 hst hat hm4 hrd4 d0 d1 d2 d3 d4 d5 d6 d7 d8
            go_wp2_with fail
            go_quiet (fail)
            go_wp2_with fail
            go_roundg gg
            case measure => omega
            case rel => exact HF.out _
          · rw [if_pos rfl] at hst
            have hkd : l.getD k default = ⟨yf, yi, yp, ym, ya, yt, ys, ye, yr⟩ := HKD.out
            rcases hat with ⟨rfl, e2⟩ | ⟨j, e0, rfl, e2⟩
            · rw [e2.out] at hst
              have HF := hide (show ∀ q, RUseRel w3 l (fun x => bearsB x now path.data.toList md) gg (.int .i64 k) (.int .i64 ((k : Int) + 1)) (w4.drewN q) from by
                intro q
                exact ⟨k + 1, by omega, by go_num, hmr4.drewN q, .inr ⟨k, by omega, rfl, by rw [hkd]; exact hst⟩⟩)
              clear HX h2 bD bZ hmr hls hm hmr4 hst hm4 hrd4 d0 d1 d2 d3 d4 d5 d6 d7 d8 hkd e2
              go_wp2_with fail
              go_quiet (fail)
              go_wp2_with fail
              go_roundg gg
              case measure => omega
              case rel => exact HF.out _
            · rw [e2.out] at hst
              obtain ⟨b', off', vs', eb, _, _, hls', c0, c1, c2, c3, c4, c5, c6, c7, c8⟩ := (h2.rd.mod hmr4 (by simp)).at_ j (by omega)
              simp only [Option.some.injEq, Addr.mk.injEq, and_true] at eb
              obtain ⟨rfl, rfl⟩ := eb
              obtain ⟨z, hz⟩ : ∃ z, l.getD j default = z := ⟨_, rfl⟩
              rw [hz] at hls' c0 c1 c2 c3 c5 c6 c7 c8 hst
              obtain ⟨zf, zi, zp, zm, za, zt, zs, ze, zr⟩ := z
              obtain ⟨qz, cz, hvz⟩ := hls'.rd.len
              simp only at hvz
              subst hvz
              simp only at c0 c1 c2 c3 c4 c5 c6 c7 c8
              have hrz : RdN w4 (.slice qz za.length cz) za := hls'.rd
              have hj1 : (0 : Int) ≤ (j : Int) := by omega
              have hj2 : (j : Int) < (l.length : Int) := by omega
              have hj3 : decide ((j : Int) < 0) = false := by simp
              have HF := hide (show ∀ (bt : Bool) (w5 : World), betterB ⟨yf, yi, yp, ym, ya, yt, ys, ye, yr⟩ ⟨zf, zi, zp, zm, za, zt, zs, ze, zr⟩ = bt → Gr w4.drew w5 → RUseRel w3 l (fun x => bearsB x now path.data.toList md) gg (.int .i64 (if bt = true then (k : Int) else (j : Int))) (.int .i64 ((k : Int) + 1)) w5 from by
                intro bt w5 hbt hg5
                refine ⟨k + 1, by omega, by go_num, (hmr4.drew).gr hg5, .inr ?_⟩
                have hst2 : bestL ((l.take (k + 1)).filter fun x => bearsB x now path.data.toList md) = some (if betterB ⟨yf, yi, yp, ym, ya, yt, ys, ye, yr⟩ ⟨zf, zi, zp, zm, za, zt, zs, ze, zr⟩ = true then ⟨yf, yi, yp, ym, ya, yt, ys, ye, yr⟩ else ⟨zf, zi, zp, zm, za, zt, zs, ze, zr⟩) := hst
                rw [hbt] at hst2
                cases bt
                · exact ⟨j, by omega, rfl, by rw [hz]; exact hst2⟩
                · exact ⟨k, by omega, rfl, by rw [hkd]; exact hst2⟩)
              have HR := hide (And.intro (hrd4.gr (Gr.refl w4).drew) (hrz.gr (Gr.refl w4).drew))
              clear HX h2 bD bZ hmr hls hm hmr4 hst hm4 hrd4 hkd e2 hls' hz hrz
              go_wp2_with fail
              go_still_tail 15, (by kernel_rfl)
              go_wp2_with fail
              refine (rbetter_any HR.out.1 HR.out.2).mono ?_
              rintro en w5 ⟨rfl, hg5⟩
              have hF := fun bt hbt => HF.out bt w5 hbt hg5
              generalize betterB ⟨yf, yi, yp, ym, ya, yt, ys, ye, yr⟩ ⟨zf, zi, zp, zm, za, zt, zs, ze, zr⟩ = bt at hF
              have HF2 := hide (hF bt rfl)
              clear hF HF HR c0 c1 c2 c3 c4 c5 c6 c7 c8 d0 d1 d2 d3 d4 d5 d6 d7 d8 hg5 CD4
              cases bt
              · go_wp2_with fail
                go_roundg gg
                case measure => omega
                case rel => exact HF2.out
              · go_wp2_with fail
                go_roundg gg
                case measure => omega
                case rel => exact HF2.out
        · have hkl : k = l.length := by omega
          subst hkl
          rw [List.take_length] at hat
          have ho := HO.out
          rcases hat with ⟨rfl, e2⟩ | ⟨j, e0, rfl, e2⟩
          · rw [e2.out] at ho
            have HZ := hide (zret 62 ho.symm)
            have hmm := hm.then hmr
            clear ho HO zret e2
            go_wp2_with fail
            have q := st9_heap bZr rfl (.int .i64 0) (.int .i64 0) (.string { data := #[] }) (.int .i64 0) (.slice none 0 0) (.int .i64 0) (.int .i64 0) (.int .i64 0) (.bool false)
            have qm := st9_mod wr w hmm (w.heap.size + 1) (fun h => absurd h (by omega)) (.int .i64 0) (.int .i64 0) (.string { data := #[] }) (.int .i64 0) (.slice none 0 0) (.int .i64 0) (.int .i64 0) (.int .i64 0) (.bool false)
            refine bodyPost_ret (v := .tuple #[aggL Lease.zero (.slice none 0 0), .int .i64 62]) (res_cell2 Tryz.results14 _ _ rfl q Tryz.isAgg36 Tryz.sizeOf36 rfl) rfl (HZ.out _ qm)
          · rw [e2.out] at ho
            obtain ⟨b, off, vs, rfl, hb, hbf, hls, c0, c1, c2, c3, c4, c5, c6, c7, c8⟩ := (h2.rd.mod hmr (by simp)).at_ j e0
            generalize l.getD j default = z at hls c0 c1 c2 c3 c4 c5 c6 c7 c8 ho
            obtain ⟨zf, zi, zp, zm, za, zt, zs, ze, zr⟩ := z
            obtain ⟨qz, cz, hvz⟩ := hls.rd.len
            simp only at hvz
            subst hvz
            simp only at c0 c1 c2 c3 c4 c5 c6 c7 c8
            have hj1 : (0 : Int) ≤ (j : Int) := by omega
            have hj2 : (j : Int) < (l.length : Int) := by omega
            have hj3 : ¬ (j : Int) < 0 := by omega
            have hmm := hm.then hmr
            have hflt : ∀ k, k ∈ fl → k ≠ w.heap.size + 1 := fun k hk e => by have := h0lt k hk; omega
            have hlr := lt_of_block bZr
            have HO2 := hide ho
            clear ho HO zret e2 h2 hm
            go_wp2_with fail
            have q := st9_heap bZr rfl (.int .i64 zf) (.int .i64 zi) (.string zp) (.int .i64 zm) (.slice qz za.length cz) (.int .i64 zt) (.int .i64 zs) (.int .i64 ze) (.bool zr)
            have qm := st9_mod wr w hmm (w.heap.size + 1) (fun h => absurd h (by omega)) (.int .i64 zf) (.int .i64 zi) (.string zp) (.int .i64 zm) (.slice qz za.length cz) (.int .i64 zt) (.int .i64 zs) (.int .i64 ze) (.bool zr)
            have qn := st9_mod wr wr (Mod.refl [w.heap.size + 1] wr) (w.heap.size + 1) (fun _ => by simp) (.int .i64 zf) (.int .i64 zi) (.string zp) (.int .i64 zm) (.slice qz za.length cz) (.int .i64 zt) (.int .i64 zs) (.int .i64 ze) (.bool zr)
            refine bodyPost_ret (v := .tuple #[aggL ⟨zf, zi, zp, zm, za, zt, zs, ze, zr⟩ (.slice qz za.length cz), .int .i64 0]) (res_cell2 Tryz.results14 _ _ rfl q Tryz.isAgg36 Tryz.sizeOf36 rfl) rfl ?_
            have ho := HO2.out
            subst ho
            exact ⟨_, rfl, hls.mod qn (fun k hk e => hflt k hk (by simpa using e)), qm⟩
    · have ho := HO.out
      rw [if_pos hmo] at ho
      rw [decide_eq_false hmo]
      have HZ := hide (zret 11 ho.symm)
      clear ho HO zret hmo
      go_wp2_with fail
      have q := st9_heap bZ rfl (.int .i64 0) (.int .i64 0) (.string { data := #[] }) (.int .i64 0) (.slice none 0 0) (.int .i64 0) (.int .i64 0) (.int .i64 0) (.bool false)
      have qm := st9_mod _ w hm (w.heap.size + 1) (fun h => absurd h (by omega)) (.int .i64 0) (.int .i64 0) (.string { data := #[] }) (.int .i64 0) (.slice none 0 0) (.int .i64 0) (.int .i64 0) (.int .i64 0) (.bool false)
      refine bodyPost_ret (v := .tuple #[aggL Lease.zero (.slice none 0 0), .int .i64 11]) (res_cell2 Tryz.results14 _ _ rfl q Tryz.isAgg36 Tryz.sizeOf36 rfl) rfl (HZ.out _ qm)
end Go.Proofs.YtifllaeldcimgaaGreat
