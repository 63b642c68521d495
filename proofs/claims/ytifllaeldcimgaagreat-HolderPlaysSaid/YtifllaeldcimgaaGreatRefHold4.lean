/-
  WALKS: the document's layers 16 and 17: Bears, better, SameLease, Same. (The great seat alone.)
-/
import Derived.Test.YtifllaeldcimgaaGreatRefHold1
import Derived.Test.YtifllaeldcimgaaGreatRefPaths
import Derived.Deep.DeepCutAuto
import Derived.Deep.LoopGhost
import Derived.StillTailTactics
namespace Go.Proofs.YtifllaeldcimgaaGreat
open Go.RowKit

theorem bears_eq (f i m t s e now md : Int) (p qq : ByteArray) (a : List Int) (r : Bool) : bearsB ⟨f, i, p, m, a, t, s, e, r⟩ now qq.data.toList md =
    (!r && (decide (now < e) && (coversB p.data.toList qq.data.toList && (decide (modeOk md) && ((decide (m = 2) || (decide (m = 1) && decide (md = 1))) && decide (stampOk a)))))) := by
  unfold bearsB
  simp only
  cases r <;> cases decide (now < e) <;> cases coversB p.data.toList qq.data.toList <;> cases decide (modeOk md) <;> cases decide (stampOk a) <;> simp
set_option maxHeartbeats 2000000 in
set_option maxRecDepth 100000 in
theorem rbears_any {w : World} {a : List Int} {q : Option Addr} {c : Nat} (hv : RdN w (.slice q a.length c) a) (f i m t s e : Int) (p : ByteArray) (r : Bool) (hp : p.size ≤ 9223372036854775806) (now : Int) (qq : ByteArray) (hq : qq.size ≤ 9223372036854775806) (md : Int) :
    Calls Tryz.prog 50 #[.agg #[.int .i64 f, .int .i64 i, .string p, .int .i64 m, .slice q a.length c, .int .i64 t, .int .i64 s, .int .i64 e, .bool r], .int .i64 now, .string qq, .int .i64 md] w
      fun en w' => en = .returned (.bool (bearsB ⟨f, i, p, m, a, t, s, e, r⟩ now qq.data.toList md)) ∧ Mod [] w w' := by
  obtain ⟨b, hb⟩ : ∃ b, bearsB ⟨f, i, p, m, a, t, s, e, r⟩ now qq.data.toList md = b := ⟨_, rfl⟩
  rw [hb]
  rw [bears_eq] at hb
  have g := (Gr.refl w).alloc (objL f i p m (.slice q a.length c) t s e r)
  have HB := hide (And.intro (g.mod []) (And.intro (heap_alloc_new w (objL f i p m (.slice q a.length c) t s e r)) (hv.gr g)))
  have HC := hide hb
  clear g hb hv
  go_enter Tryz.func50, Tryz.ntmps50
  go_wp2_with fail
  refine (rcovers_any p qq hp hq _).mono ?_
  rintro en w2 ⟨rfl, hm2⟩
  obtain ⟨hm1, bL1, hv1⟩ := HB.out
  have bL := hm2.at_ bL1 (by simp)
  have hv2 := hv1.mod hm2 (by simp)
  have hm := hm1.then hm2
  have CL := blk_cell bL
  obtain ⟨cv, hcv⟩ : ∃ cv, coversB p.data.toList qq.data.toList = cv := ⟨_, rfl⟩
  rw [hcv]
  have HB2 := hide (by have := HC.out; rwa [hcv] at this)
  have HM := hide hm
  have HV := hide hv2
  clear HB hm1 bL1 hv1 hm2 bL hv2 hm hcv HC
  obtain ⟨gb, hgb⟩ : ∃ gb, (decide (m = 2) || (decide (m = 1) && decide (md = 1))) = gb := ⟨_, rfl⟩
  have HB3 := hide (by have := HB2.out; rwa [hgb] at this)
  clear HB2
  have hw : ((m == 2) = true ∧ gb = true) ∨ ((m == 2) = false ∧ (m == 1) = true ∧ (md == 1) = true ∧ gb = true) ∨ ((m == 2) = false ∧ (m == 1) = true ∧ (md == 1) = false ∧ gb = false) ∨ ((m == 2) = false ∧ (m == 1) = false ∧ gb = false) := by
    rw [← hgb]
    by_cases h2 : m = 2
    · exact .inl ⟨by simp [h2], by simp [h2]⟩
    · by_cases h1 : m = 1
      · by_cases h3 : md = 1
        · exact .inr (.inl ⟨by simp [h2], by simp [h1], by simp [h3], by simp [h1, h3]⟩)
        · exact .inr (.inr (.inl ⟨by simp [h2], by simp [h1], by simp [h3], by simp [h2, h3]⟩))
      · exact .inr (.inr (.inr ⟨by simp [h2], by simp [h1], by simp [h1, h2]⟩))
  clear hgb
  have HW := hide hw
  clear hw
  go_upto_region 2 with fail
  go_cut [10] (fun s10 wx => s10 = .bool gb ∧ wx = w2)
  case first =>
    rcases HW.out with ⟨x1, rfl⟩ | ⟨x1, x2, x3, rfl⟩ | ⟨x1, x2, x3, rfl⟩ | ⟨x1, x2, rfl⟩
    all_goals
      clear HW HB3 HV HM
      go_wp2_with fail
      go_meet
      case rel => exact ⟨rfl, rfl⟩
  case rest =>
    obtain ⟨rfl, rfl⟩ := hcut
    clear HW
    cases r
    · by_cases h1 : now < e
      · have hb := HB3.out
        rw [decide_eq_true h1] at hb
        simp only [Bool.not_false, Bool.true_and] at hb
        have HB := hide hb
        clear hb HB3
        cases cv
        · obtain rfl : false = b := HB.out
          clear HB HV
          go_wp2_with fail
          go_ret
          exact ⟨rfl, HM.out⟩
        · go_wp2_with fail
          refine (rmode_any _ _).mono ?_
          rintro en w3 ⟨rfl, rfl⟩
          have hb := HB.out
          simp only [Bool.true_and] at hb
          cases hmo : decide (modeOk md)
          · rw [hmo] at hb
            obtain rfl : false = b := hb
            clear HB HV hmo
            go_wp2_with fail
            go_ret
            exact ⟨rfl, HM.out⟩
          · rw [hmo] at hb
            simp only [Bool.true_and] at hb
            have HB := hide hb
            clear hmo hb
            cases gb
            · obtain rfl : false = b := HB.out
              clear HB HV
              go_wp2_with fail
              go_ret
              exact ⟨rfl, HM.out⟩
            · go_wp2_with fail
              refine (rsvalid_any HV.out).mono ?_
              rintro en w4 ⟨rfl, rfl⟩
              have hb2 : decide (stampOk a) = b := HB.out
              rw [hb2]
              clear HB HV hb2
              go_wp2_with fail
              go_ret
              exact ⟨rfl, HM.out⟩
      · obtain rfl : false = b := by have := HB3.out; rwa [decide_eq_false h1] at this
        clear HB3 HV
        go_wp2_with fail
        go_ret
        exact ⟨rfl, HM.out⟩
    · obtain rfl : false = b := HB3.out
      clear HB3 HV
      go_wp2_with fail
      go_ret
      exact ⟨rfl, HM.out⟩
set_option maxRecDepth 100000 in
set_option maxHeartbeats 1000000 in
theorem rbetter_any {w : World} {f i m t s e f' i' m' t' s' e' : Int} {p p' : ByteArray} {r r' : Bool} {a a' : List Int} {q q' : Option Addr} {c c' : Nat} (hv : RdN w (.slice q a.length c) a) (hv' : RdN w (.slice q' a'.length c') a') :
    Calls Tryz.prog 51 #[.agg #[.int .i64 f, .int .i64 i, .string p, .int .i64 m, .slice q a.length c, .int .i64 t, .int .i64 s, .int .i64 e, .bool r], .agg #[.int .i64 f', .int .i64 i', .string p', .int .i64 m', .slice q' a'.length c', .int .i64 t', .int .i64 s', .int .i64 e', .bool r']] w
      fun en w' => en = .returned (.bool (betterB ⟨f, i, p, m, a, t, s, e, r⟩ ⟨f', i', p', m', a', t', s', e', r'⟩)) ∧ Gr w w' := by
  obtain ⟨b, hb⟩ : ∃ b, betterB ⟨f, i, p, m, a, t, s, e, r⟩ ⟨f', i', p', m', a', t', s', e', r'⟩ = b := ⟨_, rfl⟩
  rw [hb]
  unfold betterB at hb
  simp only at hb
  have g := ((Gr.refl w).alloc (objL f i p m (.slice q a.length c) t s e r)).alloc (objL f' i' p' m' (.slice q' a'.length c') t' s' e' r')
  have h1 := hv.gr g
  have h2 := hv'.gr g
  have HG := hide g
  have HB := hide hb
  clear g hb hv hv'
  by_cases h : e = e'
  · have b1 : (e != e') = false := by simpa using h
    have hb := HB.out
    rw [if_neg (fun x => x h)] at hb
    clear HB h
    go_enter Tryz.func51, Tryz.ntmps51
    go_wp2_with fail
    refine (rcompare_any h1 h2).mono ?_
    rintro en w2 ⟨rfl, hg⟩
    have HB := hide hb
    have HG2 := hide (HG.out.trans hg)
    generalize cmpL a a' = z at HB
    clear hb HG hg h1 h2
    go_wp2_with fail
    go_ret
    exact ⟨by rw [← HB.out]; rfl, HG2.out⟩
  · have b1 : (e != e') = true := by simpa using h
    have hb := HB.out
    rw [if_pos h] at hb
    have HB2 := hide hb
    clear HB h hb h1 h2
    go_enter Tryz.func51, Tryz.ntmps51
    go_wp2_with fail
    go_ret
    exact ⟨by rw [← HB2.out]; rfl, HG.out⟩
def RSmRel (w : World) (l : List Lease) (i : Value) (wr : World) : Prop := ∃ k : Nat, k ≤ l.length ∧ i = .int .i64 k ∧ Gr w wr
set_option maxHeartbeats 2000000 in
set_option maxRecDepth 100000 in
/-- two lists that read alike -/
theorem rsame_eq {w : World} {u v : Value} {fu fv : List Nat} {l : List Lease} (hu : RdLs w u fu l) (hv : RdLs w v fv l) :
    Calls Tryz.prog 25 #[u, v] w fun e w' => e = .returned (.bool true) ∧ Gr w w' := by
  have hlen : l.length ≤ 9223372036854775807 := hu.1
  obtain ⟨p1, c1, rfl⟩ := hu.len
  obtain ⟨p2, c2, rfl⟩ := hv.len
  have hne : ((l.length : Int) != (l.length : Int)) = false := by simp
  go_enter Tryz.func25, Tryz.ntmps25
  go_wp2_with fail
  go_loopw [5] (fun i wr => RSmRel w l i wr) (fun i _ => l.length - (intOf i).toNat)
  case atStart => exact ⟨0, Nat.zero_le _, rfl, Gr.refl _⟩
  case round =>
    obtain ⟨k, hk, rfl, hg⟩ := hrel
    by_cases hlt : k < l.length
    · obtain ⟨b, off, vs, rfl, _, _, hls, c0, c1, c2, c3, c4, c5, c6, c7, c8⟩ := (hu.gr hg).at_ k hlt
      obtain ⟨b', off', vs', rfl, _, _, hls', d0, d1, d2, d3, d4, d5, d6, d7, d8⟩ := (hv.gr hg).at_ k hlt
      have i1 : (0 : Int) ≤ (k : Int) := by omega
      have i2 : (k : Int) < (l.length : Int) := by omega
      generalize l.getD k default = y at hls hls' c0 c1 c2 c3 c4 c5 c6 c7 c8 d0 d1 d2 d3 d4 d5 d6 d7 d8
      obtain ⟨yf, yi, yp, ym, ya, yt, ys, ye, yr⟩ := y
      obtain ⟨qv, cv, hvs⟩ := hls.rd.len
      obtain ⟨qv', cv', hvs'⟩ := hls'.rd.len
      simp only at hvs hvs'
      subst hvs hvs'
      simp only at c0 c1 c2 c3 c4 c5 c6 c7 c8 d0 d1 d2 d3 d4 d5 d6 d7 d8
      have r1 : RdN wr (.slice qv ya.length cv) ya := hls.rd
      have r2 : RdN wr (.slice qv' ya.length cv') ya := hls'.rd
      have HU := hide (And.intro hu hv)
      have HR := hide (And.intro (r1.gr (Gr.refl wr).drew) (r2.gr (Gr.refl wr).drew))
      clear hu hv hls hls' r1 r2
      go_wp2_with fail
      go_still_tail 8, (by kernel_rfl)
      go_wp2_with fail
      refine (sameLease_eq HR.out.1 HR.out.2 yf yi ym yt ys ye yp yr).mono ?_
      rintro en w2 ⟨rfl, hg2⟩
      have HG := hide (hg.drew.trans hg2)
      clear c0 c1 c2 c3 c4 c5 c6 c7 c8 d0 d1 d2 d3 d4 d5 d6 d7 d8 HR hg hg2
      go_wp2_with fail
      go_roundw
      case rel => exact ⟨k + 1, by omega, by go_num, HG.out⟩
      case measure => simp [intOf]; omega
    · obtain rfl : k = l.length := by omega
      clear hu hv
      go_wp2_with fail
      go_ret
      exact ⟨rfl, hg⟩
end Go.Proofs.YtifllaeldcimgaaGreat
