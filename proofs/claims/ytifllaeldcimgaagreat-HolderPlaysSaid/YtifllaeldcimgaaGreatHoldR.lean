/-
  WALKS: layer 17: Renewed.
-/
import Derived.Test.YtifllaeldcimgaaGreatHoldA
import Derived.Deep.RegionLaw
import Derived.Deep.RegionWith
import Derived.Deep.DrawnRows
namespace Go.Proofs.YtifllaeldcimgaaGreat
open Go.RowKit
attribute [local go_sem ↓] Go.wp_at_zero Go.wp_at_succ
def renewOk (x : Lease) (now sent : Int) (stamp : List Int) (t : Int) : Prop := x.recd = false ∧ momOk now sent ∧ legalT t ∧ stampedOk stamp
instance (x : Lease) (now sent : Int) (stamp : List Int) (t : Int) : Decidable (renewOk x now sent stamp t) := by unfold renewOk; exact inferInstance
def renewL (rho sent : Int) (stamp : List Int) (t : Int) (x : Lease) : Lease := { x with expiry := max x.expiry (sent + shrinkI t rho), sent := max x.sent sent, stamp := laterL x.stamp stamp, term := t }
def renewedS (rho : Int) (l : List Lease) (now sent : Int) (k : Key) (stamp : List Int) (t : Int) : List Lease × Bool :=
  match getL l k with
  | some x => if renewOk x now sent stamp t then (putL (renewL rho sent stamp t x) l, true) else (l, false)
  | none => (l, false)
theorem hrenewed_nil (now sent f i t : Int) (v : Value) (w : World) : Calls Tryz.prog 8 #[.pointer none, .int .i64 now, .int .i64 sent, .int .i64 f, .int .i64 i, v, .int .i64 t] w fun e w' => e = .returned (.bool false) ∧ Mod [] w w' := by
  go_enter Tryz.func8, Tryz.ntmps8
  go_wp2_with fail
  refine (hget_nil _ _ _).mono ?_
  rintro e w1 ⟨v, rfl, hr, hm⟩
  obtain ⟨p, c, hv⟩ := (RdN.of_row hr).len
  subst hv
  clear hr
  simp only [aggL, cellsL, Option.getD_none, Lease.zero, Option.isSome]
  go_wp2_with fail
  go_ret
  exact ⟨rfl, hm.alloc _⟩
theorem later_ok {a b : List Int} (ha : stampedOk a) (hb : stampedOk b) : stampedOk (laterL a b) := by
  unfold laterL
  split
  · exact hb
  · exact ha
theorem renew_okL {rho sent now t : Int} {stamp : List Int} {x : Lease} (hr : 0 ≤ rho ∧ rho ≤ 999) (hx : okL x) (h : renewOk x now sent stamp t) : okL (renewL rho sent stamp t x) := by
  obtain ⟨h1, ⟨m1, m2, m3⟩, h3, h4⟩ := h
  have ht : termOk t rho := ⟨by have := h3.1; omega, h3.2, hr.1, hr.2⟩
  have hb := shrinkI_bound ht
  obtain ⟨a, b, c, d, e, f, g, i, j⟩ := hx
  refine ⟨a, b, c, later_ok d h4, h3, ?_, ?_, ?_, ?_⟩ <;> simp only [renewL] <;> omega
set_option maxHeartbeats 4000000 in
set_option maxRecDepth 100000 in
theorem hrenewed_any {w : World} {ph pm : Nat} {fs : List Nat} {rho : Int} {l : List Lease} (h : Hd w ph pm fs rho l) (now sent f i t : Int) (a : List Int) (q : Option Addr) (c : Nat) (hf : i64w f) (hi : i64w i)
    (hv : RdN w (.slice q a.length c) a) :
    Calls Tryz.prog 8 #[.pointer (some ⟨ph, 0, none⟩), .int .i64 now, .int .i64 sent, .int .i64 f, .int .i64 i, .slice q a.length c, .int .i64 t] w fun e w' => HdB w ph pm fs rho (renewedS rho l now sent (f, i) a t) e w' := by
  have hok : nameT.ok (f, i) := ⟨hf, hi⟩
  go_enter Tryz.func8, Tryz.ntmps8
  go_wp2_with fail
  refine (hget_any h f i hf hi).mono ?_
  rintro e w1 ⟨v, rfl, hr, hm⟩
  obtain ⟨p, c, hv'⟩ := (RdN.of_row hr).len
  subst hv'
  have hob := ob_row hr
  have hrd := RdN.of_row hr
  simp only [aggL, cellsL]
  cases hg : getL l (f, i) with
  | none =>
    have e0 : renewedS rho l now sent (f, i) a t = (l, false) := by simp [renewedS, hg]
    have E0 := hide e0
    simp only [Option.getD_none, Lease.zero, Option.isSome]
    clear hr hg e0 hob hrd hv
    go_wp2_with fail
    go_ret
    rw [E0.out]
    exact ⟨rfl, fs, (h.same hm).gr ((Gr.refl w1).alloc _), HdTo.same (hm.alloc _)⟩
  | some x =>
    obtain ⟨hx, hkx⟩ := getL_some hg
    have hxok := h.ok x hx
    have hrn : ¬ renewOk x now sent a t → renewedS rho l now sent (f, i) a t = (l, false) := fun h => by simp [renewedS, hg, h]
    have hrp : renewOk x now sent a t → renewedS rho l now sent (f, i) a t = (putL (renewL rho sent a t x) l, true) := fun h => by simp [renewedS, hg, h]
    obtain ⟨xf, xi, xp, xm, xa, xt, xs, xe, xr⟩ := x
    simp only [hg, Option.getD_some, Option.isSome] at hr hob hrd ⊢
    have fin : ∀ W, Mod [] w1 W → renewedS rho l now sent (f, i) a t = (l, false) → HdB w ph pm fs rho (renewedS rho l now sent (f, i) a t) (.returned (.bool false)) W := fun W md e0 => by
      rw [e0]
      exact ⟨rfl, fs, (h.same hm).same md, HdTo.same (hm.then md)⟩
    have FIN := hide fin
    have ma := ((Gr.refl w1).alloc (objL xf xi xp xm (.slice p xa.length c) xt xs xe xr)).mod []
    have hvw := hv.mod hm (by simp)
    have hv1 := (hv.mod hm (by simp)).gr ((Gr.refl w1).alloc (objL xf xi xp xm (.slice p xa.length c) xt xs xe xr))
    clear fin hv
    cases xr
    · by_cases m1 : momOk now sent
      · have d1 := hide (decide_eq_true m1)
        by_cases m2 : legalT t
        · have d2 := hide (decide_eq_true m2)
          by_cases m3 : stampedOk a
          · have d3 := hide (decide_eq_true m3)
            have hre := hrp ⟨rfl, m1, m2, m3⟩
            have hto : termOk t rho := ⟨by have := m2.1; omega, m2.2, h.rhoOk.1, h.rhoOk.2⟩
            have hH1 := h.same hm
            have hc00 := hH1.cell0
            have hlt := hH1.lt.1
            have hxl : xa.length ≤ 4 := okL_stamp hxok
            have hal : a.length ≤ 4 := m3.2.1
            have hrk := renew_okL h.rhoOk hxok ⟨rfl, m1, m2, m3⟩
            have HX := hide (And.intro hre (And.intro hrk (And.intro hx (And.intro hkx (And.intro hob (And.intro hm (And.intro hH1 h)))))))
            obtain ⟨u, hu⟩ : ∃ u, sent + shrinkI t rho = u := ⟨_, rfl⟩
            have HU := hide hu
            obtain ⟨b1, b2, b3⟩ := m1
            have hmx := (⟨b1, by omega⟩ : 0 ≤ sent ∧ sent ≤ 1152921504606846976)
            have hms : RdN w1 (.slice p xa.length c) xa := hrd
            clear hu hre hrk hxok hx hkx hrd hob hm hH1 h hg hrn hrp m2 m3 hr b1 b2 b3
            go_wp2_with fail
            refine (mom_any _ _ _).mono ?_
            rintro en w' ⟨rfl, rfl⟩
            rw [d1.out]
            clear d1
            go_wp2_with fail
            refine (lgl_any _ _).mono ?_
            rintro en w' ⟨rfl, rfl⟩
            rw [d2.out]
            clear d2
            go_wp2_with fail
            refine (stp_any hv1).mono ?_
            rintro en w' ⟨rfl, rfl⟩
            rw [d3.out]
            clear d3
            go_upto_region 4 with fail
            go_cut [] (fun wx => wx = (w1.alloc (objL xf xi xp xm (.slice p xa.length c) xt (max xs sent) (max xe u) false)).drew)
            case first =>
              clear FIN HX ma hvw hv1 hms hxl hal hok
              go_region_with ((go_at_call 37; refine (until_any (((Gr.refl w1).alloc _).drew.kept hc00) sent t hto hmx.1 hmx.2).mono ?_; rintro en w' ⟨rfl, rfl⟩; rw [HU.out]))
              all_goals
                go_wp2_with fail
                go_meet
                case rel => rfl
            case rest =>
              subst hcut
              have g4 := ((Gr.refl w1).alloc (objL xf xi xp xm (.slice p xa.length c) xt (max xs sent) (max xe u) false)).drew
              have hms4 := hms.gr g4
              have hv4 := hvw.gr g4
              have hb4 := heap_alloc_new w1 (objL xf xi xp xm (.slice p xa.length c) xt (max xs sent) (max xe u) false)
              obtain ⟨W, hW⟩ : ∃ W, W = (w1.alloc (objL xf xi xp xm (.slice p xa.length c) xt (max xs sent) (max xe u) false)).drew := ⟨_, rfl⟩
              change ((w1.alloc (objL xf xi xp xm (.slice p xa.length c) xt (max xs sent) (max xe u) false)).drew).heap[w1.heap.size]? = _ at hb4
              rw [← hW] at g4 hms4 hv4 hb4 ⊢
              have hC4 := blk_cell hb4
              have hl4 := lt_of_block hb4
              have HB4 := hide (And.intro g4 hb4)
              clear hW g4 hms hvw hb4 hv1
              go_wp2_with fail
              refine (later_any hms4 hv4 (by omega) (by omega)).mono ?_
              rintro en w5 ⟨v5, rfl, hr5, hm5⟩
              obtain ⟨g4, hb4⟩ := HB4.out
              have hb5 := hm5.at_ hb4 (by simp)
              have hC5 := blk_cell hb5
              have hF5 := blk_free hb5
              have hl5 := lt_of_block hb5
              have hob5 := ob_row hr5
              obtain ⟨p5, c5, hv5⟩ := (RdN.of_row hr5).len
              subst hv5
              have HR5 := hide (And.intro hr5 (And.intro hm5 (And.intro hob5 (And.intro g4 hb5))))
              clear hr5 hm5 hob5 g4 hb4 hC4 hms4 hv4 HB4 hb5
              go_wp2_with fail
              obtain ⟨hr5, hm5, hob5, g4, hb5⟩ := HR5.out
              obtain ⟨hre, hrk, hx, hkx, hob, hm, hH1, h⟩ := HX.out
              have hb6 := blk_set (blk_set hb5 4 (.slice p5 (laterL xa a).length c5)) 5 (.int .i64 t)
              change _ = some (objL xf xi xp xm (.slice p5 (laterL xa a).length c5) t (max xs sent) (max xe u) false) at hb6
              have m6 := (((g4.mod []).then hm5).setCell (p := ⟨w1.heap.size, 4, none⟩) (fun e => absurd e (Nat.lt_irrefl _)) (.slice p5 (laterL xa a).length c5)).setCell (p := ⟨w1.heap.size, 5, none⟩) (fun e => absurd e (Nat.lt_irrefl _)) (.int .i64 t)
              have mb6 := ((Mod.refl [w1.heap.size] w5).setCell (p := ⟨w1.heap.size, 4, none⟩) (fun _ => by simp) (.slice p5 (laterL xa a).length c5)).setCell (p := ⟨w1.heap.size, 5, none⟩) (fun _ => by simp) (.int .i64 t)
              have hrd6 := (RowI.of hr5).mod mb6 (fun k hk e => by have := hob5 k hk; simp at e; omega)
              obtain ⟨W6, hW6⟩ : ∃ W6, W6 = (w5.setCell ⟨w1.heap.size, 4, none⟩ (.slice p5 (laterL xa a).length c5)).setCell ⟨w1.heap.size, 5, none⟩ (.int .i64 t) := ⟨_, rfl⟩
              have hsz6 : W6.heap.size = w5.heap.size := by rw [hW6]; simp
              rw [← hW6] at hb6 m6 hrd6 ⊢
              have h6 := hH1.same m6
              have h7 := h6.gr (Gr.refl W6).drew
              have hrr : renewL rho sent a t ⟨xf, xi, xp, xm, xa, xt, xs, xe, false⟩ = ⟨xf, xi, xp, xm, laterL xa a, t, max xs sent, max xe u, false⟩ := by
                unfold renewL
                simp only
                rw [HU.out]
              rw [hrr] at hrk hre
              have hlen : (putL ⟨xf, xi, xp, xm, laterL xa a, t, max xs sent, max xe u, false⟩ l).length ≤ 8 := by
                have h2 := putL_len h.srt ⟨xf, xi, xp, xm, laterL xa a, t, max xs sent, max xe u, false⟩
                have h3 := delL_lt hx
                have h4 := h.small
                simp only [keyL] at h2 h3
                omega
              obtain ⟨L, hL, hL2, hL3, hst⟩ := h7.store ⟨xf, xi, xp, xm, laterL xa a, t, max xs sent, max xe u, false⟩ (.slice p5 (laterL xa a).length c5) hrk hlen (hrd6.gr (Gr.refl W6).drew) (fun k hk => by
                have h2 := hob5 k hk
                have h3 := hH1.lt
                have h4 := g4.size
                show k ≠ pm ∧ k ≠ ph ∧ k < W6.heap.size
                omega)
              have hkx' : (xf, xi) = (f, i) := hkx
              simp only [keyL, aggL, cellsL, hkx'] at hL3 hst
              have hc : W6.cell? ⟨ph, 1, none⟩ = _ := h6.cell1
              have hC := blk_cell hb6
              have hsz4 : w1.heap.size ≤ W.heap.size := by omega
              have HF := hide (And.intro hre (And.intro hob5 (And.intro hm m6)))
              clear hW6 HR5 hr5 hm5 hob5 g4 hb5 hre hrk hx hkx hkx' hob hm hH1 h HX hb6 m6 mb6 hrd6 h6 h7 hrr hlen hC5 hF5
              go_still_tail 8, (by kernel_rfl)
              change wpList _ _ _ _ _ W6.drew
              go_wp2_with (
                at_mapUpdate
                refine wpList_store_L (T := nameT) _ rfl _ _ _ rfl Tryz.underlying62 rfl hL hL2 hok rfl _ rfl ?_
                intro w8 q1 q2
                have q := hst w8 q1 q2
                clear hL hst q1 q2 hc hC)
              go_ret
              obtain ⟨hre, hob5, hm, m6⟩ := HF.out
              rw [hre]
              refine ⟨rfl, _, q.1, ((hm.then m6).drew.mono (by simp)).then q.2, fun k hk => ?_⟩
              rcases List.mem_append.1 hk with x | x
              · exact .inl x
              · have := hm.size
                have := (hob5 k x).1
                exact .inr (by omega)
          · have d3 := hide (decide_eq_false m3)
            have E0 := hide (hrn (fun x => m3 x.2.2.2))
            clear hr hg hob hrd m1 m2 m3 hrn hrp hx hkx hxok
            go_wp2_with fail
            refine (mom_any _ _ _).mono ?_
            rintro en w' ⟨rfl, rfl⟩
            rw [d1.out]
            clear d1
            go_wp2_with fail
            refine (lgl_any _ _).mono ?_
            rintro en w' ⟨rfl, rfl⟩
            rw [d2.out]
            clear d2
            go_wp2_with fail
            refine (stp_any hv1).mono ?_
            rintro en w' ⟨rfl, rfl⟩
            rw [d3.out]
            clear d3
            go_wp2_with fail
            go_ret
            exact FIN.out _ ma E0.out
        · have d2 := hide (decide_eq_false m2)
          have E0 := hide (hrn (fun x => m2 x.2.2.1))
          clear hr hg hob hrd m1 m2 hrn hrp hx hkx hxok
          go_wp2_with fail
          refine (mom_any _ _ _).mono ?_
          rintro en w' ⟨rfl, rfl⟩
          rw [d1.out]
          clear d1
          go_wp2_with fail
          refine (lgl_any _ _).mono ?_
          rintro en w' ⟨rfl, rfl⟩
          rw [d2.out]
          clear d2
          go_wp2_with fail
          go_ret
          exact FIN.out _ ma E0.out
      · have d1 := hide (decide_eq_false m1)
        have E0 := hide (hrn (fun x => m1 x.2.1))
        clear hr hg hob hrd m1 hrn hrp hx hkx hxok
        go_wp2_with fail
        refine (mom_any _ _ _).mono ?_
        rintro en w' ⟨rfl, rfl⟩
        rw [d1.out]
        clear d1
        go_wp2_with fail
        go_ret
        exact FIN.out _ ma E0.out
    · have E0 := hide (hrn (fun x => by cases x.1))
      clear hr hg hob hrd hrn hrp hx hkx hxok
      go_wp2_with fail
      go_ret
      exact FIN.out _ ma E0.out
end Go.Proofs.YtifllaeldcimgaaGreat
