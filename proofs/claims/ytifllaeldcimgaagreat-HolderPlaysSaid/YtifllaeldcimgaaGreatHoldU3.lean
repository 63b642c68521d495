/-
  WALKS: layer 17: Use's order of preference; slices.MinFunc at leases.
-/
import Derived.Test.YtifllaeldcimgaaGreatHoldU2
import Derived.Deep.RegionHeld3
import Derived.Deep.DrawnRows
namespace Go.Proofs.YtifllaeldcimgaaGreat
open Go.RowKit
attribute [local go_sem ↓] Go.wp_at_zero Go.wp_at_succ

/-- below 0: x is preferred to y -/
def prefI (x y : Lease) : Int := orInt [cmpInt y.expiry x.expiry, cmpL y.stamp x.stamp, cmpInt x.frm y.frm, cmpInt x.id y.id]
theorem get4 {w : World} {b : Nat} {x y z u : Int} (h0 : w.cell? ⟨b, 0, none⟩ = some (.int .i64 x)) (h1 : w.cell? ⟨b, 1, none⟩ = some (.int .i64 y)) (h2 : w.cell? ⟨b, 2, none⟩ = some (.int .i64 z)) (h3 : w.cell? ⟨b, 3, none⟩ = some (.int .i64 u)) :
    ∀ k, k < [x, y, z, u].length → w.cell? ⟨b, k, none⟩ = some (.int .i64 ([x, y, z, u].getD k 0)) := by
  intro k hk
  match k, hk with
  | 0, _ => exact h0
  | 1, _ => exact h1
  | 2, _ => exact h2
  | 3, _ => exact h3
set_option maxHeartbeats 2000000 in
set_option maxRecDepth 100000 in
theorem use2_raw {w : World} (f i m t s e f' i' m' t' s' e' : Int) (p p' : ByteArray) (r r' : Bool) {a a' : List Int} {q q' : Option Addr} {c c' : Nat} (hv : RdN w (.slice q a.length c) a) (hv' : RdN w (.slice q' a'.length c') a') :
    Calls Tryz.prog 44 #[.agg #[.int .i64 f, .int .i64 i, .string p, .int .i64 m, .slice q a.length c, .int .i64 t, .int .i64 s, .int .i64 e, .bool r], .agg #[.int .i64 f', .int .i64 i', .string p', .int .i64 m', .slice q' a'.length c', .int .i64 t', .int .i64 s', .int .i64 e', .bool r']] w
      fun en w' => en = .returned (.int .i64 (prefI ⟨f, i, p, m, a, t, s, e, r⟩ ⟨f', i', p', m', a', t', s', e', r'⟩)) ∧ Gr w w' := by
  unfold prefI
  simp only
  go_enter Tryz.func44, Tryz.ntmps44
  go_wp2_with fail
  go_region_held3 (fun w' => w'.cell? ⟨w.heap.size, 0, none⟩ = some (.int .i64 f) ∧ w'.cell? ⟨w.heap.size, 1, none⟩ = some (.int .i64 i) ∧ w'.cell? ⟨w.heap.size, 4, none⟩ = some (.slice q a.length c) ∧ w'.cell? ⟨w.heap.size, 7, none⟩ = some (.int .i64 e) ∧
      w'.cell? ⟨w.heap.size + 1, 0, none⟩ = some (.int .i64 f') ∧ w'.cell? ⟨w.heap.size + 1, 1, none⟩ = some (.int .i64 i') ∧ w'.cell? ⟨w.heap.size + 1, 4, none⟩ = some (.slice q' a'.length c') ∧ w'.cell? ⟨w.heap.size + 1, 7, none⟩ = some (.int .i64 e'))
    (first | go_keep | (go_split_ands; refine ⟨?_, ?_, ?_, ?_, ?_, ?_, ?_, ?_⟩ <;> (refine hg9.kept ?_; assumption)))
    (first | (go_at_call 46; refine (compare_int _ _ _).mono ?_; rintro e w' ⟨rfl, rfl⟩) | (go_at_call 47; refine (scompare_any (hv'.gr (by repeat (first | exact Gr.refl _ | apply Gr.drew | apply Gr.alloc))) (hv.gr (by repeat (first | exact Gr.refl _ | apply Gr.drew | apply Gr.alloc)))).mono ?_; rintro e w' ⟨rfl, hg9⟩) | (go_at_call 45; refine (or_int _ 4 _ [cmpInt e' e, cmpL a' a, cmpInt f f', cmpInt i i'] _ rfl (by simp) (get4 (by go_simp) (by go_simp) (by go_simp) (by go_simp))).mono ?_; rintro e w' ⟨rfl, rfl⟩))
  all_goals
    have HG := hide hg9
    clear hg9
    go_wp2_with fail
    go_ret
    exact ⟨rfl, ((((Gr.refl w).alloc _).alloc _).drew.trans HG.out).alloc _⟩
def minF (b : SL) : List SL → SL
  | [] => b
  | x :: r => minF (if prefI x.1 b.1 < 0 then x else b) r
theorem minF_cons (b x : SL) (r : List SL) : minF b (x :: r) = minF (if prefI x.1 b.1 < 0 then x else b) r := rfl
theorem minF_mem (l : List SL) : ∀ b, minF b l = b ∨ minF b l ∈ l := by
  induction l with
  | nil => intro b; exact .inl rfl
  | cons x r ih =>
    intro b
    unfold minF
    rcases ih (if prefI x.1 b.1 < 0 then x else b) with h | h
    · rw [h]
      by_cases hx : prefI x.1 b.1 < 0
      · rw [if_pos hx]; exact .inr List.mem_cons_self
      · rw [if_neg hx]; exact .inl rfl
    · exact .inr (List.mem_cons_of_mem _ h)
abbrev objS (s : SL) : Obj := .cells (cellsL s.1 (pr s).2) 36 (0, 0)
def UMin (w : World) (d : List SL) (mb rb : Nat) (gh : Nat) (s6 : Value) (wr : World) : Prop :=
  ∃ (k : Nat) (b : SL), s6 = .int .i64 k ∧ k + gh = d.length ∧ 1 ≤ k ∧ Hid (minF b (d.drop k) = minF (d.getD 0 default) (d.drop 1)) ∧ (b ∈ d) ∧ wr.heap[mb]? = some (objS b) ∧ wr.heap[rb]? = some (objS (Lease.zero, none, 0)) ∧ Mod [] w wr
set_option maxHeartbeats 2000000 in
set_option maxRecDepth 100000 in
theorem umin_any {w : World} {g cap : Nat} {d : List SL} {f : List Nat} (hR : RowS w g d) (hn : d.length ≤ 100000) (h0 : 0 < d.length) (hs : ∀ s, s ∈ d → LsV w f (pr s)) :
    Calls Tryz.prog 43 #[.slice (some ⟨g, 0, none⟩) d.length cap, .func (.func 44) #[] #[]] w fun e w' =>
      e = .returned (aggL (minF (d.getD 0 default) (d.drop 1)).1 (pr (minF (d.getD 0 default) (d.drop 1))).2) ∧ Mod [] w w' := by
  obtain ⟨f', i', p', m', a', t', s', e', r', q', c', hdk, k0, k1, k2, k3, k4, k5, k6, k7, k8⟩ := hR.at_ 0 h0
  simp only [Nat.zero_mul, Nat.zero_add] at k0 k1 k2 k3 k4 k5 k6 k7 k8
  have i2 : (0 : Int) < (d.length : Int) := by omega
  have HD := hide hdk
  have hlg := hR.lt
  clear hdk
  go_enter Tryz.func43, Tryz.ntmps43
  go_wp2_with fail
  clear k0 k1 k2 k3 k4 k5 k6 k7 k8
  go_loopg [6] (d.length - 1) (fun gh s6 wr => UMin w d (w.heap.size + 1) w.heap.size gh s6 wr)
  case atStart =>
    refine ⟨1, d.getD 0 default, by go_num, by omega, by omega, rfl, by simp [h0], ?_, ?_, (((Gr.refl w).alloc _).alloc _).mod _⟩
    · rw [HD.out]
      have := heap_alloc_new (w.alloc (objS (Lease.zero, none, 0))) (objL f' i' p' m' (.slice q' a'.length c') t' s' e' r')
      have e : (w.alloc (objS (Lease.zero, none, 0))).heap.size = w.heap.size + 1 := by simp
      rw [e] at this
      exact this
    · have := blk_alloc (heap_alloc_new w (objS (Lease.zero, none, 0))) (objL f' i' p' m' (.slice q' a'.length c') t' s' e' r')
      exact this
  case round =>
    obtain ⟨k, b, rfl, hk, hk1, hmin, hbm, hmb, hrb, hmw⟩ := hrel
    obtain ⟨⟨xf, xi, xp, xm, xa, xt, xs, xe, xr⟩, xq, xc⟩ := b
    have hC : ∀ o, wr.cell? ⟨w.heap.size + 1, o, none⟩ = (#[.int .i64 xf, .int .i64 xi, .string xp, .int .i64 xm, .slice xq xa.length xc, .int .i64 xt, .int .i64 xs, .int .i64 xe, .bool xr] : Array Value)[o]? := blk_cell hmb
    have hvb := (hs _ hbm).mod hmw (by simp)
    have hlm := lt_of_block hmb
    have HB := hide (And.intro hbm (And.intro hmb (And.intro hrb hmw)))
    have hRr := hR.mod hmw (by simp)
    by_cases hlt : k < d.length
    · obtain ⟨yf, yi, yp, ym, ya, yt, ys, ye, yr, yq, yc, hdk, k0, k1, k2, k3, k4, k5, k6, k7, k8⟩ := hRr.at_ k hlt
      have hmem : d.getD k default ∈ d := by simp [hlt]
      have hv := (hs _ hmem).mod hmw (by simp)
      rw [hdk] at hv hmem
      have i0 : (0 : Int) ≤ (k : Int) := by omega
      have i1 : (k : Int) < (d.length : Int) := by omega
      have hstep : d.drop k = (⟨yf, yi, yp, ym, ya, yt, ys, ye, yr⟩, yq, yc) :: d.drop (k + 1) := by
        rw [List.drop_eq_getElem_cons hlt]
        congr 1
        simpa [hlt] using hdk
      have hm2 := hmin.out
      rw [hstep] at hm2
      rw [minF_cons] at hm2
      have HK := hide (And.intro hm2 hmem)
      have hv1 : RdN wr.drew (.slice yq ya.length yc) ya := hv.rd.gr (Gr.refl wr).drew
      have hv2 : RdN wr.drew (.slice xq xa.length xc) xa := hvb.rd.gr (Gr.refl wr).drew
      clear hdk hmem hv hvb hstep hm2 hmin hmb hrb hmw hbm
      obtain ⟨gh, rfl⟩ : ∃ x, gk = x + 1 := ⟨gk - 1, by omega⟩
      go_wp2_with fail
      go_still_tail 6, (by kernel_rfl)
      change wpList _ _ _ _ _ wr.drew
      go_wp2_with fail
      refine (use2_raw _ _ _ _ _ _ _ _ _ _ _ _ _ _ _ _ hv1 hv2).mono ?_
      rintro en w2 ⟨rfl, hg2⟩
      have hgw := (Gr.refl wr).drew.trans hg2
      obtain ⟨hbm, hmb, hrb, hmw⟩ := HB.out
      have hmb2 := (hgw.mod []).at_ hmb (by simp)
      have hrb2 := (hgw.mod []).at_ hrb (by simp)
      have hmw2 := hmw.gr hgw
      have hRr2 := hRr.gr hgw
      have hC2 : ∀ o, w2.cell? ⟨w.heap.size + 1, o, none⟩ = (#[.int .i64 xf, .int .i64 xi, .string xp, .int .i64 xm, .slice xq xa.length xc, .int .i64 xt, .int .i64 xs, .int .i64 xe, .bool xr] : Array Value)[o]? := blk_cell hmb2
      have hF2 := blk_free hmb2
      replace k0 := hgw.kept k0
      replace k1 := hgw.kept k1
      replace k2 := hgw.kept k2
      replace k3 := hgw.kept k3
      replace k4 := hgw.kept k4
      replace k5 := hgw.kept k5
      replace k6 := hgw.kept k6
      replace k7 := hgw.kept k7
      replace k8 := hgw.kept k8
      have HB2 := hide (And.intro hbm (And.intro hmb2 (And.intro hrb2 hmw2)))
      have hlm2 := lt_of_block hmb2
      clear hbm hmb hrb hmw hmb2 hrb2 hmw2 hC hg2 hgw hRr HB
      generalize hz : prefI ⟨yf, yi, yp, ym, ya, yt, ys, ye, yr⟩ ⟨xf, xi, xp, xm, xa, xt, xs, xe, xr⟩ = z
      have HZ := hide hz
      clear hz
      by_cases hz0 : z < 0
      · go_wp2_with fail
        go_roundg gh
        case measure => omega
        case rel =>
          obtain ⟨hbm, hmb2, hrb2, hmw2⟩ := HB2.out
          obtain ⟨hm2, hmem⟩ := HK.out
          rw [if_pos (by rw [HZ.out]; exact hz0)] at hm2
          have q := st9_heap hmb2 rfl (.int .i64 yf) (.int .i64 yi) (.string yp) (.int .i64 ym) (.slice yq ya.length yc) (.int .i64 yt) (.int .i64 ys) (.int .i64 ye) (.bool yr)
          have qm := st9_mod w2 w2 (Mod.refl [w.heap.size + 1] w2) (w.heap.size + 1) (fun _ => by simp) (.int .i64 yf) (.int .i64 yi) (.string yp) (.int .i64 ym) (.slice yq ya.length yc) (.int .i64 yt) (.int .i64 ys) (.int .i64 ye) (.bool yr)
          exact ⟨k + 1, (⟨yf, yi, yp, ym, ya, yt, ys, ye, yr⟩, yq, yc), by go_num, by omega, by omega, hm2, hmem, q, qm.at_ hrb2 (by simp), hmw2.trans qm (by simp) (fun x hx hlt => by simp at hx; omega)⟩
      · clear k0 k1 k2 k3 k4 k5 k6 k7 k8 hC2 hF2
        go_wp2_with fail
        go_roundg gh
        case measure => omega
        case rel =>
          obtain ⟨hbm, hmb2, hrb2, hmw2⟩ := HB2.out
          obtain ⟨hm2, hmem⟩ := HK.out
          rw [if_neg (by rw [HZ.out]; exact Int.not_lt.2 hz0)] at hm2
          exact ⟨k + 1, _, by go_num, by omega, by omega, hm2, hbm, hmb2, hrb2, hmw2⟩
    · have hke : k = d.length := by omega
      subst hke
      have hfin := hmin.out
      rw [List.drop_length] at hfin
      have HF := hide hfin
      have hFr := blk_free hrb
      have hCr : ∀ o, wr.cell? ⟨w.heap.size, o, none⟩ = (cellsL Lease.zero (.slice none 0 0))[o]? := blk_cell hrb
      have hlr := lt_of_block hrb
      clear hfin hRr hvb hmb hrb hmw hbm hmin
      simp only [cellsL, Lease.zero] at hCr
      go_wp2_with fail
      obtain ⟨hbm, hmb2, hrb2, hmw2⟩ := HB.out
      have q := st9_heap hrb2 rfl (.int .i64 xf) (.int .i64 xi) (.string xp) (.int .i64 xm) (.slice xq xa.length xc) (.int .i64 xt) (.int .i64 xs) (.int .i64 xe) (.bool xr)
      have qm := st9_mod wr wr (Mod.refl [w.heap.size] wr) w.heap.size (fun _ => by simp) (.int .i64 xf) (.int .i64 xi) (.string xp) (.int .i64 xm) (.slice xq xa.length xc) (.int .i64 xt) (.int .i64 xs) (.int .i64 xe) (.bool xr)
      refine bodyPost_ret (v := aggL ⟨xf, xi, xp, xm, xa, xt, xs, xe, xr⟩ (.slice xq xa.length xc)) (res_cell1 Tryz.results43 _ _ rfl q Tryz.isAgg36 Tryz.sizeOf36) rfl ⟨?_, hmw2.trans qm (by simp) (fun x hx hlt => by simp at hx; omega)⟩
      rw [← HF.out]
      rfl
end Go.Proofs.YtifllaeldcimgaaGreat
