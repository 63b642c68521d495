/-
  WALKS: the document's layer 17: Recall, Renewed, Add. (The great seat alone.)
-/
import Derived.Test.YtifllaeldcimgaaGreatRefHold2
import Derived.Test.YtifllaeldcimgaaGreatRefHold3
import Derived.Deep.RegionHeld3
namespace Go.Proofs.YtifllaeldcimgaaGreat
open Go.RowKit

theorem DocL.from {w w1 w2 : World} {f : List Nat} {l' : List Lease} {v' : Value} (m : Mod [] w w1) (h : DocL w1 f l' v' w2) : DocL w f l' v' w2 := by
  obtain ⟨f', a, b, c⟩ := h
  refine ⟨f', a, fun k hk => (b k hk).imp id (fun h => ?_), m.then c⟩
  have := m.size; omega
theorem DocL.md {w w' : World} {f : List Nat} {l' : List Lease} {v' : Value} (h : DocL w f l' v' w') : Mod [] w w' := by
  obtain ⟨f', a, b, c⟩ := h
  exact c
theorem DocL.shape {w w' : World} {f : List Nat} {l' : List Lease} {v' : Value} (h : DocL w f l' v' w') : ∃ p c, v' = .slice p l'.length c := by
  obtain ⟨f', a, b, c⟩ := h
  exact a.rd.len
theorem putGo_small {l : List Lease} (hs : SrtL l) (hsm : l.length ≤ 8) (x : Lease) : (putGo x l false).length ≤ 1000 := by
  rw [putGo_eq hs, putL_len hs]
  have := delL_le l (keyL x)
  omega
theorem Dc.self {w w' : World} {v : Value} {f : List Nat} {l : List Lease} (h : Dc w v f l) (m : Mod [] w w') : DocL w f l v w' := ⟨f, h.same m, fun _ hk => .inl hk, m⟩
/-- a new list is stored into the result's box -/
theorem DocL.box {w w3 w4 : World} {f : List Nat} {l' : List Lease} {v' : Value} {b1 : Nat} (rho : Int) (h : DocL w3 f l' v' w4) (hm : Mod [] w w3) (hb : w.heap.size ≤ b1) (hf : ∀ k, k ∈ f → k < w.heap.size) (hbox : w3.heap[b1]? = some (objD 0 (.slice none 0 0))) :
    ((w4.setCell ⟨b1, 0, none⟩ (.int .i64 rho)).setCell ⟨b1, 1, none⟩ v').heap[b1]? = some (objD rho v') ∧ DocL w f l' v' ((w4.setCell ⟨b1, 0, none⟩ (.int .i64 rho)).setCell ⟨b1, 1, none⟩ v') := by
  obtain ⟨f', a, b, c⟩ := h
  have hb3 := lt_of_block hbox
  have hbox4 := c.at_ hbox (by simp)
  have m2 : Mod [b1] w4 ((w4.setCell ⟨b1, 0, none⟩ (.int .i64 rho)).setCell ⟨b1, 1, none⟩ v') := ((Mod.refl [b1] w4).setCell (fun _ => by simp) _).setCell (fun _ => by simp) _
  refine ⟨blk_set (blk_set hbox4 0 (.int .i64 rho)) 1 v', f', a.mod m2 (fun k hk e => ?_), fun k hk => (b k hk).imp id (fun h => by have := hm.size; omega), (hm.then c).trans m2 (by simp) (fun x hx hlt => by simp at hx; omega)⟩
  have e' : k = b1 := by simpa using e
  rcases b k hk with h | h
  · have := hf k h; omega
  · omega
/-- the list itself is stored into the result's box -/
theorem Dc.box {w w3 : World} {f : List Nat} {l : List Lease} {v : Value} {b1 : Nat} (rho : Int) (h : Dc w v f l) (hm : Mod [] w w3) (hb : w.heap.size ≤ b1) (hbox : w3.heap[b1]? = some (objD 0 (.slice none 0 0))) :
    ((w3.setCell ⟨b1, 0, none⟩ (.int .i64 rho)).setCell ⟨b1, 1, none⟩ v).heap[b1]? = some (objD rho v) ∧ DocL w f l v ((w3.setCell ⟨b1, 0, none⟩ (.int .i64 rho)).setCell ⟨b1, 1, none⟩ v) :=
  DocL.box rho ((h.same hm).self (Mod.refl _ _)) hm hb h.lt hbox
set_option maxHeartbeats 2000000 in
set_option maxRecDepth 100000 in
theorem rrecall_any {w : World} {v : Value} {fl : List Nat} {l : List Lease} (h : Dc w v fl l) (hs : SrtL l) (hsm : l.length ≤ 8) (rho f i : Int) :
    Calls Tryz.prog 9 #[.agg #[.int .i64 rho, v], .int .i64 f, .int .i64 i] w fun en w' => DocTo w fl rho (recallS l (f, i)).1 (.bool (recallS l (f, i)).2) en w' := by
  obtain ⟨pl, cl, rfl⟩ := h.rd.len
  have g1 := ((Gr.refl w).alloc (objD rho (.slice pl l.length cl))).alloc (objD 0 (.slice none 0 0))
  have bD := blk_alloc (heap_alloc_new w (objD rho (.slice pl l.length cl))) (objD 0 (.slice none 0 0))
  have bZ := heap_alloc_new (w.alloc (objD rho (.slice pl l.length cl))) (objD 0 (.slice none 0 0))
  have e1 : (w.alloc (objD rho (.slice pl l.length cl))).heap.size = w.heap.size + 1 := by simp
  rw [e1] at bZ
  have hrd1 := h.rd.gr g1
  have HB := hide (And.intro h (And.intro (g1.mod []) (And.intro bD bZ)))
  clear g1 h
  have CZ := blk_cell bZ
  have FZ := blk_free bZ
  have CD := blk_cell bD
  have hl1 := lt_of_block bZ
  have hl0 := lt_of_block bD
  clear bD bZ e1
  obtain ⟨⟨L', bb⟩, hsp0⟩ : ∃ sp, recallS l (f, i) = sp := ⟨_, rfl⟩
  rw [hsp0]
  simp only
  have HSP := hide hsp0
  clear hsp0
  obtain ⟨W, hW⟩ : ∃ W, W = (w.alloc (objD rho (.slice pl l.length cl))).alloc (objD 0 (.slice none 0 0)) := ⟨_, rfl⟩
  have HW := hide hW
  clear hW
  go_enter Tryz.func9, Tryz.ntmps9
  go_wp2_with fail
  refine (rfind_any hrd1 _ _).mono ?_
  rintro en w3 ⟨rfl, rfl⟩
  rw [← HW.out] at HB hrd1 CZ FZ CD hl0 hl1 ⊢
  rcases find_get l (f, i) with ⟨g1, g2⟩ | ⟨k, hk, g1, g2, -⟩
  · rw [g2]
    have hsp : recallS l (f, i) = (l, false) := by unfold recallS; rw [g1]
    obtain ⟨rfl, rfl⟩ := Prod.mk.inj (HSP.out.symm.trans hsp)
    obtain ⟨h, hm, bD, bZ⟩ := HB.out
    clear g1 g2 hsp HSP hrd1 HB
    go_wp2_with fail
    obtain ⟨hb, hd⟩ := h.box rho hm (by omega : w.heap.size ≤ w.heap.size + 1) bZ
    exact bodyPost_ret (res_cell2 Tryz.results9 _ _ rfl hb Tryz.isAgg30 Tryz.sizeOf30 rfl) rfl ⟨_, rfl, hd⟩
  · rw [g2]
    obtain ⟨b, off, vs, rfl, hb, hbf, hls, c0, c1, c2, c3, c4, c5, c6, c7, c8⟩ := hrd1.at_ k hk
    have i1 : (0 : Int) ≤ (k : Int) := by omega
    have i2 : (k : Int) < (l.length : Int) := by omega
    have i3 : ¬ (k : Int) < 0 := by omega
    generalize l.getD k default = y at hls c0 c1 c2 c3 c4 c5 c6 c7 c8 g1
    obtain ⟨yf, yi, yp, ym, ya, yt, ys, ye, yr⟩ := y
    obtain ⟨qv, cv, hvs⟩ := hls.rd.len
    simp only at hvs
    subst hvs
    simp only at c0 c1 c2 c3 c4 c5 c6 c7 c8
    cases yr
    · have hsp : recallS l (f, i) = (putL ⟨yf, yi, yp, ym, ya, yt, ys, ye, true⟩ l, true) := by unfold recallS; rw [g1]; rfl
      obtain ⟨rfl, rfl⟩ := Prod.mk.inj (HSP.out.symm.trans hsp)
      have HL := hide hls
      clear hls g1 g2 hsp hrd1
      go_wp2_with fail
      obtain ⟨h, hm, bD, bZ⟩ := HB.out
      have hm2 := hm.alloc (objL yf yi yp ym (.slice qv ya.length cv) yt ys ye true)
      have hX : LsV (W.alloc (objL yf yi yp ym (.slice qv ya.length cv) yt ys ye true)) fl (⟨yf, yi, yp, ym, ya, yt, ys, ye, true⟩, .slice qv ya.length cv) :=
        LsV.mod ⟨HL.out.row, HL.out.sub⟩ (((Gr.refl W).alloc _).mod []) (by simp)
      refine (rput_any (h.same hm2) (by omega) rho yf yi ym yt ys ye yp ya true qv cv hX (putGo_small hs hsm _)).mono ?_
      rintro en w4 ⟨v', rfl, hd⟩
      rw [putGo_eq hs] at hd
      have hbx := blk_alloc bZ (objL yf yi yp ym (.slice qv ya.length cv) yt ys ye true)
      have CZ4 := blk_cell (hd.md.at_ hbx (by simp))
      have FZ4 := blk_free (hd.md.at_ hbx (by simp))
      obtain ⟨hb, hd2⟩ := hd.box rho hm2 (by omega : w.heap.size ≤ w.heap.size + 1) h.lt hbx
      obtain ⟨p4, c4', rfl⟩ := hd.shape
      clear hX hd hbx CZ FZ CD c0 c1 c2 c3 c4 c5 c6 c7 c8 HB HL
      go_wp2_with fail
      exact bodyPost_ret (res_cell2 Tryz.results9 _ _ rfl hb Tryz.isAgg30 Tryz.sizeOf30 rfl) rfl ⟨_, rfl, hd2⟩
    · have hsp : recallS l (f, i) = (l, false) := by unfold recallS; rw [g1]; rfl
      obtain ⟨rfl, rfl⟩ := Prod.mk.inj (HSP.out.symm.trans hsp)
      obtain ⟨h, hm, bD, bZ⟩ := HB.out
      clear g1 g2 hsp HSP hrd1 HB
      go_wp2_with fail
      obtain ⟨hb, hd⟩ := h.box rho hm (by omega : w.heap.size ≤ w.heap.size + 1) bZ
      exact bodyPost_ret (res_cell2 Tryz.results9 _ _ rfl hb Tryz.isAgg30 Tryz.sizeOf30 rfl) rfl ⟨_, rfl, hd⟩
theorem Dc.mono {w : World} {v : Value} {f f' : List Nat} {l : List Lease} (h : Dc w v f l) (hf : ∀ k, k ∈ f → k ∈ f') (hl : ∀ k, k ∈ f' → k < w.heap.size) : Dc w v f' l := ⟨h.rd.mono hf, hl⟩
/-- as 'box', where the new list's stamps may lie in blocks that are new since w -/
theorem DocL.box2 {w w3 w4 : World} {f f3 : List Nat} {l' : List Lease} {v' : Value} {b1 : Nat} (rho : Int) (h : DocL w3 f3 l' v' w4) (hm : Mod [] w w3) (hb : w.heap.size ≤ b1) (hf : ∀ k, k ∈ f3 → k ≠ b1 ∧ (k ∈ f ∨ w.heap.size ≤ k)) (hbox : w3.heap[b1]? = some (objD 0 (.slice none 0 0))) :
    ((w4.setCell ⟨b1, 0, none⟩ (.int .i64 rho)).setCell ⟨b1, 1, none⟩ v').heap[b1]? = some (objD rho v') ∧ DocL w f l' v' ((w4.setCell ⟨b1, 0, none⟩ (.int .i64 rho)).setCell ⟨b1, 1, none⟩ v') := by
  obtain ⟨f', a, b, c⟩ := h
  have hb3 := lt_of_block hbox
  have hbox4 := c.at_ hbox (by simp)
  have m2 : Mod [b1] w4 ((w4.setCell ⟨b1, 0, none⟩ (.int .i64 rho)).setCell ⟨b1, 1, none⟩ v') := ((Mod.refl [b1] w4).setCell (fun _ => by simp) _).setCell (fun _ => by simp) _
  refine ⟨blk_set (blk_set hbox4 0 (.int .i64 rho)) 1 v', f', a.mod m2 (fun k hk e => ?_), fun k hk => ?_, (hm.then c).trans m2 (by simp) (fun x hx hlt => by simp at hx; omega)⟩
  · have e' : k = b1 := by simpa using e
    rcases b k hk with h | h
    · exact (hf k h).1 e'
    · omega
  · rcases b k hk with h | h
    · exact (hf k h).2
    · have := hm.size; exact .inr (by omega)
theorem stamped_len {a : List Int} (h : stampedOk a) : a.length ≤ 4 := h.2.1
set_option maxHeartbeats 4000000 in
set_option maxRecDepth 100000 in
theorem rrenewed_any {w : World} {v : Value} {fl : List Nat} {l : List Lease} (h : Dc w v fl l) (hs : SrtL l) (hsm : l.length ≤ 8) (hok : ∀ x, x ∈ l → okL x) {rho : Int} (hr : 0 ≤ rho ∧ rho ≤ 999) (now sent f i t : Int) (a : List Int) (q : Option Addr) (c : Nat) (hv : RdN w (.slice q a.length c) a) :
    Calls Tryz.prog 7 #[.agg #[.int .i64 rho, v], .int .i64 now, .int .i64 sent, .int .i64 f, .int .i64 i, .slice q a.length c, .int .i64 t] w
      fun en w' => DocTo w fl rho (renewedS rho l now sent (f, i) a t).1 (.bool (renewedS rho l now sent (f, i) a t).2) en w' := by
  obtain ⟨pl, cl, rfl⟩ := h.rd.len
  have g1 := ((Gr.refl w).alloc (objD rho (.slice pl l.length cl))).alloc (objD 0 (.slice none 0 0))
  have bD := blk_alloc (heap_alloc_new w (objD rho (.slice pl l.length cl))) (objD 0 (.slice none 0 0))
  have bZ := heap_alloc_new (w.alloc (objD rho (.slice pl l.length cl))) (objD 0 (.slice none 0 0))
  have e1 : (w.alloc (objD rho (.slice pl l.length cl))).heap.size = w.heap.size + 1 := by simp
  rw [e1] at bZ
  have hrd1 := h.rd.gr g1
  have hv1 := hv.gr g1
  have HB := hide (And.intro h (And.intro (g1.mod []) (And.intro bD bZ)))
  clear g1 h hv
  have CZ := blk_cell bZ
  have FZ := blk_free bZ
  have CD := blk_cell bD
  have hl1 := lt_of_block bZ
  have hl0 := lt_of_block bD
  clear bD bZ e1
  obtain ⟨⟨L', bb⟩, hsp0⟩ : ∃ sp, renewedS rho l now sent (f, i) a t = sp := ⟨_, rfl⟩
  rw [hsp0]
  simp only
  have HSP := hide hsp0
  clear hsp0
  obtain ⟨W, hW⟩ : ∃ W, W = (w.alloc (objD rho (.slice pl l.length cl))).alloc (objD 0 (.slice none 0 0)) := ⟨_, rfl⟩
  have HW := hide hW
  clear hW
  go_enter Tryz.func7, Tryz.ntmps7
  go_wp2_with fail
  refine (rfind_any hrd1 _ _).mono ?_
  rintro en w3 ⟨rfl, rfl⟩
  rw [← HW.out] at HB hrd1 hv1 CZ FZ CD hl0 hl1 ⊢
  have no : renewedS rho l now sent (f, i) a t = (l, false) → ∀ w', Mod [] w w' → L' = l ∧ bb = false := by
    intro hn w' _
    have := HSP.out.symm.trans hn
    exact ⟨(Prod.mk.inj this).1, (Prod.mk.inj this).2⟩
  have hbad : ¬ (momOk now sent ∧ legalT t ∧ stampedOk a) → renewedS rho l now sent (f, i) a t = (l, false) := by
    intro hn
    unfold renewedS
    cases hg : getL l (f, i) with
    | none => rfl
    | some x =>
      simp only
      rw [if_neg]
      rintro ⟨_, x1, x2, x3⟩
      exact hn ⟨x1, x2, x3⟩
  have HN := hide (And.intro no hbad)
  clear no hbad
  obtain ⟨fi, hfi⟩ : ∃ fi, findI l (f, i) = fi := ⟨_, rfl⟩
  rw [hfi]
  have HFI := hide hfi
  clear hfi
  go_wp2_with fail
  refine (rmom_any _ _ _).mono ?_
  rintro en w4 ⟨rfl, rfl⟩
  by_cases h1 : momOk now sent
  · rw [decide_eq_true h1]
    have H1 := hide h1
    clear h1
    go_wp2_with fail
    refine (rlgl_any _ _).mono ?_
    rintro en w5 ⟨rfl, rfl⟩
    by_cases h2 : legalT t
    · rw [decide_eq_true h2]
      have H2 := hide h2
      clear h2
      go_wp2_with fail
      refine (rstp_any hv1).mono ?_
      rintro en w6 ⟨rfl, rfl⟩
      by_cases h3 : stampedOk a
      · rw [decide_eq_true h3]
        have H3 := hide h3
        clear h3
        rcases find_get l (f, i) with ⟨g1, g2⟩ | ⟨k, hk, g1, g2, -⟩
        · obtain rfl : -1 = fi := g2.symm.trans HFI.out
          have hsp : renewedS rho l now sent (f, i) a t = (l, false) := by unfold renewedS; rw [g1]
          obtain ⟨rfl, rfl⟩ := Prod.mk.inj (HSP.out.symm.trans hsp)
          obtain ⟨h, hm, bD, bZ⟩ := HB.out
          clear g1 g2 hsp HSP hrd1 HB HN
          go_wp2_with fail
          obtain ⟨hb, hd⟩ := h.box rho hm (by omega : w.heap.size ≤ w.heap.size + 1) bZ
          exact bodyPost_ret (res_cell2 Tryz.results7 _ _ rfl hb Tryz.isAgg30 Tryz.sizeOf30 rfl) rfl ⟨_, rfl, hd⟩
        · obtain rfl : (k : Int) = fi := g2.symm.trans HFI.out
          obtain ⟨b, off, vs, rfl, hb, hbf, hls, c0, c1, c2, c3, c4, c5, c6, c7, c8⟩ := hrd1.at_ k hk
          have i1 : (0 : Int) ≤ (k : Int) := by omega
          have i2 : (k : Int) < (l.length : Int) := by omega
          have i3 : ¬ (k : Int) < 0 := by omega
          have hoy := hok (l.getD k default) (by simp [hk])
          generalize l.getD k default = y at hls c0 c1 c2 c3 c4 c5 c6 c7 c8 g1 hoy
          have hly := okL_stamp hoy
          obtain ⟨yf, yi, yp, ym, ya, yt, ys, ye, yr⟩ := y
          obtain ⟨qv, cv, hvs⟩ := hls.rd.len
          simp only at hvs hly
          subst hvs
          simp only at c0 c1 c2 c3 c4 c5 c6 c7 c8
          cases yr
          · have hto := legal_ok H2.out hr
            have hsb := shrinkI_bound hto
            have hsp : renewedS rho l now sent (f, i) a t = (putL (renewL rho sent a t ⟨yf, yi, yp, ym, ya, yt, ys, ye, false⟩) l, true) := by
              unfold renewedS
              rw [g1]
              simp only
              rw [if_pos ⟨rfl, H1.out, H2.out, H3.out⟩]
            obtain ⟨rfl, rfl⟩ := Prod.mk.inj (HSP.out.symm.trans hsp)
            have h1o := H1.out
            unfold momOk at h1o
            have hyo : 0 ≤ ye ∧ 0 ≤ ys := ⟨by have := hoy.2.2.2.2.2; simp only at this; omega, by have := hoy.2.2.2.2.2; simp only at this; omega⟩
            have HL := hide (And.intro hls (And.intro hv1 hly))
            clear hls g1 g2 hsp HSP hrd1 HN hoy hv1 hly
            go_wp2_with fail
            refine (rshrink_ok hto _).mono ?_
            rintro en w7 ⟨rfl, rfl⟩
            obtain ⟨n, hn⟩ : ∃ n, shrinkI t rho = n := ⟨_, rfl⟩
            rw [hn] at hsb ⊢
            have HNN := hide hn
            have e4 : IntKind.i64.wrap (sent + n) = sent + n := IntWalk.i64_in _ (by omega)
            clear hn hto
            go_wp2_with fail
            have gY := (Gr.refl w6).alloc (objL yf yi yp ym (.slice qv ya.length cv) yt (max ys sent) (max ye (sent + n)) false)
            obtain ⟨hls, hv1, hly⟩ := HL.out
            refine (rlater_any (hls.rd.gr gY) (hv1.gr gY) (by show ya.length ≤ 1000000; omega) (by have := stamped_len H3.out; omega)).mono ?_
            rintro en w8 ⟨v8, rfl, ho8, hm8⟩
            obtain ⟨p8, c8', hv8⟩ := (RdN.of_row ho8).len
            subst hv8
            obtain ⟨h, hm, bD, bZ⟩ := HB.out
            have bY := hm8.at_ (heap_alloc_new w6 (objL yf yi yp ym (.slice qv ya.length cv) yt (max ys sent) (max ye (sent + n)) false)) (by simp)
            have bD8 := hm8.at_ (blk_alloc bD (objL yf yi yp ym (.slice qv ya.length cv) yt (max ys sent) (max ye (sent + n)) false)) (by simp)
            have bZ8 := hm8.at_ (blk_alloc bZ (objL yf yi yp ym (.slice qv ya.length cv) yt (max ys sent) (max ye (sent + n)) false)) (by simp)
            have CB := blk_cell bY
            have FB := blk_free bY
            have CD8 := blk_cell bD8
            have hlb := lt_of_block bY
            have hob8 := ob_row ho8
            have hm68 := (hm.gr gY).then hm8
            have HX := hide (And.intro h (And.intro hm (And.intro bZ8 (And.intro ho8 (And.intro hob8 hm68)))))
            clear gY hls hv1 hly h hm bD bZ bY bD8 bZ8 ho8 hm8 hob8 hm68 HL HB CZ FZ CD c0 c1 c2 c3 c4 c5 c6 c7 c8
            obtain ⟨la, hla⟩ : ∃ la, laterL ya a = la := ⟨_, rfl⟩
            rw [hla] at HX ⊢
            have HLA := hide hla
            clear hla
            go_wp2_with fail
            obtain ⟨h, hm, bZ8, ho8, hob8, hm68⟩ := HX.out
            have m9 : Mod [w6.heap.size] w8 ((w8.setCell ⟨w6.heap.size, 4, none⟩ (.slice p8 la.length c8')).setCell ⟨w6.heap.size, 5, none⟩ (.int .i64 t)) := ((Mod.refl [w6.heap.size] w8).setCell (fun _ => by simp) _).setCell (fun _ => by simp) _
            have hs6 := hm.size
            have hs8 := hm68.size
            have hob9 : ∀ k, k ∈ ob (.slice p8 la.length c8') → w6.heap.size < k ∧ k < w8.heap.size := fun k hk => by have := hob8 k hk; simp at this; omega
            have hm9 : Mod [] w _ := hm68.trans m9 (U := []) (by simp) (fun x hx hlt => by simp at hx; omega)
            have hX : LsV _ (ob (.slice p8 la.length c8') ++ fl) (⟨yf, yi, yp, ym, la, t, max ys sent, max ye (sent + n), false⟩, .slice p8 la.length c8') :=
              ⟨(RowI.of ho8).mod m9 (fun x hx e => by have := hob9 x hx; simp at e; omega), fun k hk => List.mem_append_left _ hk⟩
            have hD9 : Dc _ (.slice (some ⟨b, off, none⟩) l.length cl) (ob (.slice p8 la.length c8') ++ fl) l := (h.same hm9).mono (fun k hk => List.mem_append_right _ hk) (fun k hk => by
              have hz := m9.size
              rcases List.mem_append.1 hk with e | e
              · have := hob9 k e; omega
              · have := h.lt k e; omega)
            refine (rput_any hD9 (by omega) rho yf yi ym t (max ys sent) (max ye (sent + n)) yp la false p8 c8' hX (putGo_small hs hsm _)).mono ?_
            rintro en w10 ⟨v', rfl, hd⟩
            rw [putGo_eq hs] at hd
            have hbx := m9.at_ bZ8 (by simp; omega)
            have CZ4 := blk_cell (hd.md.at_ hbx (by simp))
            have FZ4 := blk_free (hd.md.at_ hbx (by simp))
            obtain ⟨hb, hd2⟩ := hd.box2 rho hm9 (by omega : w.heap.size ≤ w.heap.size + 1) (fun k hk => by
              rcases List.mem_append.1 hk with e | e
              · have := hob9 k e; exact ⟨by omega, .inr (by omega)⟩
              · have := h.lt k e; exact ⟨by omega, .inl e⟩) hbx
            obtain ⟨p4, c4', rfl⟩ := hd.shape
            have hrn : renewL rho sent a t ⟨yf, yi, yp, ym, ya, yt, ys, ye, false⟩ = ⟨yf, yi, yp, ym, la, t, max ys sent, max ye (sent + n), false⟩ := by
              unfold renewL
              simp only
              rw [HLA.out, HNN.out]
            clear hX hd hbx hD9 hm9 hob9 m9 h hm bZ8 ho8 hob8 hm68 HX CB FB CD8 HW
            go_wp2_with fail
            exact bodyPost_ret (res_cell2 Tryz.results7 _ _ rfl hb Tryz.isAgg30 Tryz.sizeOf30 rfl) rfl ⟨_, rfl, by rw [hrn]; exact hd2⟩
          · have hsp : renewedS rho l now sent (f, i) a t = (l, false) := by
              unfold renewedS
              rw [g1]
              simp only
              rw [if_neg (fun x => by cases x.1)]
            obtain ⟨rfl, rfl⟩ := Prod.mk.inj (HSP.out.symm.trans hsp)
            obtain ⟨h, hm, bD, bZ⟩ := HB.out
            clear g1 g2 hsp HSP hrd1 HB HN
            go_wp2_with fail
            obtain ⟨hb, hd⟩ := h.box rho hm (by omega : w.heap.size ≤ w.heap.size + 1) bZ
            exact bodyPost_ret (res_cell2 Tryz.results7 _ _ rfl hb Tryz.isAgg30 Tryz.sizeOf30 rfl) rfl ⟨_, rfl, hd⟩
      · rw [decide_eq_false h3]
        obtain ⟨h, hm, bD, bZ⟩ := HB.out
        obtain ⟨rfl, rfl⟩ := HN.out.1 (HN.out.2 (fun x => h3 x.2.2)) _ hm
        clear HSP hrd1 HB HN h3
        go_wp2_with fail
        obtain ⟨hb, hd⟩ := h.box rho hm (by omega : w.heap.size ≤ w.heap.size + 1) bZ
        exact bodyPost_ret (res_cell2 Tryz.results7 _ _ rfl hb Tryz.isAgg30 Tryz.sizeOf30 rfl) rfl ⟨_, rfl, hd⟩
    · rw [decide_eq_false h2]
      obtain ⟨h, hm, bD, bZ⟩ := HB.out
      obtain ⟨rfl, rfl⟩ := HN.out.1 (HN.out.2 (fun x => h2 x.2.1)) _ hm
      clear HSP hrd1 HB HN h2
      go_wp2_with fail
      obtain ⟨hb, hd⟩ := h.box rho hm (by omega : w.heap.size ≤ w.heap.size + 1) bZ
      exact bodyPost_ret (res_cell2 Tryz.results7 _ _ rfl hb Tryz.isAgg30 Tryz.sizeOf30 rfl) rfl ⟨_, rfl, hd⟩
  · rw [decide_eq_false h1]
    obtain ⟨h, hm, bD, bZ⟩ := HB.out
    obtain ⟨rfl, rfl⟩ := HN.out.1 (HN.out.2 (fun x => h1 x.1)) _ hm
    clear HSP hrd1 HB HN h1
    go_wp2_with fail
    obtain ⟨hb, hd⟩ := h.box rho hm (by omega : w.heap.size ≤ w.heap.size + 1) bZ
    exact bodyPost_ret (res_cell2 Tryz.results7 _ _ rfl hb Tryz.isAgg30 Tryz.sizeOf30 rfl) rfl ⟨_, rfl, hd⟩
end Go.Proofs.YtifllaeldcimgaaGreat
