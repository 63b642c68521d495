/-
  WALKS: the document's layer 17: put. (The great seat alone.)
-/
import Derived.Test.YtifllaeldcimgaaGreatRefHold1
import Derived.Deep.DeepCutAuto
import Derived.Deep.LoopGhost
namespace Go.Proofs.YtifllaeldcimgaaGreat
open Go.RowKit

theorem heap_alloc_at {w : World} {o : Obj} {n : Nat} (h : n = w.heap.size) : (w.alloc o).heap[n]? = some o := by rw [h]; exact heap_alloc_new w o
theorem row_shape {w : World} {base n sz : Nat} {T : TypeId} {v : Value} {xs : List Value} (h : w.ownsRow base T sz v n xs) : ∃ p c, v = .slice p n c := by
  rcases h.2 with ⟨rfl, hn⟩ | ⟨g, cap, cur, rfl, _⟩
  · exact ⟨none, 0, by rw [hn]⟩
  · exact ⟨_, cap, rfl⟩
theorem RdLs.mono {w : World} {v : Value} {f f' : List Nat} {l : List Lease} (h : RdLs w v f l) (hf : ∀ k, k ∈ f → k ∈ f') : RdLs w v f' l := by
  obtain ⟨h1, lv, h2, h3, h4⟩ := h
  refine ⟨h1, lv, h2, fun p hp => (h3 p hp).mono hf, h4.imp id ?_⟩
  rintro ⟨b, off, cap, rfl, hb, hbf, hc⟩
  exact ⟨b, off, cap, rfl, hb, hf b hbf, hc⟩
section
variable {w wr w1 : World} {b0 b1 b2 g cap : Nat} {rho : Int} {v u : Value} {f : List Nat} {m : List Lease} {lv : List (Lease × Value)} {o : Obj} {p : Lease × Value}
/-- the same step, in a region that doesn't draw -/
theorem SwRel.step2 {v' : Value} (h : SwRel w b0 b1 b2 rho v f m u lv wr) (hp : LsV wr f p)
    (hr : w1.ownsRow (b2 + 1) 36 9 v' (lv.length + 1) (lv.flatMap encL ++ encL p)) (hg : (wr.alloc o).grownBy w1 u.ownBlock) :
    SwRel w b0 b1 b2 rho v f (m ++ [p.1]) v' (lv ++ [p]) (w1.setCell ⟨b2, 1, none⟩ v') ∧ Mod (ob u ++ [b2]) wr (w1.setCell ⟨b2, 1, none⟩ v') ∧ w1.heap[b2]? = some (objD rho u) ∧ Mod (ob u) wr w1 := by
  have hu := ob_row h.row
  have ho := h.ord
  have hlt := h.lt
  have m1 : Mod (ob u) wr w1 := ((Mod.refl (ob u) wr).alloc o).grown hg (fun k e _ => by simp [ob, e])
  have m2 : Mod (ob u ++ [b2]) wr (w1.setCell ⟨b2, 1, none⟩ v') := (m1.mono (fun x hx _ => List.mem_append_left _ hx)).setCell (fun _ => by simp) _
  have hfar : ∀ k, k < b2 → k ∉ ob u ++ [b2] := fun k hk e => by
    rcases List.mem_append.1 e with e | e
    · have := hu _ e; omega
    · simp at e; omega
  have hout : w1.heap[b2]? = some (objD rho u) := m1.at_ h.out (fun e => by have := hu _ e; omega)
  have hg2 := ob_row hr
  refine ⟨⟨m2.at_ h.box (hfar _ (by omega)), m2.at_ h.res (hfar _ (by omega)), blk_set hout 1 _, ?_, by simp [h.eq], ?_, ?_, h.flt, ho⟩, m2, hout, m1⟩
  · rw [List.length_append, List.flatMap_append]
    have := ((Mod.refl [b2] w1).setCell (p := ⟨b2, 1, none⟩) (fun _ => by simp) v').row hr (fun k e hk => by have := hg2 k (by simpa [ob] using e); simp at hk; omega)
    simpa using this
  · intro q hq
    have hq2 : LsV wr f q := by
      rcases List.mem_append.1 hq with e | e
      · exact h.ls q e
      · rw [List.mem_singleton.1 e]; exact hp
    exact hq2.mod m2 (fun k hk => hfar k (by have := h.flt k hk; omega))
  · exact h.mod.trans m2 (by simp) (fun x hx hlt => by
      rcases List.mem_append.1 hx with e | e
      · have := hu _ e; omega
      · simp at e; omega)
theorem apart_mem (h : SwRel w b0 b1 b2 rho v f m u lv wr) {k : Nat} (hk : k ∈ f) (e : k ∈ ob u ++ [b2]) : False := by
  have := h.flt k hk
  have ho := h.ord
  rcases List.mem_append.1 e with e | e
  · have := ob_row h.row _ e; omega
  · simp at e; omega
/-- the new list's box is stored into the result's, no draw -/
theorem SwRel.ret2 (h : SwRel w b0 b1 b2 rho v f m u lv wr) : ((wr.setCell ⟨b1, 0, none⟩ (.int .i64 rho)).setCell ⟨b1, 1, none⟩ u).heap[b1]? = some (objD rho u) ∧ DocL w f m u ((wr.setCell ⟨b1, 0, none⟩ (.int .i64 rho)).setCell ⟨b1, 1, none⟩ u) := by
  have ho := h.ord
  have m2 : Mod [b1] wr ((wr.setCell ⟨b1, 0, none⟩ (.int .i64 rho)).setCell ⟨b1, 1, none⟩ u) := ((Mod.refl [b1] wr).setCell (fun _ => by simp) _).setCell (fun _ => by simp) _
  refine ⟨blk_set (blk_set h.res 0 (.int .i64 rho)) 1 u, DocL.of_row (m2.row h.row (fun k hk e => by have := ob_row h.row k (by simpa [ob] using hk); simp at e; omega)) (by omega) (fun p hp => (h.ls p hp).mod m2 (fun k hk e => by have := h.flt k hk; simp at e; omega)) h.eq ?_ h.flt⟩
  exact h.mod.trans m2 (by simp) (fun x hx hlt => by simp at hx; omega)
end
abbrev boxL (x : Lease) (v : Value) : Obj := .cells (cellsL x v) 36 (0, 0)
theorem put_start {w : World} {v vx : Value} {f : List Nat} (rho : Int) (x : Lease) (hf : ∀ k, k ∈ f → k < w.heap.size) :
    SwRel w w.heap.size (w.heap.size + 2) (w.heap.size + 3) rho v f [] (.slice none 0 0) [] ((((w.alloc (objD rho v)).alloc (boxL x vx)).alloc (objD 0 (.slice none 0 0))).alloc (objD rho (.slice none 0 0))) ∧
    ((((w.alloc (objD rho v)).alloc (boxL x vx)).alloc (objD 0 (.slice none 0 0))).alloc (objD rho (.slice none 0 0))).heap[w.heap.size + 1]? = some (boxL x vx) := by
  have e1 : (w.alloc (objD rho v)).heap.size = w.heap.size + 1 := by simp
  have e2 : ((w.alloc (objD rho v)).alloc (boxL x vx)).heap.size = w.heap.size + 2 := by simp
  have e3 : (((w.alloc (objD rho v)).alloc (boxL x vx)).alloc (objD 0 (.slice none 0 0))).heap.size = w.heap.size + 3 := by simp
  have a1 := heap_alloc_new w (objD rho v)
  have a2 := heap_alloc_new (w.alloc (objD rho v)) (boxL x vx)
  have a3 := heap_alloc_new ((w.alloc (objD rho v)).alloc (boxL x vx)) (objD 0 (.slice none 0 0))
  have a4 := heap_alloc_new (((w.alloc (objD rho v)).alloc (boxL x vx)).alloc (objD 0 (.slice none 0 0))) (objD rho (.slice none 0 0))
  rw [e1] at a2
  rw [e2] at a3
  rw [e3] at a4
  exact ⟨⟨blk_alloc (blk_alloc (blk_alloc a1 _) _) _, blk_alloc a3 _, a4, World.ownsRow_nil _ _ _ _, rfl, by simp, (((((Gr.refl w).alloc _).alloc _).alloc _).alloc _).mod _, hf, by omega⟩, blk_alloc (blk_alloc a2 _) _⟩
def PutRel (w : World) (rho : Int) (v : Value) (f : List Nat) (l : List Lease) (X : Lease) (vx : Value) (R : List Lease) (g : Nat) (s6 i : Value) (wr : World) : Prop :=
  ∃ (k : Nat) (d : Bool) (m : List Lease) (u : Value) (lv : List (Lease × Value)), k + g = l.length ∧ i = .int .i64 k ∧ s6 = .bool d ∧ Hid (m ++ putGo X (l.drop k) d = R) ∧ SwRel w w.heap.size (w.heap.size + 2) (w.heap.size + 3) rho v f m u lv wr ∧ wr.heap[w.heap.size + 1]? = some (boxL X vx)
/-- in the midst of a round: y is still to be taken over -/
structure CutP (w : World) (rho : Int) (v : Value) (f : List Nat) (l : List Lease) (X : Lease) (vx : Value) (R : List Lease) (y : Lease) (vy : Value) (by_ k : Nat) (d : Bool) (m : List Lease) (u : Value) (lv : List (Lease × Value)) (wx : World) : Prop where
  go : Hid (m ++ (if keyL y ≠ keyL X then [y] else []) ++ putGo X (l.drop (k + 1)) d = R)
  sw : SwRel w w.heap.size (w.heap.size + 2) (w.heap.size + 3) rho v f m u lv wx
  bx : wx.heap[w.heap.size + 1]? = some (boxL X vx)
  bys : wx.heap[by_]? = some (boxL y vy)
  ls : LsV wx f (y, vy)
theorem put_way (X y : Lease) :
    (aheadB y X = true ∧ keyL y ≠ keyL X ∧ ((y.frm < X.frm ∧ (y.frm == X.frm) = false ∧ (y.frm != X.frm) = true) ∨ (¬ y.frm < X.frm ∧ (y.frm == X.frm) = true ∧ (y.frm != X.frm) = false ∧ y.id < X.id ∧ (y.id != X.id) = true))) ∨
    (aheadB y X = false ∧ keyL y = keyL X ∧ (¬ y.frm < X.frm ∧ (y.frm == X.frm) = true ∧ (y.frm != X.frm) = false ∧ ¬ y.id < X.id ∧ (y.id != X.id) = false)) ∨
    (aheadB y X = false ∧ keyL y ≠ keyL X ∧ ((¬ y.frm < X.frm ∧ (y.frm == X.frm) = false ∧ (y.frm != X.frm) = true) ∨ (¬ y.frm < X.frm ∧ (y.frm == X.frm) = true ∧ (y.frm != X.frm) = false ∧ ¬ y.id < X.id ∧ (y.id != X.id) = true))) := by
  unfold aheadB ltK keyL
  simp only [Prod.mk.injEq, ne_eq]
  by_cases h1 : y.frm < X.frm
  · exact .inl ⟨decide_eq_true (.inl h1), by omega, .inl ⟨h1, by simp; omega, by simp; omega⟩⟩
  · by_cases h2 : X.frm < y.frm
    · exact .inr (.inr ⟨decide_eq_false (by omega), by omega, .inl ⟨h1, by simp; omega, by simp; omega⟩⟩)
    · have h3 : y.frm = X.frm := by omega
      by_cases h4 : y.id < X.id
      · exact .inl ⟨decide_eq_true (.inr ⟨h3, h4⟩), by omega, .inr ⟨h1, by simp [h3], by simp [h3], h4, by simp; omega⟩⟩
      · by_cases h5 : X.id < y.id
        · exact .inr (.inr ⟨decide_eq_false (by omega), by omega, .inr ⟨h1, by simp [h3], by simp [h3], h4, by simp; omega⟩⟩)
        · have h6 : y.id = X.id := by omega
          exact .inr (.inl ⟨decide_eq_false (by omega), ⟨h3, h6⟩, h1, by simp [h3], by simp [h3], h4, by simp [h6]⟩)
set_option maxHeartbeats 4000000 in
set_option maxRecDepth 100000 in
theorem rput_any {w : World} {v : Value} {fl : List Nat} {l : List Lease} (h : Dc w v fl l) (hsm : l.length ≤ 100) (rho : Int) (f i m t s e : Int) (p : ByteArray) (a : List Int) (r : Bool) (q : Option Addr) (c : Nat) (hX : LsV w fl (⟨f, i, p, m, a, t, s, e, r⟩, .slice q a.length c))
    (hR : (putGo ⟨f, i, p, m, a, t, s, e, r⟩ l false).length ≤ 1000) :
    Calls Tryz.prog 33 #[.agg #[.int .i64 rho, v], .agg #[.int .i64 f, .int .i64 i, .string p, .int .i64 m, .slice q a.length c, .int .i64 t, .int .i64 s, .int .i64 e, .bool r]] w
      fun en w' => ∃ v', en = .returned (.agg #[.int .i64 rho, v']) ∧ DocL w fl (putGo ⟨f, i, p, m, a, t, s, e, r⟩ l false) v' w' := by
  obtain ⟨i0, hi0, hz0, hz1, hz2⟩ := info_parts info_lease
  have hlen : l.length ≤ 9223372036854775807 := h.rd.1
  obtain ⟨pl, cl, rfl⟩ := h.rd.len
  have hst := put_start (w := w) (v := .slice pl l.length cl) (vx := .slice q a.length c) (f := fl) rho ⟨f, i, p, m, a, t, s, e, r⟩ h.lt
  obtain ⟨R, hRe⟩ : ∃ R, putGo ⟨f, i, p, m, a, t, s, e, r⟩ l false = R := ⟨_, rfl⟩
  rw [hRe] at hR ⊢
  have HST := hide (And.intro hst hRe)
  clear hst hRe
  have H0 := hide (And.intro h hX)
  clear h hX
  go_enter Tryz.func33, Tryz.ntmps33
  go_wp2_with fail
  go_loopg [6, 7, 8, 9] l.length (fun g dd ii _ _ wr => PutRel w rho (.slice pl l.length cl) fl l ⟨f, i, p, m, a, t, s, e, r⟩ (.slice q a.length c) R g dd ii wr)
  case atStart => exact ⟨0, false, [], .slice none 0 0, [], Nat.zero_add _, rfl, rfl, HST.out.2, HST.out.1⟩
  case round =>
    obtain ⟨k, d, mm, u, lv, hk, rfl, rfl, hgo, hs, hx⟩ := hrel
    change wr.heap[w.heap.size + 1]? = some (objL f i p m (.slice q a.length c) t s e r) at hx
    obtain ⟨pu, cu, rfl⟩ := hs.shape
    have C0 := blk_cell hs.box
    have hord := hs.ord
    have hlt3 := hs.lt
    have hlx := lt_of_block hx
    obtain ⟨hD, hX⟩ := H0.out
    have hlv : lv.length + (putGo ⟨f, i, p, m, a, t, s, e, r⟩ (l.drop k) d).length ≤ 1000 := by
      have e1 := congrArg List.length hgo.out
      have e2 := congrArg List.length hs.eq
      rw [List.length_append] at e1
      rw [List.length_map] at e2
      omega
    by_cases hlt : k < l.length
    · obtain ⟨gg, rfl⟩ : ∃ g, gk = g + 1 := ⟨gk - 1, by omega⟩
      obtain ⟨b, off, vs, rfl, hb, hbf, hls, c0, c1, c2, c3, c4, c5, c6, c7, c8⟩ := (hD.rd.mod hs.mod (by simp)).at_ k hlt
      have i1 : (0 : Int) ≤ (k : Int) := by omega
      have i2 : (k : Int) < (l.length : Int) := by omega
      have hst := putGo_step ⟨f, i, p, m, a, t, s, e, r⟩ l d k hlt
      rw [hst] at hgo
      have hbne := hD.lt b hbf
      generalize l.getD k default = y at hls c0 c1 c2 c3 c4 c5 c6 c7 c8 hst hgo
      have hway := put_way ⟨f, i, p, m, a, t, s, e, r⟩ y
      obtain ⟨yf, yi, yp, ym, ya, yt, ys, ye, yr⟩ := y
      obtain ⟨qv, cv, hvs⟩ := hls.rd.len
      simp only at hvs
      subst hvs
      simp only at c0 c1 c2 c3 c4 c5 c6 c7 c8 hway
      have gr := (Gr.refl wr).alloc (objL yf yi yp ym (.slice qv ya.length cv) yt ys ye yr)
      have hs1 := hs.same (gr.mod [])
      have hx1 := (gr.mod []).at_ hx (by simp)
      have hy1 := heap_alloc_new wr (objL yf yi yp ym (.slice qv ya.length cv) yt ys ye yr)
      have hls1 := hls.mod (gr.mod []) (by simp)
      have hX1 := (hX.mod hs.mod (by simp)).mod (gr.mod []) (by simp)
      have hu1 := ob_row hs.row
      have CX := blk_cell hx1
      have CY := blk_cell hy1
      obtain ⟨ah, hah⟩ : ∃ ah, aheadB ⟨yf, yi, yp, ym, ya, yt, ys, ye, yr⟩ ⟨f, i, p, m, a, t, s, e, r⟩ = ah := ⟨_, rfl⟩
      rw [hah] at hgo
      have HS := hide (And.intro hs1 (And.intro hx1 (And.intro hy1 (And.intro hls1 (And.intro hX1 hu1)))))
      have HG := hide hgo.out
      have HW := hide hway
      have HAH := hide hah
      clear hs hx gr hs1 hx1 hy1 hls1 hX1 hu1 hst hgo hls hD hX hway hah hlv
      go_upto_region 7 with fail
      clear c0 c1 c2 c3 c4 c5 c6 c7 c8 C0
      go_cut [9] (fun s9 wx => s9 = .bool ah ∧ wx = wr.alloc (objL yf yi yp ym (.slice qv ya.length cv) yt ys ye yr))
      case first =>
        have hah := HAH.out
        rcases HW.out with ⟨ha, hne, ⟨q1, q2, q3⟩ | ⟨q1, q2, q3, q4, q5⟩⟩ | ⟨ha, hke, q1, q2, q3, q4, q5⟩ | ⟨ha, hne, ⟨q1, q2, q3⟩ | ⟨q1, q2, q3, q4, q5⟩⟩
        all_goals
          obtain rfl := ha.symm.trans hah
          clear ha hah HS HG HW HAH
          try clear hne
          try clear hke
          go_wp2_with fail
          go_meet
          case rel => exact ⟨rfl, rfl⟩
      case rest =>
        obtain ⟨rfl, rfl⟩ := hcut
        clear CX CY
        obtain ⟨hs1, hx1, hy1, hls1, hX1, hu1⟩ := HS.out
        have CX := blk_cell hx1
        have CY := blk_cell hy1
        have C3 := blk_cell hs1.out
        have F3 := blk_free hs1.out
        have hrow1 := hs1.row
        have hlv : lv.length ≤ 1000 := by
          have e1 := congrArg List.length HG.out
          have e2 := congrArg List.length hs1.eq
          simp only [List.length_append] at e1
          rw [List.length_map] at e2
          omega
        clear hs1 hx1 hy1 hls1 hX1 hu1 HW HAH
        go_upto_region 8 with fail
        go_cut [49] (fun s49 wx => s49 = .bool (!ah && !d) ∧ wx = wr.alloc (objL yf yi yp ym (.slice qv ya.length cv) yt ys ye yr))
        case first =>
          clear HS HG CX CY C3 F3 hrow1
          cases ah <;> cases d
          all_goals
            go_wp2_with fail
            go_meet
            case rel => exact ⟨rfl, rfl⟩
        case rest =>
        obtain ⟨rfl, rfl⟩ := hcut
        go_upto_if 49 with fail
        go_cut [6] (fun s6 wx => ∃ (d' : Bool) (m' : List Lease) (u' : Value) (lv' : List (Lease × Value)), s6 = .bool d' ∧ CutP w rho (.slice (some ⟨b, off, none⟩) l.length cl) fl l ⟨f, i, p, m, a, t, s, e, r⟩ (.slice q a.length c) R ⟨yf, yi, yp, ym, ya, yt, ys, ye, yr⟩ (.slice qv ya.length cv) wr.heap.size k d' m' u' lv' wx ∧ lv'.length ≤ 1001)
        case first =>
          cases ah
          · cases d
            · have hG : mm ++ [⟨f, i, p, m, a, t, s, e, r⟩] ++ (if keyL ⟨yf, yi, yp, ym, ya, yt, ys, ye, yr⟩ ≠ keyL ⟨f, i, p, m, a, t, s, e, r⟩ then [⟨yf, yi, yp, ym, ya, yt, ys, ye, yr⟩] else []) ++ putGo ⟨f, i, p, m, a, t, s, e, r⟩ (l.drop (k + 1)) true = R := by
                have := HG.out
                rw [if_pos ⟨rfl, rfl⟩] at this
                simpa using this
              have HG2 := hide hG
              clear HG hG
              go_wp2_with (
                at_builtin
                refine wpList_append_own _ rfl _ _ 28 rfl (w.heap.size + 3 + 1) 36 i0 _ 9 96 Tryz.underlying28 hi0 hz0 hz1 hz2 rfl (by decide) _ _ _ rfl (hrow1.alloc _) ⟨_, 0, none⟩ 1 1 (encL (⟨f, i, p, m, a, t, s, e, r⟩, (.slice q a.length c))) rfl rfl (World.news_of_block (cs := cellsL ⟨f, i, p, m, a, t, s, e, r⟩ (.slice q a.length c)) (t := 36) (fr := (0, 0)) (heap_alloc_at (by simp))) (by simp [encL, cellsL, Value.oneCell']) (by unfold maxLen; omega) (by omega) (by simp; omega) ?_
                intro u2 w2 ho2 hg2 _
                obtain ⟨p2, c2', rfl⟩ := row_shape ho2
                obtain ⟨hs1, hx1, hy1, hls1, hX1, hu1⟩ := HS.out
                obtain ⟨st1, st2, st3, st4⟩ := hs1.step2 hX1 ho2 hg2
                have hfl : ∀ k, k ∈ fl → k ∉ ob (Value.slice pu lv.length cu) ++ [w.heap.size + 3] := fun k hk e => apart_mem hs1 hk e
                have hl1 := lt_of_block hy1
                clear C3 F3 hs1 hX1 ho2 hg2 CX CY hrow1
                have C3 := blk_cell st3
                have F3 := blk_free st3)
              have hfar : ∀ k, k < wr.heap.size + 1 → (k < w.heap.size + 3 ∨ wr.heap.size ≤ k) → k ∉ ob (Value.slice pu lv.length cu) ++ [w.heap.size + 3] := fun k _ h e => by
                rcases List.mem_append.1 e with e | e
                · have := hu1 _ e; omega
                · simp at e; omega
              have HF := hide (show CutP w rho (.slice (some ⟨b, off, none⟩) l.length cl) fl l ⟨f, i, p, m, a, t, s, e, r⟩ (.slice q a.length c) R ⟨yf, yi, yp, ym, ya, yt, ys, ye, yr⟩ (.slice qv ya.length cv) wr.heap.size k true _ _ _ _ from ⟨HG2.out, st1, st2.at_ hx1 (hfar _ (by omega) (by omega)), st2.at_ hy1 (hfar _ (by omega) (by omega)), hls1.mod st2 hfl⟩)
              clear HS hx1 hy1 hls1 hu1 st1 st2 st3 st4 hfl hfar
              go_meet
              case rel => exact ⟨true, _, _, _, rfl, HF.out, by simp; omega⟩
            · have hG : mm ++ (if keyL ⟨yf, yi, yp, ym, ya, yt, ys, ye, yr⟩ ≠ keyL ⟨f, i, p, m, a, t, s, e, r⟩ then [⟨yf, yi, yp, ym, ya, yt, ys, ye, yr⟩] else []) ++ putGo ⟨f, i, p, m, a, t, s, e, r⟩ (l.drop (k + 1)) true = R := by
                have := HG.out
                rw [if_neg (by simp)] at this
                simpa using this
              obtain ⟨hs1, hx1, hy1, hls1, hX1, hu1⟩ := HS.out
              have HF := hide (show CutP w rho (.slice (some ⟨b, off, none⟩) l.length cl) fl l ⟨f, i, p, m, a, t, s, e, r⟩ (.slice q a.length c) R ⟨yf, yi, yp, ym, ya, yt, ys, ye, yr⟩ (.slice qv ya.length cv) wr.heap.size k true _ _ _ _ from ⟨hG, hs1, hx1, hy1, hls1⟩)
              clear HG hG HS hs1 hx1 hy1 hls1 hX1 hu1 CX CY C3 F3 hrow1
              go_wp2_with fail
              go_meet
              case rel => exact ⟨true, _, _, _, rfl, HF.out, by omega⟩
          · have hG : mm ++ (if keyL ⟨yf, yi, yp, ym, ya, yt, ys, ye, yr⟩ ≠ keyL ⟨f, i, p, m, a, t, s, e, r⟩ then [⟨yf, yi, yp, ym, ya, yt, ys, ye, yr⟩] else []) ++ putGo ⟨f, i, p, m, a, t, s, e, r⟩ (l.drop (k + 1)) d = R := by
              have := HG.out
              rw [if_neg (by simp)] at this
              simpa using this
            obtain ⟨hs1, hx1, hy1, hls1, hX1, hu1⟩ := HS.out
            have HF := hide (show CutP w rho (.slice (some ⟨b, off, none⟩) l.length cl) fl l ⟨f, i, p, m, a, t, s, e, r⟩ (.slice q a.length c) R ⟨yf, yi, yp, ym, ya, yt, ys, ye, yr⟩ (.slice qv ya.length cv) wr.heap.size k d _ _ _ _ from ⟨hG, hs1, hx1, hy1, hls1⟩)
            clear HG hG HS hs1 hx1 hy1 hls1 hX1 hu1 CX CY C3 F3 hrow1
            cases d
            all_goals
              go_wp2_with fail
              go_meet
              case rel => exact ⟨_, _, _, _, rfl, HF.out, by omega⟩
        case rest =>
          obtain ⟨d', m', u', lv', rfl, hC, hl'⟩ := hcut
          obtain ⟨pu', cu', rfl⟩ := hC.sw.shape
          have hbx : wc.heap[w.heap.size + 1]? = some (objL f i p m (.slice q a.length c) t s e r) := hC.bx
          have hby : wc.heap[wr.heap.size]? = some (objL yf yi yp ym (.slice qv ya.length cv) yt ys ye yr) := hC.bys
          have CX := blk_cell hbx
          have CY := blk_cell hby
          have C3 := blk_cell hC.sw.out
          have F3 := blk_free hC.sw.out
          have hrow1 := hC.sw.row
          have hu1 := ob_row hC.sw.row
          have hlt3 := hC.sw.lt
          have hly := lt_of_block hby
          have hkey : (keyL ⟨yf, yi, yp, ym, ya, yt, ys, ye, yr⟩ = keyL ⟨f, i, p, m, a, t, s, e, r⟩ ∧ (yf != f) = false ∧ (yi != i) = false) ∨ (keyL ⟨yf, yi, yp, ym, ya, yt, ys, ye, yr⟩ ≠ keyL ⟨f, i, p, m, a, t, s, e, r⟩ ∧ ((yf != f) = true ∨ ((yf != f) = false ∧ (yi != i) = true))) := by
            unfold keyL
            simp only [Prod.mk.injEq, ne_eq]
            by_cases h1 : yf = f
            · by_cases h2 : yi = i
              · exact .inl ⟨⟨h1, h2⟩, by simp [h1], by simp [h2]⟩
              · exact .inr ⟨fun x => h2 x.2, .inr ⟨by simp [h1], by simpa using h2⟩⟩
            · exact .inr ⟨fun x => h1 x.1, .inl (by simpa using h1)⟩
          have HC := hide (And.intro hC hbx)
          clear HS HG hC hbx hby
          rcases hkey with ⟨hke, e1, e2⟩ | ⟨hne, hw2⟩
          · have hG : m' ++ putGo ⟨f, i, p, m, a, t, s, e, r⟩ (l.drop (k + 1)) d' = R := by
              have := HC.out.1.go.out
              rw [if_neg (fun x => x hke)] at this
              simpa using this
            have HF := hide (show PutRel w rho (.slice (some ⟨b, off, none⟩) l.length cl) fl l ⟨f, i, p, m, a, t, s, e, r⟩ (.slice q a.length c) R gg (.bool d') (.int .i64 ((k : Int) + 1)) wc from ⟨k + 1, d', _, _, _, by omega, by go_num, rfl, hG, HC.out.1.sw, HC.out.1.bx⟩)
            clear HC hG hke hu1 hrow1 C3 F3
            go_wp2_with fail
            go_roundg gg
            case measure => omega
            case rel => exact HF.out
          · have hG : m' ++ [⟨yf, yi, yp, ym, ya, yt, ys, ye, yr⟩] ++ putGo ⟨f, i, p, m, a, t, s, e, r⟩ (l.drop (k + 1)) d' = R := by
              have := HC.out.1.go.out
              rw [if_pos hne] at this
              exact this
            have HG2 := hide hG
            clear hG hne
            rcases hw2 with e1 | ⟨e1, e2⟩
            all_goals
              go_wp2_with (
                at_builtin
                refine wpList_append_own _ rfl _ _ 28 rfl (w.heap.size + 3 + 1) 36 i0 _ 9 96 Tryz.underlying28 hi0 hz0 hz1 hz2 rfl (by decide) _ _ _ rfl (hrow1.alloc _) ⟨_, 0, none⟩ 1 1 (encL (⟨yf, yi, yp, ym, ya, yt, ys, ye, yr⟩, (.slice qv ya.length cv))) rfl rfl (World.news_of_block (cs := cellsL ⟨yf, yi, yp, ym, ya, yt, ys, ye, yr⟩ (.slice qv ya.length cv)) (t := 36) (fr := (0, 0)) (heap_alloc_at (by simp))) (by simp [encL, cellsL, Value.oneCell']) (by unfold maxLen; omega) (by omega) (by simp; omega) ?_
                intro u4 w4 ho4 hg4 _
                obtain ⟨p4, c4', rfl⟩ := row_shape ho4
                obtain ⟨st1, st2, st3, st4⟩ := HC.out.1.sw.step2 HC.out.1.ls ho4 hg4
                clear C3 F3 ho4 hg4 CX CY hrow1
                have C3 := blk_cell st3
                have F3 := blk_free st3)
              have hx2 := st2.at_ HC.out.2 (fun e => by
                rcases List.mem_append.1 e with e | e
                · have := hu1 _ e; omega
                · simp at e)
              have HF := hide (show PutRel w rho (.slice (some ⟨b, off, none⟩) l.length cl) fl l ⟨f, i, p, m, a, t, s, e, r⟩ (.slice q a.length c) R gg (.bool d') (.int .i64 ((k : Int) + 1)) _ from ⟨k + 1, d', _, _, _, by omega, by go_num, rfl, HG2.out, st1, hx2⟩)
              clear HC HG2 hu1 st1 st2 st3 st4 hx2
              go_roundg gg
              case measure => omega
              case rel => exact HF.out
    · have hkl : k = l.length := by omega
      have hG : mm ++ (if d = true then [] else [⟨f, i, p, m, a, t, s, e, r⟩]) = R := by
        have := hgo.out
        rw [hkl, List.drop_length] at this
        exact this
      have C3 := blk_cell hs.out
      have F3 := blk_free hs.out
      have C2 := blk_cell hs.res
      have F2 := blk_free hs.res
      have CX := blk_cell hx
      have hrow1 := hs.row
      have hu1 := ob_row hs.row
      have HS := hide (And.intro hs (hX.mod hs.mod (by simp)))
      have HG := hide hG
      have hlv3 : lv.length ≤ 1000 := by omega
      clear hs hx hgo hG hD hX hlv
      cases d
      · have HG2 := hide (show mm ++ [⟨f, i, p, m, a, t, s, e, r⟩] = R from HG.out)
        clear HG
        go_wp2_with (
          at_builtin
          refine wpList_append_own _ rfl _ _ 28 rfl (w.heap.size + 3 + 1) 36 i0 _ 9 96 Tryz.underlying28 hi0 hz0 hz1 hz2 rfl (by decide) _ _ _ rfl (hrow1.alloc _) ⟨_, 0, none⟩ 1 1 (encL (⟨f, i, p, m, a, t, s, e, r⟩, (.slice q a.length c))) rfl rfl (World.news_of_block (cs := cellsL ⟨f, i, p, m, a, t, s, e, r⟩ (.slice q a.length c)) (t := 36) (fr := (0, 0)) (heap_alloc_at (by simp))) (by simp [encL, cellsL, Value.oneCell']) (by unfold maxLen; omega) (by omega) (by simp; omega) ?_
          intro u2 w2 ho2 hg2 _
          obtain ⟨p2, c2', rfl⟩ := row_shape ho2
          obtain ⟨st1, st2, st3, st4⟩ := HS.out.1.step2 HS.out.2 ho2 hg2
          clear C3 F3 C2 F2 ho2 hg2 CX hrow1
          have C3 := blk_cell st3
          have F3 := blk_free st3
          have C2 := blk_cell (st4.at_ HS.out.1.res (fun e => by have := hu1 _ e; omega))
          have F2 := blk_free (st4.at_ HS.out.1.res (fun e => by have := hu1 _ e; omega)))
        obtain ⟨hb, hd⟩ := st1.ret2
        rw [HG2.out] at hd
        exact bodyPost_ret (res_cell1 Tryz.results33 _ _ rfl hb Tryz.isAgg30 Tryz.sizeOf30) rfl ⟨_, rfl, hd⟩
      · have HG2 := hide (show mm = R by have := HG.out; simpa using this)
        clear HG
        go_wp2_with fail
        obtain ⟨hb, hd⟩ := HS.out.1.ret2
        rw [HG2.out] at hd
        exact bodyPost_ret (res_cell1 Tryz.results33 _ _ rfl hb Tryz.isAgg30 Tryz.sizeOf30) rfl ⟨_, rfl, hd⟩
end Go.Proofs.YtifllaeldcimgaaGreat
