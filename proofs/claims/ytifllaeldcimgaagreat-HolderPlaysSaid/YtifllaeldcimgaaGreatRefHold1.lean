/-
  WALKS: the document's layer 17: New, Find, Sweep, Drop. (The great seat alone.)
-/
import Derived.Test.YtifllaeldcimgaaGreatDocL
import Derived.Test.YtifllaeldcimgaaGreatRefSmall
import Derived.Deep.RegionLaw
import Derived.BigRegion
namespace Go.Proofs.YtifllaeldcimgaaGreat
open Go.RowKit

abbrev objD (rho : Int) (u : Value) : Obj := .cells #[.int .i64 rho, u] 30 (0, 0)
/-- a slice that reads as the leases l -/
structure Dc (w : World) (v : Value) (f : List Nat) (l : List Lease) : Prop where
  rd : RdLs w v f l
  lt : ∀ k, k ∈ f → k < w.heap.size
theorem Dc.mod {w w' : World} {v : Value} {f : List Nat} {l : List Lease} (h : Dc w v f l) {S : List Nat} (m : Mod S w w') (hf : ∀ k, k ∈ f → k ∉ S) : Dc w' v f l := ⟨h.rd.mod m hf, fun k hk => Nat.lt_of_lt_of_le (h.lt k hk) m.size⟩
theorem Dc.same {w w' : World} {v : Value} {f : List Nat} {l : List Lease} (h : Dc w v f l) (m : Mod [] w w') : Dc w' v f l := h.mod m (by simp)
/-- a new list of leases, whose stamps lie where they lay or in new blocks -/
def DocL (w : World) (f : List Nat) (l' : List Lease) (v' : Value) (w' : World) : Prop := ∃ f', Dc w' v' f' l' ∧ (∀ k, k ∈ f' → k ∈ f ∨ w.heap.size ≤ k) ∧ Mod [] w w'
def DocTo (w : World) (f : List Nat) (rho : Int) (l' : List Lease) (x : Value) (e : Ending) (w' : World) : Prop := ∃ v', e = .returned (.tuple #[.agg #[.int .i64 rho, v'], x]) ∧ DocL w f l' v' w'
theorem DocL.of_row {w w' : World} {f : List Nat} {base : Nat} {T : TypeId} {u : Value} {lv : List (Lease × Value)} {l' : List Lease} (h : w'.ownsRow base T 9 u lv.length (lv.flatMap encL)) (hb : w.heap.size ≤ base) (hv : ∀ p, p ∈ lv → LsV w' f p) (hl : lv.map Prod.fst = l') (hm : Mod [] w w') (hf : ∀ k, k ∈ f → k < w.heap.size) : DocL w f l' u w' := by
  subst hl
  refine ⟨ob u ++ f, ⟨RdLs.of_row h (fun p hp => (hv p hp).mono (fun k hk => List.mem_append_right _ hk)) (fun k hk => List.mem_append_left _ hk), fun k hk => ?_⟩, fun k hk => ?_, hm⟩
  · rcases List.mem_append.1 hk with e | e
    · exact (ob_row h k e).2
    · exact Nat.lt_of_lt_of_le (hf k e) hm.size
  rcases List.mem_append.1 hk with e | e
  · exact .inr (by have := ob_row h k e; omega)
  · exact .inl e
theorem DocL.then {w w1 w2 : World} {f : List Nat} {l' : List Lease} {v' : Value} (h : DocL w f l' v' w1) (m : Mod [] w1 w2) : DocL w f l' v' w2 := by
  obtain ⟨f', a, b, c⟩ := h
  exact ⟨f', a.same m, b, c.then m⟩
theorem rnew_ok (rho : Int) (hr : 0 ≤ rho ∧ rho ≤ 999) (w : World) : Calls Tryz.prog 6 #[.int .i64 rho] w fun e w' => e = .returned (.tuple #[.agg #[.int .i64 rho, .slice none 0 0], .int .i64 0]) ∧ Gr w w' := by
  go_enter Tryz.func6, Tryz.ntmps6
  go_wp2_with fail
  exact bodyPost_ret (res_cell2 Tryz.results6 _ _ rfl (heap_alloc_new w (objD rho (.slice none 0 0))) Tryz.isAgg30 Tryz.sizeOf30 rfl) rfl ⟨rfl, (Gr.refl w).alloc _⟩
theorem rnew_bad (rho : Int) (hr : ¬ (0 ≤ rho ∧ rho ≤ 999)) (w : World) : Calls Tryz.prog 6 #[.int .i64 rho] w fun e w' => e = .returned (.tuple #[.agg #[.int .i64 0, .slice none 0 0], .int .i64 2]) ∧ Gr w w' := by
  rcases (by omega : rho < 0 ∨ 0 ≤ rho ∧ 999 < rho) with h | ⟨h, h2⟩
  all_goals
    clear hr
    go_enter Tryz.func6, Tryz.ntmps6
    go_wp2_with fail
    exact bodyPost_ret (res_cell2 Tryz.results6 _ _ rfl (heap_alloc_new w (objD 0 (.slice none 0 0))) Tryz.isAgg30 Tryz.sizeOf30 rfl) rfl ⟨rfl, (Gr.refl w).alloc _⟩
def RFindRel (w : World) (l : List Lease) (k : Key) (i : Value) (wr : World) : Prop := ∃ n : Nat, n ≤ l.length ∧ i = .int .i64 n ∧ Hid (∀ j, j < n → keyL (l.getD j default) ≠ k) ∧ wr = w
set_option maxHeartbeats 1000000 in
set_option maxRecDepth 100000 in
theorem rfind_any {w : World} {v : Value} {f : List Nat} {l : List Lease} (h : RdLs w v f l) (kf ki : Int) :
    Calls Tryz.prog 19 #[v, .int .i64 kf, .int .i64 ki] w fun e w' => e = .returned (.int .i64 (findI l (kf, ki))) ∧ w' = w := by
  have hlen : l.length ≤ 9223372036854775807 := h.1
  obtain ⟨p, c, rfl⟩ := h.len
  go_enter Tryz.func19, Tryz.ntmps19
  go_wp2_with fail
  go_loopw [7] (fun i wr => RFindRel w l (kf, ki) i wr) (fun i _ => l.length - (intOf i).toNat)
  case atStart => exact ⟨0, Nat.zero_le _, rfl, fun j hj => absurd hj (Nat.not_lt_zero _), rfl⟩
  case round =>
    obtain ⟨k, hk, rfl, hn, rfl⟩ := hrel
    by_cases hlt : k < l.length
    · obtain ⟨b, off, vs, rfl, hb, _, _, c0, c1, _⟩ := h.at_ k hlt
      have i1 : (0 : Int) ≤ (k : Int) := by omega
      have i2 : (k : Int) < (l.length : Int) := by omega
      have hkey : keyL (l.getD k default) = ((l.getD k default).frm, (l.getD k default).id) := rfl
      generalize (l.getD k default).frm = x1 at c0 hkey
      generalize (l.getD k default).id = x2 at c1 hkey
      have HK := hide hkey
      clear hkey h
      have stp : (x1, x2) ≠ (kf, ki) → ∀ j, j < k + 1 → keyL (l.getD j default) ≠ (kf, ki) := by
        intro hne j hj
        by_cases e : j = k
        · subst e; rw [HK.out]; exact hne
        · exact hn.out j (by omega)
      have STP := hide stp
      clear stp
      by_cases e1 : x1 = kf
      · by_cases e2 : x2 = ki
        · have b1 : (x1 == kf) = true := by simpa using e1
          have b2 : (x2 == ki) = true := by simpa using e2
          have E := hide (show keyL (l.getD k default) = (kf, ki) by rw [HK.out, e1, e2])
          clear e1 e2
          go_wp2_with fail
          go_ret
          exact ⟨by rw [findI_hit hlt E.out hn.out]; rfl, rfl⟩
        · have b1 : (x1 == kf) = true := by simpa using e1
          have b2 : (x2 == ki) = false := by simpa using e2
          have E := hide (STP.out (fun q => e2 (congrArg Prod.snd q)))
          clear e1 e2 STP
          go_wp2_with fail
          go_roundw
          case rel => exact ⟨k + 1, by omega, by go_num, E.out, rfl⟩
          case measure => simp [intOf]; omega
      · have b1 : (x1 == kf) = false := by simpa using e1
        have E := hide (STP.out (fun q => e1 (congrArg Prod.fst q)))
        clear e1 STP
        go_wp2_with fail
        go_roundw
        case rel => exact ⟨k + 1, by omega, by go_num, E.out, rfl⟩
        case measure => simp [intOf]; omega
    · obtain rfl : k = l.length := by omega
      clear h
      go_wp2_with fail
      go_ret
      exact ⟨by rw [findI_miss hn.out]; rfl, rfl⟩
/-- a loop that builds a new list: the boxes of the list that is read, of the result and of the new list, at three new blocks -/
structure SwRel (w : World) (b0 b1 b2 : Nat) (rho : Int) (v : Value) (f : List Nat) (m : List Lease) (u : Value) (lv : List (Lease × Value)) (wr : World) : Prop where
  box : wr.heap[b0]? = some (objD rho v)
  res : wr.heap[b1]? = some (objD 0 (.slice none 0 0))
  out : wr.heap[b2]? = some (objD rho u)
  row : wr.ownsRow (b2 + 1) 36 9 u lv.length (lv.flatMap encL)
  eq : lv.map Prod.fst = m
  ls : ∀ p, p ∈ lv → LsV wr f p
  mod : Mod [] w wr
  flt : ∀ k, k ∈ f → k < w.heap.size
  ord : w.heap.size ≤ b0 ∧ w.heap.size ≤ b1 ∧ w.heap.size ≤ b2 ∧ b0 < b2 ∧ b1 < b2
section
variable {w wr w1 : World} {b0 b1 b2 g cap : Nat} {rho : Int} {v u : Value} {f : List Nat} {m : List Lease} {lv : List (Lease × Value)} {o : Obj} {p : Lease × Value}
theorem SwRel.same {w2 : World} (h : SwRel w b0 b1 b2 rho v f m u lv wr) (k : Mod [] wr w2) : SwRel w b0 b1 b2 rho v f m u lv w2 :=
  ⟨k.at_ h.box (by simp), k.at_ h.res (by simp), k.at_ h.out (by simp), k.row h.row (by simp), h.eq, fun p hp => (h.ls p hp).mod k (by simp), h.mod.then k, h.flt, h.ord⟩
theorem SwRel.step (h : SwRel w b0 b1 b2 rho v f m u lv wr) (hp : LsV wr f p)
    (hr : w1.ownsRow (b2 + 1) 36 9 (.slice (some ⟨g, 0, none⟩) (lv.length + 1) cap) (lv.length + 1) (lv.flatMap encL ++ encL p)) (hg : ((wr.alloc o).drew).grownBy w1 u.ownBlock) :
    SwRel w b0 b1 b2 rho v f (m ++ [p.1]) (.slice (some ⟨g, 0, none⟩) (lv.length + 1) cap) (lv ++ [p]) (w1.setCell ⟨b2, 1, none⟩ (.slice (some ⟨g, 0, none⟩) (lv.length + 1) cap)) := by
  have hu := ob_row h.row
  have ho := h.ord
  have m1 : Mod (ob u) wr w1 := ((Mod.refl (ob u) wr).alloc o).drew.grown hg (fun k e _ => by simp [ob, e])
  have m2 : Mod (ob u ++ [b2]) wr (w1.setCell ⟨b2, 1, none⟩ (.slice (some ⟨g, 0, none⟩) (lv.length + 1) cap)) :=
    (m1.mono (fun x hx _ => List.mem_append_left _ hx)).setCell (fun _ => by simp) _
  have hfar : ∀ k, k < b2 → k ∉ ob u ++ [b2] := fun k hk e => by
    rcases List.mem_append.1 e with e | e
    · have := hu _ e; omega
    · simp at e; omega
  have hout : w1.heap[b2]? = some (objD rho u) := m1.at_ h.out (fun e => by have := hu _ e; omega)
  have hg2 := ob_row hr g (by simp [ob, Value.ownBlock])
  refine ⟨m2.at_ h.box (hfar _ (by omega)), m2.at_ h.res (hfar _ (by omega)), blk_set hout 1 _, ?_, by simp [h.eq], ?_, ?_, h.flt, ho⟩
  · rw [List.length_append, List.flatMap_append]
    have := ((Mod.refl [b2] w1).setCell (p := ⟨b2, 1, none⟩) (fun _ => by simp) (.slice (some ⟨g, 0, none⟩) (lv.length + 1) cap)).row hr (fun k e => by simp [Value.ownBlock] at e; simp; omega)
    simpa using this
  · intro q hq
    have hq2 : LsV wr f q := by
      rcases List.mem_append.1 hq with e | e
      · exact h.ls q e
      · rw [List.mem_singleton.1 e]; exact hp
    exact hq2.mod m2 (fun k hk => hfar k (by have := h.flt k hk; omega))
  · exact h.mod.trans m2 (by simp) (fun x hx hlt => by
      rcases List.mem_append.1 hx with e | e
      · have := hu _ e; omega
      · simp at e; omega)
theorem SwRel.lt (h : SwRel w b0 b1 b2 rho v f m u lv wr) : b0 < wr.heap.size ∧ b1 < wr.heap.size ∧ b2 < wr.heap.size := ⟨lt_of_block h.box, lt_of_block h.res, lt_of_block h.out⟩
theorem SwRel.shape (h : SwRel w b0 b1 b2 rho v f m u lv wr) : ∃ p c, u = .slice p lv.length c := by
  rcases h.row.2 with ⟨rfl, hn⟩ | ⟨g, cap, cur, rfl, _⟩
  · exact ⟨none, 0, by rw [hn]⟩
  · exact ⟨_, cap, rfl⟩
/-- the new list's box is stored into the result's -/
theorem SwRel.ret (h : SwRel w b0 b1 b2 rho v f m u lv wr) : (((wr.setCell ⟨b1, 0, none⟩ (.int .i64 rho)).setCell ⟨b1, 1, none⟩ u).drew).heap[b1]? = some (objD rho u) ∧ DocL w f m u (((wr.setCell ⟨b1, 0, none⟩ (.int .i64 rho)).setCell ⟨b1, 1, none⟩ u).drew) := by
  have ho := h.ord
  have m2 : Mod [b1] wr (((wr.setCell ⟨b1, 0, none⟩ (.int .i64 rho)).setCell ⟨b1, 1, none⟩ u).drew) := (((Mod.refl [b1] wr).setCell (fun _ => by simp) _).setCell (fun _ => by simp) _).drew
  have hb : ((wr.setCell ⟨b1, 0, none⟩ (.int .i64 rho)).setCell ⟨b1, 1, none⟩ u).heap[b1]? = some (objD rho u) := blk_set (blk_set h.res 0 (.int .i64 rho)) 1 u
  refine ⟨hb, DocL.of_row (m2.row h.row (fun k hk e => by have := ob_row h.row k (by simpa [ob] using hk); simp at e; omega)) (by omega) (fun p hp => (h.ls p hp).mod m2 (fun k hk e => by have := h.flt k hk; simp at e; omega)) h.eq ?_ h.flt⟩
  exact h.mod.trans m2 (by simp) (fun x hx hlt => by simp at hx; omega)
theorem SwRel.done (h : SwRel w b0 b1 b2 rho v f m u lv wr) : DocL w f m u wr := DocL.of_row h.row (by have := h.ord; omega) h.ls h.eq h.mod h.flt
end
theorem sw_start {w : World} {v : Value} {f : List Nat} (rho : Int) (hf : ∀ k, k ∈ f → k < w.heap.size) : SwRel w w.heap.size (w.heap.size + 1) (w.heap.size + 2) rho v f [] (.slice none 0 0) [] (((w.alloc (objD rho v)).alloc (objD 0 (.slice none 0 0))).alloc (objD rho (.slice none 0 0))) := by
  have e1 : (w.alloc (objD rho v)).heap.size = w.heap.size + 1 := by simp
  have e2 : ((w.alloc (objD rho v)).alloc (objD 0 (.slice none 0 0))).heap.size = w.heap.size + 2 := by simp
  have a1 := heap_alloc_new w (objD rho v)
  have a2 := heap_alloc_new (w.alloc (objD rho v)) (objD 0 (.slice none 0 0))
  have a3 := heap_alloc_new ((w.alloc (objD rho v)).alloc (objD 0 (.slice none 0 0))) (objD rho (.slice none 0 0))
  rw [e1] at a2
  rw [e2] at a3
  exact ⟨blk_alloc (blk_alloc a1 _) _, blk_alloc a2 _, a3, World.ownsRow_nil _ _ _ _, rfl, by simp, ((((Gr.refl w).alloc _).alloc _).alloc _).mod _, hf, by omega⟩
def SweepRel (w : World) (rho : Int) (v : Value) (f : List Nat) (l : List Lease) (now : Int) (i : Value) (wr : World) : Prop :=
  ∃ (k : Nat) (u : Value) (lv : List (Lease × Value)), k ≤ l.length ∧ i = .int .i64 k ∧ SwRel w w.heap.size (w.heap.size + 1) (w.heap.size + 2) rho v f (sweepL now (l.take k)) u lv wr
set_option maxHeartbeats 2000000 in
set_option maxRecDepth 100000 in
theorem rsweep_any {w : World} {v : Value} {f : List Nat} {l : List Lease} (h : Dc w v f l) (hsm : l.length ≤ 100) (rho now : Int) :
    Calls Tryz.prog 20 #[.agg #[.int .i64 rho, v], .int .i64 now] w fun e w' => DocTo w f rho (sweepL now l) (.int .i64 ((l.length : Int) - (sweepL now l).length)) e w' := by
  obtain ⟨i0, hi0, hz0, hz1, hz2⟩ := info_parts info_lease
  have hlen : l.length ≤ 9223372036854775807 := h.rd.1
  obtain ⟨p, c, rfl⟩ := h.rd.len
  have hst := sw_start (w := w) (v := .slice p l.length c) (f := f) rho h.lt
  have HST := hide hst
  clear hst
  go_enter Tryz.func20, Tryz.ntmps20
  go_wp2_with fail
  go_loopw [7] (fun i wr => SweepRel w rho (.slice p l.length c) f l now i wr) (fun i _ => l.length - (intOf i).toNat)
  case atStart => exact ⟨0, .slice none 0 0, [], Nat.zero_le _, rfl, HST.out⟩
  case round =>
    obtain ⟨k, u, lv, hk, rfl, hs⟩ := hrel
    obtain ⟨pu, cu, rfl⟩ := hs.shape
    have C0 := blk_cell hs.box
    have C2 := blk_cell hs.out
    have F2 := blk_free hs.out
    have hord := hs.ord
    have hlt3 := hs.lt
    by_cases hlt : k < l.length
    · obtain ⟨b, off, vs, rfl, hb, hbf, hls, c0, c1, c2, c3, c4, c5, c6, c7, c8⟩ := (h.rd.mod hs.mod (by simp)).at_ k hlt
      have i1 : (0 : Int) ≤ (k : Int) := by omega
      have i2 : (k : Int) < (l.length : Int) := by omega
      have hst := sweep_take now l k hlt
      have hbne := h.lt b hbf
      generalize l.getD k default = x at hls c0 c1 c2 c3 c4 c5 c6 c7 c8 hst
      obtain ⟨xf, xi, xp, xm, xa, xt, xs, xe, xr⟩ := x
      obtain ⟨qv, cv, hvs⟩ := hls.rd.len
      simp only at hvs
      subst hvs
      simp only at c0 c1 c2 c3 c4 c5 c6 c7 c8 hst
      have H := hide h
      clear h
      by_cases hx : now < xe
      · rw [if_pos hx] at hst
        have hlvl : lv.length ≤ k := by
          have e1 := congrArg List.length hs.eq
          have e2 : (sweepL now (l.take k)).length ≤ (l.take k).length := List.length_filter_le _ _
          simp at e1 e2; omega
        have hrow := hs.row
        have hou := ob_row hs.row
        have hfz : ∀ o, (wr.alloc o).drew.frozen? ⟨w.heap.size + 2, 1, none⟩ = false := fun o => (World.frozen?_alloc_old wr o ⟨w.heap.size + 2, 1, none⟩ (by show w.heap.size + 2 ≠ _; omega)).trans (F2 1)
        have hcz : ∀ o, (wr.alloc o).drew.cell? ⟨w.heap.size + 2, 1, none⟩ = some (.slice pu lv.length cu) := fun o => ((Gr.refl wr).alloc o).drew.kept (C2 1)
        have hap : (Value.slice pu lv.length cu).ownBlock ≠ some (w.heap.size + 2) := fun e => by have := hou (w.heap.size + 2) (by simp [ob, e]); omega
        have HS := hide hs
        have HL := hide hls
        have HT := hide hst
        clear hs hls hst
        go_wp2_with fail
        go_region_law
          ((refine step_append_lies _ (by rfl) _ _ _ (by rfl) (w.heap.size + 2 + 1) 36 i0 _ 9 96 Tryz.underlying28 hi0 hz0 hz1 hz2 rfl (by omega) (.slice pu lv.length cu) lv.length (lv.flatMap encL) (by rfl) ((hrow.alloc _).drew) ⟨wr.heap.size, 0, none⟩ 1 1 (encL (⟨xf, xi, xp, xm, xa, xt, xs, xe, xr⟩, .slice qv xa.length cv)) (by rfl) (by rfl) (World.news_of_block (cs := cellsL ⟨xf, xi, xp, xm, xa, xt, xs, xe, xr⟩ (.slice qv xa.length cv)) (t := 36) (fr := (0, 0)) (heap_alloc_new wr _)) (by simp [encL, cellsL, Value.oneCell']) (by omega) (by unfold maxLen; omega) (by omega) (by simp; omega) (wr.heap.size + 1) (by simp) ?_; intro gg cap w1 hown1 hgrow hat hlt; have q1 := (hgrow.cell_far ⟨w.heap.size + 2, 1, none⟩ (by simp; omega) (Ne.symm hap)).trans (hcz _); have q2 := (hgrow.frozen_far ⟨w.heap.size + 2, 1, none⟩ (by simp; omega) (Ne.symm hap)).trans (hfz _)))
        all_goals
          have hn := HS.out.step HL.out hown1 hgrow
          clear q1 q2 hown1 hgrow hrow hou hfz hcz hap C0 C2 F2 c0 c1 c2 c3 c4 c5 c6 c7 c8
          go_wp2_with fail
          go_roundw
          case rel => exact ⟨k + 1, _, _, by omega, by go_num, by rw [HT.out]; exact hn⟩
          case measure => simp [intOf]; omega
      · rw [if_neg hx] at hst
        have HS := hide hs
        have HT := hide hst
        clear hs hls hst
        go_wp2_with fail
        go_roundw
        case rel => exact ⟨k + 1, _, _, by omega, by go_num, by rw [HT.out]; exact HS.out⟩
        case measure => simp [intOf]; omega
    · obtain rfl : k = l.length := by omega
      have he : lv.length = (sweepL now l).length := by
        have e1 := congrArg List.length hs.eq
        rw [List.take_length] at e1
        simpa using e1
      have HE := hide he
      have C1 := blk_cell hs.res
      have F1 := blk_free hs.res
      have HS := hide hs
      clear h hs he
      go_wp2_with fail
      go_region
      obtain ⟨hb, hd⟩ := HS.out.ret
      have e0 : wrap64 ((l.length : Int) - (lv.length : Int)) = (l.length : Int) - ((sweepL now l).length : Int) := by
        have h3 : (sweepL now l).length ≤ l.length := List.length_filter_le _ _
        rw [HE.out]
        generalize (sweepL now l).length = n at h3
        exact IntWalk.wrap64_in ((l.length : Int) - (n : Int)) (by omega)
      rw [List.take_length] at hd
      rw [e0]
      clear C0 C1 C2 F1 F2 HS HE e0
      go_wp2_with fail
      exact bodyPost_ret (res_cell2 Tryz.results20 _ _ rfl hb Tryz.isAgg30 Tryz.sizeOf30 rfl) rfl ⟨_, rfl, hd⟩
def DropRelR (w : World) (rho : Int) (v : Value) (f : List Nat) (l : List Lease) (kf ki : Int) (i : Value) (wr : World) : Prop :=
  ∃ (k : Nat) (u : Value) (lv : List (Lease × Value)), k ≤ l.length ∧ i = .int .i64 k ∧ SwRel w w.heap.size (w.heap.size + 1) (w.heap.size + 2) rho v f (delL (l.take k) (kf, ki)) u lv wr
set_option maxHeartbeats 2000000 in
set_option maxRecDepth 100000 in
theorem rdropd_any {w : World} {v : Value} {f : List Nat} {l : List Lease} (h : Dc w v f l) (hsm : l.length ≤ 100) (rho kf ki : Int) :
    Calls Tryz.prog 11 #[.agg #[.int .i64 rho, v], .int .i64 kf, .int .i64 ki] w fun e w' => DocTo w f rho (delL l (kf, ki)) (.bool (decide ((delL l (kf, ki)).length < l.length))) e w' := by
  obtain ⟨i0, hi0, hz0, hz1, hz2⟩ := info_parts info_lease
  have hlen : l.length ≤ 9223372036854775807 := h.rd.1
  obtain ⟨p, c, rfl⟩ := h.rd.len
  have hst := sw_start (w := w) (v := .slice p l.length c) (f := f) rho h.lt
  have HST := hide hst
  clear hst
  go_enter Tryz.func11, Tryz.ntmps11
  go_wp2_with fail
  go_loopw [9] (fun i wr => DropRelR w rho (.slice p l.length c) f l kf ki i wr) (fun i _ => l.length - (intOf i).toNat)
  case atStart => exact ⟨0, .slice none 0 0, [], Nat.zero_le _, rfl, HST.out⟩
  case round =>
    obtain ⟨k, u, lv, hk, rfl, hs⟩ := hrel
    obtain ⟨pu, cu, rfl⟩ := hs.shape
    have C0 := blk_cell hs.box
    have C2 := blk_cell hs.out
    have F2 := blk_free hs.out
    have hord := hs.ord
    have hlt3 := hs.lt
    by_cases hlt : k < l.length
    · obtain ⟨b, off, vs, rfl, hb, hbf, hls, c0, c1, c2, c3, c4, c5, c6, c7, c8⟩ := (h.rd.mod hs.mod (by simp)).at_ k hlt
      have i1 : (0 : Int) ≤ (k : Int) := by omega
      have i2 : (k : Int) < (l.length : Int) := by omega
      have hst := del_take (kf, ki) l k hlt
      have hbne := h.lt b hbf
      generalize l.getD k default = x at hls c0 c1 c2 c3 c4 c5 c6 c7 c8 hst
      obtain ⟨xf, xi, xp, xm, xa, xt, xs, xe, xr⟩ := x
      obtain ⟨qv, cv, hvs⟩ := hls.rd.len
      simp only at hvs
      subst hvs
      simp only at c0 c1 c2 c3 c4 c5 c6 c7 c8 hst
      have H := hide h
      clear h
      change delL (l.take (k + 1)) (kf, ki) = if (xf, xi) ≠ (kf, ki) then _ else _ at hst
      by_cases hx : (xf, xi) ≠ (kf, ki)
      · have hways : (xf != kf) = true ∨ ((xf != kf) = false ∧ (xi != ki) = true) := by
          by_cases e : xf = kf
          · right
            subst e
            refine ⟨by simp, ?_⟩
            simp only [bne_iff_ne, ne_eq]
            exact fun q => hx (by rw [q])
          · left; simpa using e
        rw [if_pos hx] at hst
        have hlvl : lv.length ≤ k := by
          have e1 := congrArg List.length hs.eq
          have e2 : (delL (l.take k) (kf, ki)).length ≤ (l.take k).length := List.length_filter_le _ _
          simp at e1 e2; omega
        have hrow := hs.row
        have hou := ob_row hs.row
        have hfz : ∀ o, (wr.alloc o).drew.frozen? ⟨w.heap.size + 2, 1, none⟩ = false := fun o => (World.frozen?_alloc_old wr o ⟨w.heap.size + 2, 1, none⟩ (by show w.heap.size + 2 ≠ _; omega)).trans (F2 1)
        have hcz : ∀ o, (wr.alloc o).drew.cell? ⟨w.heap.size + 2, 1, none⟩ = some (.slice pu lv.length cu) := fun o => ((Gr.refl wr).alloc o).drew.kept (C2 1)
        have hap : (Value.slice pu lv.length cu).ownBlock ≠ some (w.heap.size + 2) := fun e => by have := hou (w.heap.size + 2) (by simp [ob, e]); omega
        have HS := hide hs
        have HL := hide hls
        have HT := hide hst
        clear hs hls hst
        clear hx
        rcases hways with e1 | ⟨e1, e2⟩
        all_goals
          go_wp2_with fail
          go_region_law
            ((refine step_append_lies _ (by rfl) _ _ _ (by rfl) (w.heap.size + 2 + 1) 36 i0 _ 9 96 Tryz.underlying28 hi0 hz0 hz1 hz2 rfl (by omega) (.slice pu lv.length cu) lv.length (lv.flatMap encL) (by rfl) ((hrow.alloc _).drew) ⟨wr.heap.size, 0, none⟩ 1 1 (encL (⟨xf, xi, xp, xm, xa, xt, xs, xe, xr⟩, .slice qv xa.length cv)) (by rfl) (by rfl) (World.news_of_block (cs := cellsL ⟨xf, xi, xp, xm, xa, xt, xs, xe, xr⟩ (.slice qv xa.length cv)) (t := 36) (fr := (0, 0)) (heap_alloc_new wr _)) (by simp [encL, cellsL, Value.oneCell']) (by omega) (by unfold maxLen; omega) (by omega) (by simp; omega) (wr.heap.size + 1) (by simp) ?_; intro gg cap w1 hown1 hgrow hat hlt; have q1 := (hgrow.cell_far ⟨w.heap.size + 2, 1, none⟩ (by simp; omega) (Ne.symm hap)).trans (hcz _); have q2 := (hgrow.frozen_far ⟨w.heap.size + 2, 1, none⟩ (by simp; omega) (Ne.symm hap)).trans (hfz _)))
          all_goals
            have hn := HS.out.step HL.out hown1 hgrow
            clear q1 q2 hown1 hgrow hrow hou hfz hcz hap C0 C2 F2 c0 c1 c2 c3 c4 c5 c6 c7 c8
            go_wp2_with fail
            go_roundw
            case rel => exact ⟨k + 1, _, _, by omega, by go_num, by rw [HT.out]; exact hn⟩
            case measure => simp [intOf]; omega
      · have e1 : (xf != kf) = false := by
          have : (xf, xi) = (kf, ki) := Classical.byContradiction hx
          simp [(Prod.mk.inj this).1]
        have e2 : (xi != ki) = false := by
          have : (xf, xi) = (kf, ki) := Classical.byContradiction hx
          simp [(Prod.mk.inj this).2]
        rw [if_neg hx] at hst
        clear hx
        have HS := hide hs
        have HT := hide hst
        clear hs hls hst
        go_wp2_with fail
        go_roundw
        case rel => exact ⟨k + 1, _, _, by omega, by go_num, by rw [HT.out]; exact HS.out⟩
        case measure => simp [intOf]; omega
    · obtain rfl : k = l.length := by omega
      have he : lv.length = (delL l (kf, ki)).length := by
        have e1 := congrArg List.length hs.eq
        rw [List.take_length] at e1
        simpa using e1
      have HE := hide he
      have C1 := blk_cell hs.res
      have F1 := blk_free hs.res
      have HS := hide hs
      clear h hs he
      go_wp2_with fail
      go_region
      obtain ⟨hb, hd⟩ := HS.out.ret
      have e0 : decide (lv.length < l.length) = decide ((delL l (kf, ki)).length < l.length) := by
        rw [HE.out]
      rw [List.take_length] at hd
      rw [e0]
      clear C0 C1 C2 F1 F2 HS HE e0
      go_wp2_with fail
      exact bodyPost_ret (res_cell2 Tryz.results11 _ _ rfl hb Tryz.isAgg30 Tryz.sizeOf30 rfl) rfl ⟨_, rfl, hd⟩
end Go.Proofs.YtifllaeldcimgaaGreat
