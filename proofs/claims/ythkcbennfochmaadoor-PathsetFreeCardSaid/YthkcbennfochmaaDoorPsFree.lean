/-
  THE LAW PathsetFree: its plain laws and its walk.
-/
import Derived.Test.YthkcbennfochmaaDoorPsKinds
import Derived.ChangeSlices
namespace Go.Proofs.YthkcbennfochmaaDoor
open Go.RowKit Go.Maps

/-- two entries that stand against one another -/
def against (a b : Ent) : Bool := (a.who != b.who) && (coversB a.bs b.bs || coversB b.bs a.bs) && (decide (a.mode = 2) || decide (b.mode = 2))
theorem against_symm (a b : Ent) : against a b = against b a := by
  unfold against
  rw [show (a.who != b.who) = (b.who != a.who) by rw [Bool.eq_iff_iff]; simp; exact ⟨fun h e => h e.symm, fun h e => h e.symm⟩, Bool.or_comm (coversB a.bs b.bs), Bool.or_comm (decide (a.mode = 2))]
theorem against_self (a : Ent) : against a a = false := by simp [against]
/-- nobody stands against anybody -/
def FreeL (l : List Ent) : Prop := ∀ a, a ∈ l → ∀ b, b ∈ l → against a b = false
theorem stands_against {m : Int} (hm : modE m = true) (i : Int) (p : ByteArray) (who : Int) (x : Ent) : standsB p.data.toList m who x = against x ⟨i, p, m, who⟩ := by
  unfold standsB against
  rw [hm]
  have e : (decide (m = 2) || decide (x.mode = 2)) = (decide (x.mode = 2) || decide (m = 2)) := Bool.or_comm _ _
  rw [e, Bool.true_and]
  show ((coversB x.bs p.data.toList || coversB p.data.toList x.bs) && decide (x.who ≠ who) && (decide (x.mode = 2) || decide (m = 2))) = ((x.who != who) && (coversB x.bs p.data.toList || coversB p.data.toList x.bs) && (decide (x.mode = 2) || decide (m = 2)))
  cases (coversB x.bs p.data.toList || coversB p.data.toList x.bs) <;> by_cases h : x.who = who <;> simp [h]
theorem clash_nil {l : List Ent} {p : List UInt8} {m who : Int} : clashS5 l p m who = [] ↔ ∀ x, x ∈ l → standsB p m who x = false := by
  unfold clashS5
  constructor
  · intro h x hx
    have h2 : (l.filter (standsB p m who)).map Ent.id = [] := List.nil_perm.1 (h ▸ (sortI_perm _)) |>.symm ▸ rfl
    have h3 := List.filter_eq_nil_iff.1 (List.map_eq_nil_iff.1 h2) x hx
    simpa using h3
  · intro h
    rw [List.filter_eq_nil_iff.2 (fun x hx => by rw [h x hx]; simp)]
    exact List.perm_nil.1 (sortI_perm [])
theorem free_put {l : List Ent} (h : FreeL l) (i : Int) (p : ByteArray) (m who : Int) (hc : clashS5 l p.data.toList m who = []) : FreeL (putS5 l ⟨i, p, m, who⟩).1 := by
  unfold putS5
  split
  · exact h
  · split
    · exact h
    · next hm =>
      split
      · exact h
      · split
        · exact h
        · have hm2 : modE m = true := by simpa using hm
          have key : ∀ x, x ∈ l → against x ⟨i, p, m, who⟩ = false := fun x hx => by rw [← stands_against hm2]; exact clash_nil.1 hc x hx
          intro a ha b hb
          rcases mem_insE.1 ha with rfl | ha <;> rcases mem_insE.1 hb with rfl | hb
          · exact against_self _
          · rw [against_symm]; exact key b hb
          · exact key a ha
          · exact h a ha b hb
theorem free_drop {l : List Ent} (h : FreeL l) (i : Int) : FreeL (dropS5 l i) := fun a ha b hb => h a (List.mem_filter.1 ha).1 b (List.mem_filter.1 hb).1
theorem free_clash {l : List Ent} (h : FreeL l) {a : Ent} (ha : a ∈ l) (hok : entOk a) : clashS5 l a.path.data.toList a.mode a.who = [] := by
  have hm : modE a.mode = true := by rcases hok.2 with e | e <;> rw [e] <;> rfl
  exact clash_nil.2 fun x hx => by rw [stands_against hm a.id]; exact h x hx a ha
/-! ### Overlap -/
set_option maxRecDepth 100000 in
theorem overlap_any {s t : ByteArray} (hs : s.size ≤ 9223372036854775807) (ht : t.size ≤ 9223372036854775807) (w : World) : Calls Tryd.prog 25 #[.string s, .string t] w fun e w' => e = .returned (.bool (coversB s.data.toList t.data.toList || coversB t.data.toList s.data.toList)) ∧ w' = w := by
  have h1 := covers_eq hs ht rfl
  have h2 := covers_eq ht hs rfl
  have t1 : Hid True := hide trivial
  cases hb : coversB s.data.toList t.data.toList
  · rw [hb] at h1
    generalize coversB t.data.toList s.data.toList = b2 at h2
    clear hb
    go_enter Tryd.func25, Tryd.ntmps25
    go_wp2_with (first
      | (have tk := t1
         go_at_call 23
         refine (h1 _).mono ?_
         rintro e w9 ⟨rfl, rfl⟩
         clear t1 tk)
      | (go_at_call 23
         refine (h2 _).mono ?_
         rintro e w9 ⟨rfl, rfl⟩)
      | fail)
    go_ret
    exact ⟨rfl, rfl⟩
  · rw [hb] at h1
    clear hb
    go_enter Tryd.func25, Tryd.ntmps25
    go_wp2_with (first
      | (go_at_call 23
         refine (h1 _).mono ?_
         rintro e w9 ⟨rfl, rfl⟩)
      | fail)
    go_ret
    exact ⟨rfl, rfl⟩
/-! ### the walk -/
set_option maxRecDepth 100000 in
theorem open_gone {H : Type} {enc : TypeId × Value → H} {W : World} {v : Value} {d : DataW H} {p : List MemPlace} {base : Nat}
    (hv : Value.okWide Tryd.prog W .any base 37 v) (h : DataW.Trod enc Tryd.prog W 0 (fun _ => true) true 37 v d p) : ∃ (m : List Int) (q : Option Addr) (c : Nat), v = .slice q m.length c ∧ RdN W (.slice q m.length c) m ∧ ∀ x, x ∈ m → (Lit.int .i64 x).wf = true := by
  obtain ⟨a0, len, cap, rfl⟩ := Go.WideShapes.okWide_slice Tryd.underlying37 hv
  obtain ⟨fuel, hf⟩ := h
  rcases Go.ChangeShapes.open_ints Tryd.underlying37 Tryd.underlying3 cells_int hf with ⟨hcs, _⟩ | ⟨a, len', cap', zs, hcs, _, hl, hm, hz, _, hc, hw⟩
  · simp [Value.cells] at hcs
    obtain ⟨rfl, rfl, rfl⟩ := hcs
    exact ⟨[], none, 0, rfl, ⟨by simp, .inl ⟨none, 0, rfl, rfl⟩⟩, by simp⟩
  · simp [Value.cells] at hcs
    obtain ⟨rfl, rfl, rfl⟩ := hcs
    simp only [if_true] at hz
    by_cases h0 : len = 0
    · subst h0
      exact ⟨[], _, _, rfl, ⟨by simp, .inl ⟨_, _, rfl, rfl⟩⟩, by simp⟩
    · obtain ⟨b, off, spot⟩ := a
      have hc0 := hc 0 (by omega)
      have hsp : spot = none := by
        simp only [Addr.add] at hc0
        cases spot with
        | none => rfl
        | some s =>
          exfalso
          revert hc0
          unfold World.cell?
          split <;> simp
      subst hsp
      have ht : (zs.take len).length = len := by rw [List.length_take]; omega
      refine ⟨zs.take len, some ⟨b, off, none⟩, cap, by rw [ht], ⟨by rw [ht]; omega, .inr ⟨b, off, cap, rfl, World.block_lt_of_cell? W _ hc0, fun i hi => ?_⟩⟩, fun x hx => hw x (List.mem_of_mem_take hx)⟩
      rw [ht] at hi
      have q := hc i (by omega)
      rw [Addr.add_lit] at q
      rw [q]
      simp [List.getD, hi]
theorem RowE.cap {w : World} {base : Nat} {q : Option Addr} {n c : Nat} {xs : List Ent} (h : RowE w base (.slice q n c) xs) : n ≤ c := by
  obtain ⟨q', c', e, hc, -⟩ := row_form h
  injection e with _ e2 e3
  omega
theorem overlap_eq {s t : ByteArray} (hs : s.size ≤ 9223372036854775807) (ht : t.size ≤ 9223372036854775807) {b : Bool} (hb : (coversB s.data.toList t.data.toList || coversB t.data.toList s.data.toList) = b) (w : World) : Calls Tryd.prog 25 #[.string s, .string t] w fun e w' => e = .returned (.bool b) ∧ w' = w := by
  subst hb
  exact overlap_any hs ht w
theorem mode_bool {m : Int} (h : m = 1 ∨ m = 2) : (m != 1) = decide (m = 2) := by rcases h with rfl | rfl <;> rfl
theorem free_bool {a b c d : Bool} (h : (a && b && (c || d)) = false) : a = false ∨ (a = true ∧ b = false) ∨ (a = true ∧ b = true ∧ c = false ∧ d = false) := by
  cases a <;> cases b <;> cases c <;> cases d <;> simp_all
def Free1 (w1 : World) (sb wb : Nat) (n : Nat) (i : Value) (wr : World) : Prop := ∃ (k : Nat) (N : List Nd) (L : List Ent), k ≤ n ∧ i = .int .i64 k ∧ SS w1 wr sb wb N L ∧ FreeL L
theorem len_nil {α : Type} {l : List α} : ((l.length : Int) == 0) = l.isEmpty := by
  cases l with
  | nil => rfl
  | cons x r =>
    simp
    omega
set_option maxHeartbeats 4000000 in
set_option maxRecDepth 100000 in
theorem free_any {W : World} {q : Option Addr} {c : Nat} {l : List Ent} (h : RdE W (.slice q l.length c) l) (hin : ∀ e, e ∈ l → inE e) {gq : Option Addr} {gc : Nat} {g : List Int} (hg : RdN W (.slice gq g.length gc) g) (hgw : ∀ x, x ∈ g → (Lit.int .i64 x).wf = true) :
    Calls Tryd.prog 8 #[.slice q l.length c, .slice gq g.length gc] W fun e w' => e = .returned (.bool true) ∧ Mod [] W w' := by
  have hll : l.length ≤ 9223372036854775807 := h.1
  have hgl : g.length ≤ 9223372036854775807 := hg.1
  have HX := hide (And.intro h (And.intro hin (And.intro hg hgw)))
  clear h hin hg hgw
  go_enter Tryd.func8, Tryd.ntmps8
  go_wp2_with (first
    | (go_at_call 10
       refine (awake_any _).mono ?_
       rintro e w1 ⟨rfl, hm1⟩
       have H1 := hide hm1
       clear hm1)
    | (go_at_call 9
       refine (new_eq (Mod.refl [] w1)).mono ?_
       rintro e w2 ⟨sb, wb, N0, rfl, s, -⟩
       have H2 := hide s
       clear s)
    | fail)
  go_loopw [18] (fun i wr => Free1 w1 sb wb l.length i wr) (fun i _ => l.length - (intOf i).toNat)
  case atStart => exact ⟨0, N0, [], Nat.zero_le _, rfl, H2.out, fun a ha => by cases ha⟩
  case round =>
    clear H2
    obtain ⟨k, N, L, hk, rfl, hs, hfr⟩ := hrel
    have HS := hide (And.intro hs hfr)
    have hmW := H1.out.then hs.mod
    clear hs hfr
    by_cases hlt : k < l.length
    · obtain ⟨b, off, rfl, hb, c0, c1, c2, c3⟩ := (HX.out.1.same hmW).at_ hlt
      have hmem : inE (l.getD k default) := HX.out.2.1 _ (by simp [hlt])
      obtain ⟨⟨xi, xp, xm, xw⟩, he⟩ : ∃ e, l.getD k default = e := ⟨_, rfl⟩
      rw [he] at c0 c1 c2 c3 hmem
      dsimp only at c0 c1 c2 c3
      have i1 : (0 : Int) ≤ (k : Int) := by omega
      have i2 : (k : Int) < (l.length : Int) := by omega
      have HM := hide (And.intro hmem hmW)
      have B3 := heap_alloc_new wr (objE xi xp xm xw)
      have HS3 := hide (And.intro (HS.out.1.gr ((Gr.refl wr).alloc (objE xi xp xm xw))) HS.out.2)
      have hsz3 : wr.heap.size < (wr.alloc (objE xi xp xm xw)).heap.size := by simp
      clear he hmem hmW HS
      have C3 := blk_cell B3
      go_wp2_with fail
      refine (clash_eq HS3.out.1.q xp HM.out.1.2 xm xw rfl).mono ?_
      rintro e w4 ⟨q4, c4, rfl, -, hm4⟩
      have B4 := hm4.at_ B3 (by simp)
      have HS4 := hide (And.intro (HS3.out.1.same hm4) HS3.out.2)
      clear hm4 B3 C3 HS3 c0 c1 c2 c3
      obtain ⟨eb, heb⟩ : ∃ eb, (((clashS5 L xp.data.toList xm xw).length : Int) == 0) = eb := ⟨_, rfl⟩
      have hst : ∃ L', (eb = true ∧ L' = (putS5 L ⟨xi, xp, xm, xw⟩).1 ∨ eb = false ∧ L' = L) ∧ FreeL L' := by
        cases eb
        · exact ⟨L, .inr ⟨rfl, rfl⟩, HS4.out.2⟩
        · rw [len_nil] at heb
          exact ⟨_, .inl ⟨rfl, rfl⟩, free_put HS4.out.2 _ _ _ _ (List.isEmpty_iff.1 heb)⟩
      have CB := blk_cell B4
      have t1 : Hid True := hide trivial
      obtain ⟨L', hL', hfr'⟩ := hst
      have HF := hide hfr'
      clear hfr' B4
      by_cases hgt : k < g.length
      · have i3 : (k : Int) < (g.length : Int) := by omega
        have hgm := HX.out.2.2.2 (g.getD k 0) (by simp [hgt])
        obtain ⟨y, hy⟩ : ∃ y, g.getD k 0 = y := ⟨_, rfl⟩
        rw [hy] at hgm
        have HG := hide (And.intro hy hgm)
        clear hy hgm
        rcases hL' with ⟨rfl, rfl⟩ | ⟨rfl, rfl⟩
        · go_wp2_with (first
            | (go_at_call 11
               refine (put_eq HS4.out.1 xi xp xm xw HM.out.1.2 HM.out.1.1 rfl).mono ?_
               rintro e w5 ⟨rfl, N5, s, -⟩
               have H5 := hide s
               have hmW5 := H1.out.then s.mod
               obtain ⟨gb, go, rfl, hgb, cg⟩ := (HX.out.2.2.1.mod hmW5 (by simp)).at_ k hgt
               rw [HG.out.1] at cg
               clear s hmW5 HS4 CB)
            | (go_at_call 12
               refine (drop_eq H5.out y HG.out.2 rfl rfl).mono ?_
               rintro e w6 ⟨rfl, N6, s, -⟩
               have H6 := hide s
               clear s H5 cg)
            | fail)
          go_roundw
          case rel => exact ⟨k + 1, N6, _, by omega, by go_num, H6.out, free_drop HF.out _⟩
          case measure => simp [intOf]; omega
        · have hmW5 := H1.out.then HS4.out.1.mod
          obtain ⟨gb, go, rfl, hgb, cg⟩ := (HX.out.2.2.1.mod hmW5 (by simp)).at_ k hgt
          rw [HG.out.1] at cg
          clear hmW5
          go_wp2_with (first
            | (go_at_call 12
               refine (drop_eq HS4.out.1 y HG.out.2 rfl rfl).mono ?_
               rintro e w6 ⟨rfl, N6, s, -⟩
               have H6 := hide s
               clear s HS4 cg)
            | fail)
          go_roundw
          case rel => exact ⟨k + 1, N6, _, by omega, by go_num, H6.out, free_drop HF.out _⟩
          case measure => simp [intOf]; omega
      · have i3 : ¬ (k : Int) < (g.length : Int) := by omega
        rcases hL' with ⟨rfl, rfl⟩ | ⟨rfl, rfl⟩
        · go_wp2_with (first
            | (go_at_call 11
               refine (put_eq HS4.out.1 xi xp xm xw HM.out.1.2 HM.out.1.1 rfl).mono ?_
               rintro e w5 ⟨rfl, N5, s, -⟩
               have H5 := hide s
               clear s HS4 CB)
            | fail)
          go_roundw
          case rel => exact ⟨k + 1, N5, _, by omega, by go_num, H5.out, HF.out⟩
          case measure => simp [intOf]; omega
        · go_wp2_with fail
          go_roundw
          case rel => exact ⟨k + 1, N, _, by omega, by go_num, HS4.out.1, HF.out⟩
          case measure => simp [intOf]; omega
    · have HMW := hide hmW
      clear hmW HX
      go_wp2_with fail
      refine (list_eq HS.out.1.q HS.out.1.srt).mono ?_
      rintro e w5 ⟨q5, c5, rfl, r5, hm5⟩
      have HR := hide r5
      have HE := hide (And.intro (HS.out.1.same hm5) (HMW.out.then hm5))
      have hcap := r5.cap
      have hfr := HS.out.2
      have hsm := HE.out.1.m.small
      have hLl : L.length ≤ 9223372036854775807 := by omega
      have HFR := hide hfr
      clear r5 hm5 hfr HS HMW
      go_wp2_with fail
      go_loopw [51] (fun i wr => KindRel w5 L.length i wr) (fun i _ => L.length - (intOf i).toNat)
      case atStart => exact ⟨0, Nat.zero_le _, rfl, Mod.refl _ _⟩
      case round =>
        obtain ⟨k2, hk2, rfl, hmw⟩ := hrel
        by_cases hlt2 : k2 < L.length
        · obtain ⟨gb, rfl, -, hgb, c0, c1, c2, c3⟩ := RowE.at_ (HR.out.mod hmw (by simp)) hlt2
          have hmem : L.getD k2 default ∈ L := by simp [hlt2]
          obtain ⟨⟨xi, xp, xm, xw⟩, he⟩ : ∃ e, L.getD k2 default = e := ⟨_, rfl⟩
          rw [he] at c0 c1 c2 c3 hmem
          dsimp only at c0 c1 c2 c3
          have hok := HE.out.1.m.ok _ hmem
          have i1 : (0 : Int) ≤ (k2 : Int) := by omega
          have i2 : (k2 : Int) < (L.length : Int) := by omega
          have i3 : (k2 : Int) ≤ (c5 : Int) := by omega
          have i4 : k2 ≤ c5 := by omega
          have HA := hide (And.intro hmem (And.intro hok (path_le hok.1)))
          obtain ⟨wx, hwx⟩ : ∃ wx : World, wx = wr.alloc (objE xi xp xm xw) := ⟨_, rfl⟩
          have BX : wx.heap[wr.heap.size]? = some (objE xi xp xm xw) := by rw [hwx]; exact heap_alloc_new wr _
          have mx : Mod [] w5 wx := by rw [hwx]; exact hmw.alloc _
          have HX2 := hide (And.intro BX mx)
          have hbx : wr.heap.size < wx.heap.size := lt_of_block BX
          generalize hbb : wr.heap.size = bx at HX2 hbx BX
          clear hmem hok he BX mx
          go_wp2_with fail
          rw [← hwx]
          clear hwx
          go_loopw [60] (fun i w2 => KindRel wx k2 i w2) (fun i _ => k2 - (intOf i).toNat)
          case atStart => exact ⟨0, Nat.zero_le _, rfl, Mod.refl _ _⟩
          case round =>
            clear c0 c1 c2 c3
            obtain ⟨j, hj, rfl, hm2⟩ := hrel
            have BZ := hm2.at_ HX2.out.1 (by simp)
            by_cases hjt : j < k2
            · obtain ⟨gb', e', -, hgb', d0, d1, d2, d3⟩ := RowE.at_ ((HR.out.mod HX2.out.2 (by simp)).mod hm2 (by simp)) (i := j) (by omega)
              obtain rfl : gb = gb' := by simpa using e'
              have hmem2 : L.getD j default ∈ L := by
                have : j < L.length := by omega
                simp [this]
              obtain ⟨⟨yi, yp, ym, yw⟩, hy⟩ : ∃ e, L.getD j default = e := ⟨_, rfl⟩
              rw [hy] at d0 d1 d2 d3 hmem2
              dsimp only at d0 d1 d2 d3
              have hok2 := HE.out.1.m.ok _ hmem2
              obtain ⟨bw, hbw⟩ : ∃ b, (xw != yw) = b := ⟨_, rfl⟩
              obtain ⟨ov, hov⟩ : ∃ b, (coversB xp.data.toList yp.data.toList || coversB yp.data.toList xp.data.toList) = b := ⟨_, rfl⟩
              obtain ⟨ma, hma⟩ : ∃ b, (xm != 1) = b := ⟨_, rfl⟩
              obtain ⟨mb, hmb⟩ : ∃ b, (ym != 1) = b := ⟨_, rfl⟩
              have hag := HFR.out _ HA.out.1 _ hmem2
              have hcs : (bw && ov && (ma || mb)) = false := by
                rw [← hbw, ← hov, ← hma, ← hmb, mode_bool HA.out.2.1.2, mode_bool hok2.2]
                exact hag
              have HP := hide (And.intro HA.out.2.2 (And.intro (path_le hok2.1) hov))
              have i5 : (0 : Int) ≤ (j : Int) := by omega
              have i6 : (j : Int) < (k2 : Int) := by omega
              have CZ := blk_cell (blk_alloc BZ (objE yi yp ym yw))
              have CY := blk_cell (heap_alloc_new w2 (objE yi yp ym yw))
              have m3 := hm2.alloc (objE yi yp ym yw)
              have HM3 := hide m3
              have hsz2 := hm2.size
              have hcs3 := free_bool hcs
              clear e' hmem2 hy hok2 hov hag hcs m3 hm2 BZ
              rcases hcs3 with rfl | ⟨rfl, rfl⟩ | ⟨rfl, rfl, rfl, rfl⟩
              all_goals
                go_wp2_with (first
                  | (go_at_call 25
                     refine (overlap_eq HP.out.1 HP.out.2.1 HP.out.2.2 _).mono ?_
                     rintro e w9 ⟨rfl, rfl⟩)
                  | fail)
                go_roundw
                case rel => exact ⟨j + 1, by omega, by go_num, HM3.out⟩
                case measure => simp [intOf]; omega
            · obtain rfl : j = k2 := by omega
              have CZ := blk_cell BZ
              have HM2 := hide (HX2.out.2.then hm2)
              clear BZ hm2
              go_wp2_with (first
                | (go_at_call 18
                   refine (clash_eq (HE.out.1.same HM2.out).q xp HA.out.2.2 xm xw (free_clash HFR.out HA.out.1 HA.out.2.1)).mono ?_
                   rintro e w4 ⟨q4, c4, rfl, -, hm4⟩
                   have HM4 := hide (HM2.out.then hm4)
                   clear hm4 CZ)
                | fail)
              go_roundw
              case rel => exact ⟨j + 1, by omega, by go_num, HM4.out⟩
              case measure => simp [intOf]; omega
        · go_wp2_with (first
            | (go_at_call 13
               refine (len_eq (HE.out.1.same hmw).q rfl).mono ?_
               rintro e y3 ⟨rfl, hw⟩
               subst hw)
            | fail)
          go_ret
          exact ⟨rfl, HE.out.2.then hmw⟩
end Go.Proofs.YthkcbennfochmaaDoor
