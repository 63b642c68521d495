/-
  LedW3 LedW4: see the remarks below.
-/
import Derived.Test.YtpphoeimakjjdaaGreatDoorMLedW2
import Derived.Test.YtpphoeimakjjdaaGreatDoorMLook
/-
  WALKS: layer 12: named. (Written by wip/gen_led3.py.)
-/
namespace Go.Proofs.YtpphoeimakjjdaaGreatDoor
open Go.RowKit Go.Shelf

def TD (bx db g : Nat) (q : Value) (c : UInt8) (w : World) : Prop := w.cell? ⟨bx, 0, none⟩ = some (.int .i64 (g : Int)) ∧ w.cell? ⟨bx, 4, none⟩ = some q ∧ w.cell? ⟨db, 0, none⟩ = some (.int .u8 (c.toNat : Int))
theorem TD.set {bx db g pl : Nat} {q : Value} {c : UInt8} {w : World} (h : TD bx db g q c w) (h1 : pl ≠ bx) (h2 : pl ≠ db) (o : Nat) (y : Value) : TD bx db g q c (w.setCell ⟨pl, o, none⟩ y) :=
  have m : Mod [pl] w (w.setCell ⟨pl, o, none⟩ y) := (Mod.refl _ _).setCell (fun _ => by simp) _
  ⟨m.kept h.1 (by simp; omega), m.kept h.2.1 (by simp; omega), m.kept h.2.2 (by simp; omega)⟩
theorem RowY.head {w : World} {base : Nat} {q : Option Addr} {n c : Nat} {cb : UInt8} {l : B8} (h : RowY w base (.slice q n c) (cb :: l)) : ∃ db, q = some ⟨db, 0, none⟩ ∧ db < w.heap.size ∧ base ≤ db ∧ w.cell? ⟨db, 0, none⟩ = some (.int .u8 (cb.toNat : Int)) := by
  unfold RowY at h
  rcases h.2 with ⟨hv, hn⟩ | ⟨g, cap, cur, hv, hb, hg, hh1, hh2, hs, ht⟩
  · simp at hn
  · simp only [Value.slice.injEq] at hv
    obtain ⟨rfl, rfl, rfl⟩ := hv
    refine ⟨g, rfl, lt_of_block hg, hb, ?_⟩
    rw [h.cellAt 0 (by simp)]
    rfl
def NamedTo (w : World) (pl pd bs : Nat) (gv : Value) (lv : List (Grt × Value)) (d : Dk) (l : Lg) (o : Option (Nat × Nat)) (e : Ending) (w' : World) : Prop :=
  (d.off = true ∧ e = .returned (.tuple #[.bool false, .int .i64 40]) ∧ LgM w' pl pd bs gv lv d l ∧ Mod [] w w') ∨
  (d.off = false ∧ o = none ∧ e = .returned (.tuple #[.bool false, .int .i64 0]) ∧ LgM w' pl pd bs gv lv d l ∧ Mod [] w w') ∨
  (d.off = false ∧ ∃ g k, o = some (g, k) ∧ e = .returned (.tuple #[.bool true, .int .i64 0]) ∧ LgM w' pl pd bs gv lv d { l with gen := g, area := k } ∧ Mod [pl] w w')
set_option maxHeartbeats 4000000 in
set_option maxRecDepth 100000 in
theorem named_any {w : World} {pl pd bs : Nat} {gv : Value} {lv : List (Grt × Value)} {d : Dk} {l : Lg} (h : LgM w pl pd bs gv lv d l) :
    Calls Tryz.prog 43 #[.pointer (some ⟨pl, 0, none⟩)] w fun e w' => NamedTo w pl pd bs gv lv d l (headS (d.secs.getD 0 [])) e w' := by
  have hlt := h.lt
  have hplw := lt_of_block h.blk
  have C0 := blk_cell h.blk
  unfold lgCells at C0
  have hrd := read_any h.dk 0
  cases hd : d.off with
  | true =>
    have hfd : faultD d 0 = 40 := by unfold faultD; rw [if_pos hd]
    have hrd2 := hrd.mono (R' := fun e w' => e = .returned (.tuple #[.slice none 0 0, .int .i64 40]) ∧ w' = w) (fun e w' hx => by
      rcases hx with ⟨_, h1, h2⟩ | ⟨h0, _⟩
      · rw [hfd] at h1; exact ⟨h1, h2⟩
      · rw [hfd] at h0; cases h0)
    have HH := hide (And.intro h hd)
    clear hrd hfd hd h
    go_enter Tryz.func43, Tryz.ntmps43
    go_wp2_with (go_at_call 72; refine hrd2.mono ?_; rintro e w1 ⟨rfl, hx1⟩; rw [hx1]; clear hx1)
    go_ret2
    exact .inl ⟨HH.out.2, rfl, HH.out.1, Mod.refl _ _⟩
  | false =>
  have hfd : faultD d 0 = 0 := by unfold faultD; rw [if_neg (by simp [hd]), if_neg (by have := h.dk.ok.least; omega)]
  have hrd2 := hrd.mono (R' := fun e w' => e = .returned (.tuple #[.slice (some ⟨w.heap.size, 0, none⟩) 64 64, .int .i64 0]) ∧ w' = w.alloc (.cells ((d.secs.getD 0 []).map y8).toArray 114 (0, 0))) (fun e w' hx => by
    rcases hx with ⟨h0, _⟩ | ⟨_, _, h1, h2⟩
    · exact absurd hfd h0
    · exact ⟨h1, h2⟩)
  have hln := h.dk.ok.all 0 (by have := h.dk.ok.least; omega)
  generalize d.secs.getD 0 [] = B at hrd2 hln ⊢
  obtain ⟨W1, hW1⟩ : ∃ W1, W1 = w.alloc (.cells (B.map y8).toArray 114 (0, 0)) := ⟨_, rfl⟩
  have g1 : Gr w W1 := by rw [hW1]; exact (Gr.refl w).alloc _
  have hb1 : W1.heap[w.heap.size]? = some (.cells (B.map y8).toArray 114 (0, 0)) := by rw [hW1]; exact heap_alloc_new w _
  rw [← hW1] at hrd2
  have hel : RdY W1 (.slice (some ⟨w.heap.size, 0, none⟩) 64 64) B := by
    refine ⟨by rw [hln]; decide, .inr ⟨w.heap.size, 0, 64, by rw [hln], ⟨by rw [hln]; exact Nat.le_refl _, by decide⟩, lt_of_block hb1, fun i hi => ?_⟩⟩
    rw [Nat.zero_add, blk_cell hb1, List.getElem?_toArray, map_y8_get B hi]
  have hlk := look_any hel
  have hlg1 := h.quiet (g1.mod [])
  have HH := hide (And.intro hlg1 (And.intro hd (g1.mod [])))
  have hoff := hd
  clear hrd hfd h hb1 hel hW1 g1 hlg1 hd
  cases hlo : lookS B with
  | none =>
    rw [hlo] at hlk
    have hhe : headS B = none := by unfold headS; rw [hlo]; rfl
    rw [hhe]
    clear hhe hlo
    go_enter Tryz.func43, Tryz.ntmps43
    go_wp2_with (first
      | (go_at_call 72; refine hrd2.mono ?_; rintro e w1 ⟨rfl, hx1⟩; rw [hx1]; clear hx1)
      | (go_at_call 73; refine hlk.mono ?_; rintro e w2 ⟨rfl, hm2⟩; have H2 := hide hm2; clear hm2 hlk)
      | fail)
    go_ret2
    have hq : Mod [] W1 _ := (H2.out).alloc (.cells #[.int .i64 0, .int .i64 0, .int .i64 0, .int .i64 0, .slice none 0 0] 118 (0, 0))
    exact .inr (.inl ⟨HH.out.2.1, rfl, rfl, HH.out.1.quiet hq, HH.out.2.2.then hq⟩)
  | some p =>
    rw [hlo] at hlk
    obtain ⟨g, sq, ix, pa, dt⟩ := p
    unfold LookTo at hlk
    simp only at hlk
    have hhe : headS B = if sq = 0 ∧ pa = 1 ∧ dt.length = 1 ∧ (dt.getD 0 0).toNat ≤ 1 then some (g, (dt.getD 0 0).toNat) else none := by unfold headS; rw [hlo]; rfl
    have hfit := (look_fits hlo).2.1
    simp only at hfit
    clear hlo
    rw [hhe]
    clear hhe
    by_cases hgood : sq = 0 ∧ pa = 1 ∧ dt.length = 1 ∧ (dt.getD 0 0).toNat ≤ 1
    · rw [if_pos hgood]
      obtain ⟨rfl, rfl, hl1, hc1⟩ := hgood
      obtain ⟨cb, hdt⟩ : ∃ cb, dt = [cb] := by
        match dt, hl1 with
        | [x], _ => exact ⟨x, rfl⟩
      subst hdt
      simp only [List.getD_cons_zero] at hc1 ⊢
      clear hl1
      go_enter Tryz.func43, Tryz.ntmps43
      go_upto_region 7 with (first
        | (go_at_call 72; refine hrd2.mono ?_; rintro e w1 ⟨rfl, hx1⟩; rw [hx1]; clear hx1)
        | (go_at_call 73; refine hlk.mono ?_; rintro e w2 ⟨q, c, rfl, hr2, hm2⟩
           obtain ⟨db, hdb, hdbw, hdbb, hdc⟩ := hr2.head
           subst hdb
           have H2 := hide (And.intro hdc (And.intro hm2 (And.intro hdbw hdbb)))
           clear hr2 hm2 hlk hdbb)
        | fail)
      obtain ⟨w3, hw3⟩ : ∃ w3, w3 = w2.alloc (.cells #[.int .i64 (g : Int), .int .i64 0, .int .i64 (ix : Int), .int .i64 1, .slice (some ⟨db, 0, none⟩) 1 c] 118 (0, 0)) := ⟨_, rfl⟩
      rw [← hw3]
      have g3 : Gr w2 w3 := by rw [hw3]; exact (Gr.refl w2).alloc _
      have hp3 : w3.heap[w2.heap.size]? = some (.cells #[.int .i64 (g : Int), .int .i64 0, .int .i64 (ix : Int), .int .i64 1, .slice (some ⟨db, 0, none⟩) 1 c] 118 (0, 0)) := by rw [hw3]; exact heap_alloc_new w2 _
      have hm13 : Mod [] W1 w3 := H2.out.2.1.gr g3
      have hlg3 := HH.out.1.quiet hm13
      have hTD : TD w2.heap.size db g (.slice (some ⟨db, 0, none⟩) 1 c) cb w3.drew := ⟨blk_cell hp3 0, blk_cell hp3 4, g3.kept H2.out.1⟩
      have hsz1 := HH.out.2.2.size
      have hsz2 := H2.out.2.1.size
      have hbx : pl ≠ w2.heap.size := by omega
      have hdb : pl ≠ db := by have := H2.out.2.2.2; omega
      have hwc : IntKind.i64.wrap (cb.toNat : Int) = (cb.toNat : Int) := by rw [IntKind.wrap_i64]; omega
      have HL3 := hide hlg3
      have HM3 := hide (HH.out.2.2.then hm13)
      obtain ⟨bx, hbxe⟩ : ∃ bx, w2.heap.size = bx := ⟨_, rfl⟩
      rw [hbxe] at hTD hbx ⊢
      clear hw3 g3 hp3 hm13 hlg3 H2 hsz1 hsz2 hbxe hdc hdbw C0
      refine wpL_start (s := 14) (T := TD bx db g (.slice (some ⟨db, 0, none⟩) 1 c) cb) (by kernel_rfl) (fun hc => ?_)
      have hT : TD bx db g (.slice (some ⟨db, 0, none⟩) 1 c) cb w3.drew := hTD
      refine wpL_pure (i := 0) (oi := { dst := some 49, op := Op.move (Operand.tmp 0), type := 26, pos := "ledger.go:60", after := #[], guard := none }) (v := ?_) rfl (by kernel_rfl) (by kernel_rfl) (by kernel_rfl) (fun _ _ _ h => h) (by decide) hc (Or.inl ⟨by rfl, ?_⟩) (fun _ => hT) (fun hc2 => ?_)
      rotate_left
      · (intro w _; go_simp; try with_reducible rfl)
      clear hc; have hc := hc2; clear hc2
      try simp only [Act.put, List.setIfInBounds_toArray, List.set_cons_zero, List.set_cons_succ]
      refine wpL_pure (i := 1) (oi := { dst := some 50, op := Op.move (Operand.tmp 0), type := 26, pos := "ledger.go:60", after := #[{ on := 11, ground := Ground.gcOnly Departure.lateStores }], guard := none }) (v := ?_) rfl (by kernel_rfl) (by kernel_rfl) (by kernel_rfl) (fun _ _ _ h => h) (by decide) hc (Or.inl ⟨by rfl, ?_⟩) (fun _ => hT) (fun hc2 => ?_)
      rotate_left
      · (intro w _; go_simp; try with_reducible rfl)
      clear hc; have hc := hc2; clear hc2
      try simp only [Act.put, List.setIfInBounds_toArray, List.set_cons_zero, List.set_cons_succ]
      refine wpL_pure (i := 2) (oi := { dst := some 51, op := Op.fieldAddr 118 (Operand.tmp 6) 0, type := 0, pos := "ledger.go:60", after := #[], guard := none }) (v := ?_) rfl (by kernel_rfl) (by kernel_rfl) (by kernel_rfl) (fun _ _ _ h => h) (by decide) hc (Or.inl ⟨by rfl, ?_⟩) (fun _ => hT) (fun hc2 => ?_)
      rotate_left
      · (intro w _; go_simp; try with_reducible rfl)
      clear hc; have hc := hc2; clear hc2
      try simp only [Act.put, List.setIfInBounds_toArray, List.set_cons_zero, List.set_cons_succ]
      refine wpL_take (T' := TD bx db g (.slice (some ⟨db, 0, none⟩) 1 c) cb) (i := 3) (oi := { dst := some 52, op := Op.load 3 (Operand.tmp 51), type := 3, pos := "ledger.go:60", after := #[gD 2], guard := none }) (v := ?_) rfl (by kernel_rfl) (by kernel_rfl) (by kernel_rfl) (fun _ _ _ h => h) (by decide) (fun l2 w hc3 hu hs => hs (by
        cases hS : l2.getD 14 false with
        | false => exact getD_in (by rw [hc3.size]; decide) hS
        | true =>
          have a0 := hc3.step (k := 3) (by kernel_rfl) hS
          rw [getD_tf hu] at a0
          cases a0)) hc (Or.inl ⟨by rfl, ?_⟩) (fun _ => hT) (fun hc2 => ?_)
      rotate_left
      · (intro w hSw; have C0 := hSw.1; have C1 := hSw.2.1; have C2 := hSw.2.2; go_simp; try with_reducible rfl)
      clear hc; have hc := hc2; clear hc2
      try simp only [Act.put, List.setIfInBounds_toArray, List.set_cons_zero, List.set_cons_succ]
      refine wpL_pure (i := 4) (oi := { dst := some 53, op := Op.fieldAddr 118 (Operand.tmp 6) 4, type := 0, pos := "ledger.go:60", after := #[], guard := none }) (v := ?_) rfl (by kernel_rfl) (by kernel_rfl) (by kernel_rfl) (fun _ _ _ h => h) (by decide) hc (Or.inl ⟨by rfl, ?_⟩) (fun _ => hT) (fun hc2 => ?_)
      rotate_left
      · (intro w _; go_simp; try with_reducible rfl)
      clear hc; have hc := hc2; clear hc2
      try simp only [Act.put, List.setIfInBounds_toArray, List.set_cons_zero, List.set_cons_succ]
      refine wpL_take (T' := TD bx db g (.slice (some ⟨db, 0, none⟩) 1 c) cb) (i := 5) (oi := { dst := some 54, op := Op.load 71 (Operand.tmp 53), type := 71, pos := "ledger.go:60", after := #[gD 4], guard := none }) (v := ?_) rfl (by kernel_rfl) (by kernel_rfl) (by kernel_rfl) (fun _ _ _ h => h) (by decide) (fun l2 w hc3 hu hs => hs (by
        cases hS : l2.getD 14 false with
        | false => exact getD_in (by rw [hc3.size]; decide) hS
        | true =>
          have a0 := hc3.step (k := 5) (by kernel_rfl) hS
          rw [getD_tf hu] at a0
          cases a0)) hc (Or.inl ⟨by rfl, ?_⟩) (fun _ => hT) (fun hc2 => ?_)
      rotate_left
      · (intro w hSw; have C0 := hSw.1; have C1 := hSw.2.1; have C2 := hSw.2.2; go_simp; try with_reducible rfl)
      clear hc; have hc := hc2; clear hc2
      try simp only [Act.put, List.setIfInBounds_toArray, List.set_cons_zero, List.set_cons_succ]
      refine wpL_pure (i := 6) (oi := { dst := some 55, op := Op.indexAddr 71 (Operand.tmp 54) (Operand.const (Value.int IntKind.i64 0)), type := 0, pos := "ledger.go:60", after := #[gD 5], guard := none }) (v := ?_) rfl (by kernel_rfl) (by kernel_rfl) (by kernel_rfl) (fun _ _ _ h => h) (by decide) hc (Or.inl ⟨by rfl, ?_⟩) (fun _ => hT) (fun hc2 => ?_)
      rotate_left
      · (intro w _; go_simp; try with_reducible rfl)
      clear hc; have hc := hc2; clear hc2
      try simp only [Act.put, List.setIfInBounds_toArray, List.set_cons_zero, List.set_cons_succ]
      refine wpL_take (T' := TD bx db g (.slice (some ⟨db, 0, none⟩) 1 c) cb) (i := 7) (oi := { dst := some 56, op := Op.load 5 (Operand.tmp 55), type := 5, pos := "ledger.go:60", after := #[gD 6], guard := none }) (v := ?_) rfl (by kernel_rfl) (by kernel_rfl) (by kernel_rfl) (fun _ _ _ h => h) (by decide) (fun l2 w hc3 hu hs => hs (by
        cases hS : l2.getD 14 false with
        | false => exact getD_in (by rw [hc3.size]; decide) hS
        | true =>
          have a0 := hc3.step (k := 7) (by kernel_rfl) hS
          rw [getD_tf hu] at a0
          cases a0)) hc (Or.inl ⟨by rfl, ?_⟩) (fun _ => hT) (fun hc2 => ?_)
      rotate_left
      · (intro w hSw; have C0 := hSw.1; have C1 := hSw.2.1; have C2 := hSw.2.2; go_simp; try with_reducible rfl)
      clear hc; have hc := hc2; clear hc2
      try simp only [Act.put, List.setIfInBounds_toArray, List.set_cons_zero, List.set_cons_succ]
      refine wpL_pure (i := 8) (oi := { dst := some 57, op := Op.convert 5 3 (Operand.tmp 56), type := 3, pos := "ledger.go:60", after := #[gD 7], guard := none }) (v := ?_) rfl (by kernel_rfl) (by kernel_rfl) (by kernel_rfl) (fun _ _ _ h => h) (by decide) hc (Or.inl ⟨by rfl, ?_⟩) (fun _ => hT) (fun hc2 => ?_)
      rotate_left
      · (intro w _; go_simp; try with_reducible rfl)
      clear hc; have hc := hc2; clear hc2
      try simp only [Act.put, List.setIfInBounds_toArray, List.set_cons_zero, List.set_cons_succ]
      refine wpL_pure (i := 9) (oi := { dst := some 58, op := Op.nilCheck (Operand.tmp 49), type := 0, pos := "ledger.go:60", after := #[gD 0, gP 0, { on := 1, ground := Ground.textOnly Departure.lateStores }, gP 2, gP 3, { on := 4, ground := Ground.textOnly Departure.lateStores }, { on := 5, ground := Ground.textOnly Departure.lateStores }, { on := 6, ground := Ground.textOnly Departure.lateStoresUnsure }, gP 7, { on := 8, ground := Ground.textOnly Departure.lateStoresUnsure }], guard := none }) (v := ?_) rfl (by kernel_rfl) (by kernel_rfl) (by kernel_rfl) (fun _ _ _ h => h) (by decide) hc (Or.inl ⟨by rfl, ?_⟩) (fun _ => hT) (fun hc2 => ?_)
      rotate_left
      · (intro w _; go_simp; try with_reducible rfl)
      clear hc; have hc := hc2; clear hc2
      try simp only [Act.put, List.setIfInBounds_toArray, List.set_cons_zero, List.set_cons_succ]
      refine wpL_pure (i := 10) (oi := { dst := some 59, op := Op.fieldAddr 80 (Operand.tmp 58) 1, type := 0, pos := "ledger.go:60", after := #[gD 9, gP 0, { on := 1, ground := Ground.textOnly Departure.lateStores }, gP 2, gP 3, { on := 4, ground := Ground.textOnly Departure.lateStores }, { on := 5, ground := Ground.textOnly Departure.lateStores }, { on := 6, ground := Ground.textOnly Departure.lateStoresUnsure }, gP 7, { on := 8, ground := Ground.textOnly Departure.lateStoresUnsure }], guard := none }) (v := ?_) rfl (by kernel_rfl) (by kernel_rfl) (by kernel_rfl) (fun _ _ _ h => h) (by decide) hc (Or.inl ⟨by rfl, ?_⟩) (fun _ => hT) (fun hc2 => ?_)
      rotate_left
      · (intro w _; go_simp; try with_reducible rfl)
      clear hc; have hc := hc2; clear hc2
      try simp only [Act.put, List.setIfInBounds_toArray, List.set_cons_zero, List.set_cons_succ]
      refine wpL_ready (rs := [11]) (by kernel_rfl) (by simp) ?_ hc
      intro i hi hc2
      simp only [List.mem_cons, List.mem_nil_iff, or_false] at hi
      subst hi
      clear hc; have hc := hc2; clear hc2
      refine wpOp_step (o := { dst := none, op := Op.store 3 (Operand.tmp 59) (Operand.tmp 52), type := 0, pos := "ledger.go:60", after := #[gD 10, gD 3, gP 0, { on := 1, ground := Ground.textOnly Departure.lateStores }, gP 2, gP 3, { on := 4, ground := Ground.textOnly Departure.lateStores }, { on := 5, ground := Ground.textOnly Departure.lateStores }, { on := 6, ground := Ground.textOnly Departure.lateStoresUnsure }, gP 7, { on := 8, ground := Ground.textOnly Departure.lateStoresUnsure }], guard := none }) rfl (fun K hK => ?_)
      have HK := hide hK
      clear hK
      have C3 := blk_cell (w := w3) HL3.out.blk
      have F3 := blk_free (w := w3) HL3.out.blk
      unfold lgCells at C3
      go_simp
      have hT2 : TD bx db g (.slice (some ⟨db, 0, none⟩) 1 c) cb (w3.drew.setCell ⟨pl, 1, none⟩ (.int .i64 (g : Int))) := hT.set hbx hdb _ _
      clear C3 F3
      refine HK.out _ _ ⟨fun _ => hT2, ?_⟩
      clear HK K hT
      have hT := hT2
      clear hT2
      try simp only [Act.put, List.setIfInBounds_toArray, List.set_cons_zero, List.set_cons_succ]
      refine wpL_pure (i := 12) (oi := { dst := some 60, op := Op.nilCheck (Operand.tmp 50), type := 0, pos := "ledger.go:60", after := #[gD 1, gP 0, gP 1, gP 2, gP 3, gP 4, gP 5, gP 6, gP 7, gP 8, gP 9, gP 10, gP 11], guard := none }) (v := ?_) rfl (by kernel_rfl) (by kernel_rfl) (by kernel_rfl) (fun _ _ _ h => h) (by decide) hc (Or.inl ⟨by rfl, ?_⟩) (fun _ => hT) (fun hc2 => ?_)
      rotate_left
      · (intro w _; go_simp; try with_reducible rfl)
      clear hc; have hc := hc2; clear hc2
      try simp only [Act.put, List.setIfInBounds_toArray, List.set_cons_zero, List.set_cons_succ]
      refine wpL_pure (i := 13) (oi := { dst := some 61, op := Op.fieldAddr 80 (Operand.tmp 60) 2, type := 0, pos := "ledger.go:60", after := #[gD 12, gP 0, gP 1, gP 2, gP 3, gP 4, gP 5, gP 6, gP 7, gP 8, gP 9, gP 10, gP 11], guard := none }) (v := ?_) rfl (by kernel_rfl) (by kernel_rfl) (by kernel_rfl) (fun _ _ _ h => h) (by decide) hc (Or.inl ⟨by rfl, ?_⟩) (fun _ => hT) (fun hc2 => ?_)
      rotate_left
      · (intro w _; go_simp; try with_reducible rfl)
      clear hc; have hc := hc2; clear hc2
      try simp only [Act.put, List.setIfInBounds_toArray, List.set_cons_zero, List.set_cons_succ]
      refine wpL_ready (rs := [14]) (by kernel_rfl) (by simp) ?_ hc
      intro i hi hc2
      simp only [List.mem_cons, List.mem_nil_iff, or_false] at hi
      subst hi
      clear hc; have hc := hc2; clear hc2
      refine wpOp_step (o := { dst := none, op := Op.store 3 (Operand.tmp 61) (Operand.tmp 57), type := 0, pos := "ledger.go:60", after := #[gD 13, gD 8, gC 11, gP 0, gP 1, gP 2, gP 3, gP 4, gP 5, gP 6, gP 7, gP 8, gP 9, gP 10, gP 11], guard := none }) rfl (fun K hK => ?_)
      have HK := hide hK
      clear hK
      have C3 := blk_cell (w := w3) HL3.out.blk
      have F3 := blk_free (w := w3) HL3.out.blk
      unfold lgCells at C3
      go_simp
      clear C3 F3
      refine HK.out _ _ ⟨fun h => by simp at h, ?_⟩
      clear HK K hT
      have hT := hc.size
      try simp only [Act.put, List.setIfInBounds_toArray, List.set_cons_zero, List.set_cons_succ]
      refine wpL_done (by kernel_rfl) ?_
      clear hT hc
      go_wp2_with fail
      go_ret2
      refine .inr (.inr ⟨HH.out.2.1, g, cb.toNat, rfl, rfl, ?_, ?_⟩)
      · have hms : Mod [pl] w3 ((w3.setCell ⟨pl, 1, none⟩ (.int .i64 (g : Int))).setCell ⟨pl, 2, none⟩ (.int .i64 (cb.toNat : Int))).drew := (((Mod.refl _ _).setCell (fun _ => by simp) _).setCell (fun _ => by simp) _).drew
        exact HL3.out.cells (l' := { l with gen := g, area := cb.toNat }) (blk_set (blk_set (w := w3) HL3.out.blk 1 _) 2 _) hms (HL3.out.bkm hms)
      · exact (((HM3.out.mono (by simp)).setCell (fun _ => by simp) _).setCell (fun _ => by simp) _).drew
    · rw [if_neg hgood]
      have hq : Mod [] W1 W1 := Mod.refl _ _
      have hways : ((sq : Int) != 0) = true ∨ (((sq : Int) != 0) = false ∧ ((pa : Int) != 1) = true) ∨ (((sq : Int) != 0) = false ∧ ((pa : Int) != 1) = false ∧ ((dt.length : Int) != 1) = true) ∨ (((sq : Int) != 0) = false ∧ ((pa : Int) != 1) = false ∧ ((dt.length : Int) != 1) = false ∧ ∃ cb : UInt8, dt = [cb] ∧ (1 : Int) < (cb.toNat : Int)) := by
        by_cases h1 : sq = 0
        · by_cases h2 : pa = 1
          · by_cases h3 : dt.length = 1
            · refine .inr (.inr (.inr ⟨by simp [h1], by simp [h2], by simp [h3], ?_⟩))
              obtain ⟨cb, hdt⟩ : ∃ cb, dt = [cb] := by
                match dt, h3 with
                | [x], _ => exact ⟨x, rfl⟩
              subst hdt
              refine ⟨cb, rfl, ?_⟩
              refine Classical.byContradiction fun hx => hgood ⟨h1, h2, rfl, ?_⟩
              simp only [List.getD_cons_zero]
              omega
            · exact .inr (.inr (.inl ⟨by simp [h1], by simp [h2], by rw [bne_iff_ne]; omega⟩))
          · exact .inr (.inl ⟨by simp [h1], by rw [bne_iff_ne]; omega⟩)
        · exact .inl (by rw [bne_iff_ne]; omega)
      clear hgood hq
      rcases hways with h1 | ⟨h1, h2⟩ | ⟨h1, h2, h3⟩ | ⟨h1, h2, h3, cb, rfl, h4⟩
      · go_enter Tryz.func43, Tryz.ntmps43
        go_wp2_with (first
          | (go_at_call 72; refine hrd2.mono ?_; rintro e w1 ⟨rfl, hx1⟩; rw [hx1]; clear hx1)
          | (go_at_call 73; refine hlk.mono ?_; rintro e w2 ⟨q, c, rfl, hr2, hm2⟩
             have H2 := hide hm2
             clear hr2 hm2 hlk)
          | fail)
        go_ret2
        have hq : Mod [] W1 _ := (H2.out).alloc (.cells #[.int .i64 (g : Int), .int .i64 (sq : Int), .int .i64 (ix : Int), .int .i64 (pa : Int), .slice q dt.length c] 118 (0, 0))
        exact .inr (.inl ⟨HH.out.2.1, rfl, rfl, HH.out.1.quiet hq, HH.out.2.2.then hq⟩)
      · go_enter Tryz.func43, Tryz.ntmps43
        go_wp2_with (first
          | (go_at_call 72; refine hrd2.mono ?_; rintro e w1 ⟨rfl, hx1⟩; rw [hx1]; clear hx1)
          | (go_at_call 73; refine hlk.mono ?_; rintro e w2 ⟨q, c, rfl, hr2, hm2⟩
             have H2 := hide hm2
             clear hr2 hm2 hlk)
          | fail)
        go_ret2
        have hq : Mod [] W1 _ := (H2.out).alloc (.cells #[.int .i64 (g : Int), .int .i64 (sq : Int), .int .i64 (ix : Int), .int .i64 (pa : Int), .slice q dt.length c] 118 (0, 0))
        exact .inr (.inl ⟨HH.out.2.1, rfl, rfl, HH.out.1.quiet hq, HH.out.2.2.then hq⟩)
      · go_enter Tryz.func43, Tryz.ntmps43
        go_wp2_with (first
          | (go_at_call 72; refine hrd2.mono ?_; rintro e w1 ⟨rfl, hx1⟩; rw [hx1]; clear hx1)
          | (go_at_call 73; refine hlk.mono ?_; rintro e w2 ⟨q, c, rfl, hr2, hm2⟩
             have H2 := hide hm2
             clear hr2 hm2 hlk)
          | fail)
        go_ret2
        have hq : Mod [] W1 _ := (H2.out).alloc (.cells #[.int .i64 (g : Int), .int .i64 (sq : Int), .int .i64 (ix : Int), .int .i64 (pa : Int), .slice q dt.length c] 118 (0, 0))
        exact .inr (.inl ⟨HH.out.2.1, rfl, rfl, HH.out.1.quiet hq, HH.out.2.2.then hq⟩)
      · have h5 : decide ((1 : Int) < (cb.toNat : Int)) = true := decide_eq_true h4
        have h6 : 1 < cb.toNat := by omega
        go_enter Tryz.func43, Tryz.ntmps43
        go_wp2_with (first
          | (go_at_call 72; refine hrd2.mono ?_; rintro e w1 ⟨rfl, hx1⟩; rw [hx1]; clear hx1)
          | (go_at_call 73; refine hlk.mono ?_; rintro e w2 ⟨q, c, rfl, hr2, hm2⟩
             obtain ⟨db, hdb, hdbw, -, hdc⟩ := hr2.head
             subst hdb
             have H2 := hide hm2
             clear hr2 hm2 hlk)
          | fail)
        go_ret2
        have hq : Mod [] W1 _ := (H2.out).alloc (.cells #[.int .i64 (g : Int), .int .i64 (sq : Int), .int .i64 (ix : Int), .int .i64 (pa : Int), .slice (some ⟨db, 0, none⟩) [cb].length c] 118 (0, 0))
        exact .inr (.inl ⟨HH.out.2.1, rfl, rfl, HH.out.1.quiet hq, HH.out.2.2.then hq⟩)
end Go.Proofs.YtpphoeimakjjdaaGreatDoor
/-
  WALKS: layer 12: nextGen. (Written by wip/gen_led3.py.)
-/
namespace Go.Proofs.YtpphoeimakjjdaaGreatDoor
open Go.RowKit Go.Shelf

def TL (pl pd : Nat) (ar : Int) (w : World) : Prop := w.cell? ⟨pl, 0, none⟩ = some (.pointer (some ⟨pd, 0, none⟩)) ∧ w.cell? ⟨pl, 2, none⟩ = some (.int .i64 ar)
def ngD (d : Dk) (l : Lg) : Int × Int × Lg :=
  if d.off = true then (0, 40, deadL l) else if 1073741824 ≤ maxGen l.gen (sideS d.secs (1 - l.area)) then (0, 42, l) else ((maxGen l.gen (sideS d.secs (1 - l.area)) : Nat) + 1, 0, l)
def NgTo (w : World) (pl pd bs : Nat) (gv : Value) (lv : List (Grt × Value)) (d : Dk) (t : Int × Int × Lg) (e : Ending) (w' : World) : Prop :=
  e = .returned (.tuple #[.int .i64 t.1, .int .i64 t.2.1]) ∧ LgM w' pl pd bs gv lv d t.2.2 ∧ Mod [pl] w w'
theorem maxGen_snoc (g : Nat) (l : List B8) (b : B8) : maxGen g (l ++ [b]) = (match lookS b with | some p => max (maxGen g l) p.gen | none => maxGen g l) := by
  unfold maxGen
  rw [List.foldl_append]
  rfl
theorem maxGen_le : ∀ (l : List B8) (g : Nat), g ≤ 1073741824 → maxGen g l ≤ 1073741824 ∧ g ≤ maxGen g l
  | [], g, h => ⟨h, Nat.le_refl _⟩
  | b :: l, g, h => by
    have e : maxGen g (b :: l) = maxGen (match lookS b with | some p => max g p.gen | none => g) l := rfl
    rw [e]
    cases hl : lookS b with
    | none => exact maxGen_le l g h
    | some p =>
      have hp := (look_fits hl).2.1.2.1
      have := maxGen_le l (max g p.gen) (by omega)
      exact ⟨this.1, by have := this.2; simp only; omega⟩
def NgRel (w : World) (g0 : Nat) (L : List B8) (s6 i : Value) (wr : World) : Prop :=
  ∃ j : Nat, i = .int .i64 (j : Int) ∧ j ≤ L.length ∧ s6 = .int .i64 (maxGen g0 (L.take j) : Int) ∧ Mod [] w wr
set_option maxHeartbeats 4000000 in
set_option maxRecDepth 100000 in
theorem nextGen_any {w : World} {pl pd bs : Nat} {gv : Value} {lv : List (Grt × Value)} {d : Dk} {l : Lg} (h : LgM w pl pd bs gv lv d l) (har : l.area ≤ 1) (hgn : l.gen ≤ 1073741824) (h49 : 49 ≤ d.secs.length) :
    Calls Tryz.prog 60 #[.pointer (some ⟨pl, 0, none⟩)] w fun e w' => NgTo w pl pd bs gv lv d (ngD d l) e w' := by
  have hlt := h.lt
  have hplw := lt_of_block h.blk
  have hmf : ∀ (fn : Fn) (first cap : Array Value) (w : World), (Instr.makeFunc fn first cap).run Tryz.prog w = .ok (.func fn first cap) w := fun _ _ _ _ => rfl
  obtain ⟨gn, ar, sq, us, bk, dd⟩ := l
  simp only at har hgn
  obtain ⟨t, ht⟩ : ∃ t, ngD d ⟨gn, ar, sq, us, bk, dd⟩ = t := ⟨_, rfl⟩
  rw [ht]
  unfold ngD at ht
  simp only at ht
  have hC : ∀ W, Mod [] w W → W.cell? ⟨pl, 0, none⟩ = some (.pointer (some ⟨pd, 0, none⟩)) ∧ W.cell? ⟨pl, 1, none⟩ = some (.int .i64 (gn : Int)) ∧ W.cell? ⟨pl, 2, none⟩ = some (.int .i64 (ar : Int)) ∧ W.cell? ⟨pl, 9, none⟩ = some (.bool dd) ∧ W.frozen? ⟨pl, 9, none⟩ = false := fun W m =>
    have hb := m.at_ h.blk (by simp)
    ⟨blk_cell hb 0, blk_cell hb 1, blk_cell hb 2, blk_cell hb 9, blk_free hb 9⟩
  have HC := hide hC
  have hrg0 := region_any (h.dk.mod (Mod.refl [] w).drew (by simp) (by simp)) (1 - ar) (by omega) h49
  have HH := hide (And.intro h ht)
  have hgn2 := hgn
  clear hC h
  have hw1 : IntKind.i64.wrap 1 = 1 := rfl
  have hw0 : IntKind.i64.wrap 0 = 0 := rfl
  have ha : ar = 0 ∨ ar = 1 := by omega
  cases hd : d.off with
  | true =>
    have hrg := hrg0.mono (R' := fun e w' => e = .returned (.tuple #[.slice none 0 0, .int .i64 40]) ∧ Mod [] w.drew w') (fun e w' hx => by
      rcases hx with ⟨_, h1, h2⟩ | ⟨h0, _⟩
      · exact ⟨h1, h2⟩
      · rw [hd] at h0; cases h0)
    rw [if_pos hd] at HH
    clear hrg0
    go_enter Tryz.func60, Tryz.ntmps60
    go_upto_region 1 with fail
    rcases ha with rfl | rfl
    · have hTL : TL pl pd 0 w.drew := ⟨(HC.out w.drew (Mod.refl _ _).drew).1, (HC.out w.drew (Mod.refl _ _).drew).2.2.1⟩
      clear ht
      refine wpL_start (s := 15) (T := TL pl pd 0) (by kernel_rfl) (fun hc => ?_)
      have hT : TL pl pd 0 w.drew := hTL
      refine wpL_pure (i := 0) (oi := { dst := some 12, op := Op.move (Operand.tmp 0), type := 26, pos := "ledger.go:124", after := #[], guard := none }) (v := ?_) rfl (by kernel_rfl) (by kernel_rfl) (by kernel_rfl) (fun _ _ _ h => h) (by decide) hc (Or.inl ⟨by rfl, ?_⟩) (fun _ => hT) (fun hc2 => ?_)
      rotate_left
      · (intro w _; go_simp; try with_reducible rfl)
      clear hc; have hc := hc2; clear hc2
      try simp only [Act.put, List.setIfInBounds_toArray, List.set_cons_zero, List.set_cons_succ]
      refine wpL_pure (i := 1) (oi := { dst := some 13, op := Op.nilCheck (Operand.tmp 12), type := 0, pos := "ledger.go:124", after := #[gD 0], guard := none }) (v := ?_) rfl (by kernel_rfl) (by kernel_rfl) (by kernel_rfl) (fun _ _ _ h => h) (by decide) hc (Or.inl ⟨by rfl, ?_⟩) (fun _ => hT) (fun hc2 => ?_)
      rotate_left
      · (intro w _; go_simp; try with_reducible rfl)
      clear hc; have hc := hc2; clear hc2
      try simp only [Act.put, List.setIfInBounds_toArray, List.set_cons_zero, List.set_cons_succ]
      refine wpL_pure (i := 2) (oi := { dst := some 14, op := Op.fieldAddr 80 (Operand.tmp 13) 0, type := 0, pos := "ledger.go:124", after := #[gD 1], guard := none }) (v := ?_) rfl (by kernel_rfl) (by kernel_rfl) (by kernel_rfl) (fun _ _ _ h => h) (by decide) hc (Or.inl ⟨by rfl, ?_⟩) (fun _ => hT) (fun hc2 => ?_)
      rotate_left
      · (intro w _; go_simp; try with_reducible rfl)
      clear hc; have hc := hc2; clear hc2
      try simp only [Act.put, List.setIfInBounds_toArray, List.set_cons_zero, List.set_cons_succ]
      refine wpL_take (T' := TL pl pd 0) (i := 3) (oi := { dst := some 15, op := Op.load 22 (Operand.tmp 14), type := 22, pos := "ledger.go:124", after := #[gD 2], guard := none }) (v := ?_) rfl (by kernel_rfl) (by kernel_rfl) (by kernel_rfl) (fun _ _ _ h => h) (by decide) (fun l2 w hc3 hu hs => hs (by
        cases hS : l2.getD 15 false with
        | false => exact getD_in (by rw [hc3.size]; decide) hS
        | true =>
          have a0 := hc3.step (k := 3) (by kernel_rfl) hS
          rw [getD_tf hu] at a0
          cases a0)) hc (Or.inl ⟨by rfl, ?_⟩) (fun _ => hT) (fun hc2 => ?_)
      rotate_left
      · (intro w hSw; have C0 := hSw.1; have C1 := hSw.2; go_simp; try with_reducible rfl)
      clear hc; have hc := hc2; clear hc2
      try simp only [Act.put, List.setIfInBounds_toArray, List.set_cons_zero, List.set_cons_succ]
      refine wpL_pure (i := 4) (oi := { dst := some 16, op := Op.makeFunc (Fn.func 72) #[Operand.tmp 15] #[], type := 116, pos := "ledger.go:124", after := #[gD 3], guard := none }) (v := ?_) rfl (by kernel_rfl) (by kernel_rfl) (by kernel_rfl) (fun _ _ _ h => h) (by decide) hc (Or.inl ⟨by rfl, ?_⟩) (fun _ => hT) (fun hc2 => ?_)
      rotate_left
      · (intro w _; go_simp; try with_reducible rfl)
      clear hc; have hc := hc2; clear hc2
      try simp only [Act.put, List.setIfInBounds_toArray, List.set_cons_zero, List.set_cons_succ]
      refine wpL_pure (i := 5) (oi := { dst := some 17, op := Op.move (Operand.tmp 0), type := 26, pos := "ledger.go:124", after := #[], guard := none }) (v := ?_) rfl (by kernel_rfl) (by kernel_rfl) (by kernel_rfl) (fun _ _ _ h => h) (by decide) hc (Or.inl ⟨by rfl, ?_⟩) (fun _ => hT) (fun hc2 => ?_)
      rotate_left
      · (intro w _; go_simp; try with_reducible rfl)
      clear hc; have hc := hc2; clear hc2
      try simp only [Act.put, List.setIfInBounds_toArray, List.set_cons_zero, List.set_cons_succ]
      refine wpL_pure (i := 6) (oi := { dst := some 18, op := Op.nilCheck (Operand.tmp 17), type := 0, pos := "ledger.go:124", after := #[gD 5], guard := none }) (v := ?_) rfl (by kernel_rfl) (by kernel_rfl) (by kernel_rfl) (fun _ _ _ h => h) (by decide) hc (Or.inl ⟨by rfl, ?_⟩) (fun _ => hT) (fun hc2 => ?_)
      rotate_left
      · (intro w _; go_simp; try with_reducible rfl)
      clear hc; have hc := hc2; clear hc2
      try simp only [Act.put, List.setIfInBounds_toArray, List.set_cons_zero, List.set_cons_succ]
      refine wpL_pure (i := 7) (oi := { dst := some 19, op := Op.fieldAddr 80 (Operand.tmp 18) 2, type := 0, pos := "ledger.go:124", after := #[gD 6], guard := none }) (v := ?_) rfl (by kernel_rfl) (by kernel_rfl) (by kernel_rfl) (fun _ _ _ h => h) (by decide) hc (Or.inl ⟨by rfl, ?_⟩) (fun _ => hT) (fun hc2 => ?_)
      rotate_left
      · (intro w _; go_simp; try with_reducible rfl)
      clear hc; have hc := hc2; clear hc2
      try simp only [Act.put, List.setIfInBounds_toArray, List.set_cons_zero, List.set_cons_succ]
      refine wpL_take (T' := TL pl pd 0) (i := 8) (oi := { dst := some 20, op := Op.load 3 (Operand.tmp 19), type := 3, pos := "ledger.go:124", after := #[gD 7], guard := none }) (v := ?_) rfl (by kernel_rfl) (by kernel_rfl) (by kernel_rfl) (fun _ _ _ h => h) (by decide) (fun l2 w hc3 hu hs => hs (by
        cases hS : l2.getD 15 false with
        | false => exact getD_in (by rw [hc3.size]; decide) hS
        | true =>
          have a0 := hc3.step (k := 8) (by kernel_rfl) hS
          rw [getD_tf hu] at a0
          cases a0)) hc (Or.inl ⟨by rfl, ?_⟩) (fun _ => hT) (fun hc2 => ?_)
      rotate_left
      · (intro w hSw; have C0 := hSw.1; have C1 := hSw.2; go_simp; try with_reducible rfl)
      clear hc; have hc := hc2; clear hc2
      try simp only [Act.put, List.setIfInBounds_toArray, List.set_cons_zero, List.set_cons_succ]
      refine wpL_pure (i := 9) (oi := { dst := some 21, op := Op.binOp BinOp.sub 3 (Operand.const (Value.int IntKind.i64 1)) (Operand.tmp 20) 3, type := 3, pos := "ledger.go:124", after := #[gD 8], guard := none }) (v := ?_) rfl (by kernel_rfl) (by kernel_rfl) (by kernel_rfl) (fun _ _ _ h => h) (by decide) hc (Or.inl ⟨by rfl, ?_⟩) (fun _ => hT) (fun hc2 => ?_)
      rotate_left
      · (intro w _; go_simp; try with_reducible rfl)
      clear hc; have hc := hc2; clear hc2
      try simp only [Act.put, List.setIfInBounds_toArray, List.set_cons_zero, List.set_cons_succ]
      refine wpL_ready (rs := [10]) (by kernel_rfl) (by simp) ?_ hc
      intro i hi hc2
      simp only [List.mem_cons, List.mem_nil_iff, or_false] at hi
      subst hi
      clear hc; have hc := hc2; clear hc2
      refine wpOp_step (o := { dst := some 22, op := Op.call { callee := Callee.value (Operand.func 76), args := #[Operand.tmp 16, Operand.tmp 21], argTypes := #[116, 3] }, type := 121, pos := "ledger.go:124", after := #[gD 4, gD 9], guard := none }) rfl (fun K hK => ?_)
      have HK := hide hK
      clear hK
      refine step_call rfl 76 #[.tmp 16, .tmp 21] #[116, 3] rfl (enters_of Tryz.func76 (by kernel_rfl) rfl) #[.func (.func 72) #[.pointer (some ⟨pd, 0, none⟩)] #[], .int .i64 1] (by simp [Act.eval]) ?_
      refine hrg.mono ?_
      rintro e w3 ⟨rfl, hm3⟩
      refine ⟨_, rfl, ?_⟩
      have hT2 : TL pl pd 0 w3 := ⟨hm3.kept hT.1 (by simp), hm3.kept hT.2 (by simp)⟩
      have H3 := hide (hm3)
      clear hm3
      refine HK.out _ _ ⟨fun _ => hT2, ?_⟩
      clear HK K hT
      have hT := hT2
      clear hT2
      try simp only [Act.put, List.setIfInBounds_toArray, List.set_cons_zero, List.set_cons_succ]
      refine wpL_pure (i := 11) (oi := { dst := some 11, op := Op.move (Operand.tmp 22), type := 121, pos := "ledger.go:124", after := #[gD 10], guard := none }) (v := ?_) rfl (by kernel_rfl) (by kernel_rfl) (by kernel_rfl) (fun _ _ _ h => h) (by decide) hc (Or.inl ⟨by rfl, ?_⟩) (fun _ => hT) (fun hc2 => ?_)
      rotate_left
      · (intro w _; go_simp; try with_reducible rfl)
      clear hc; have hc := hc2; clear hc2
      try simp only [Act.put, List.setIfInBounds_toArray, List.set_cons_zero, List.set_cons_succ]
      refine wpL_pure (i := 12) (oi := { dst := some 23, op := Op.extract (Operand.tmp 11) 0, type := 65, pos := "ledger.go:124", after := #[gD 11], guard := none }) (v := ?_) rfl (by kernel_rfl) (by kernel_rfl) (by kernel_rfl) (fun _ _ _ h => h) (by decide) hc (Or.inl ⟨by rfl, ?_⟩) (fun _ => hT) (fun hc2 => ?_)
      rotate_left
      · (intro w _; go_simp; try with_reducible rfl)
      clear hc; have hc := hc2; clear hc2
      try simp only [Act.put, List.setIfInBounds_toArray, List.set_cons_zero, List.set_cons_succ]
      refine wpL_pure (i := 13) (oi := { dst := some 24, op := Op.extract (Operand.tmp 11) 1, type := 23, pos := "ledger.go:124", after := #[gD 11, { on := 14, ground := Ground.gcOnly Departure.lateStores }], guard := none }) (v := ?_) rfl (by kernel_rfl) (by kernel_rfl) (by kernel_rfl) (fun _ _ _ h => h) (by decide) hc (Or.inl ⟨by rfl, ?_⟩) (fun _ => hT) (fun hc2 => ?_)
      rotate_left
      · (intro w _; go_simp; try with_reducible rfl)
      clear hc; have hc := hc2; clear hc2
      try simp only [Act.put, List.setIfInBounds_toArray, List.set_cons_zero, List.set_cons_succ]
      refine wpL_pure (i := 14) (oi := { dst := some 4, op := Op.assign (Operand.tmp 23), type := 65, pos := "ledger.go:124", after := #[gD 12, gC 10, gP 0, gP 1, gP 2, gP 3, gP 4, gP 5, gP 6, gP 7, gP 8, gP 9, gP 10, gP 11, gP 12, { on := 13, ground := Ground.textOnly Departure.lateStores }], guard := none }) (v := ?_) rfl (by kernel_rfl) (by kernel_rfl) (by kernel_rfl) (fun _ _ _ h => h) (by decide) hc (Or.inl ⟨by rfl, ?_⟩) (fun _ => hT) (fun hc2 => ?_)
      rotate_left
      · (intro w _; go_simp; try with_reducible rfl)
      clear hc; have hc := hc2; clear hc2
      try simp only [Act.put, List.setIfInBounds_toArray, List.set_cons_zero, List.set_cons_succ]
      refine wpL_ready (rs := [15]) (by kernel_rfl) (by simp) ?_ hc
      intro i hi hc2
      simp only [List.mem_cons, List.mem_nil_iff, or_false] at hi
      subst hi
      clear hc; have hc := hc2; clear hc2
      refine wpOp_step (o := { dst := some 5, op := Op.assign (Operand.tmp 24), type := 23, pos := "ledger.go:124", after := #[gD 13, gC 14, gP 0, gP 1, gP 2, gP 3, gP 4, gP 5, gP 6, gP 7, gP 8, gP 9, gP 10, gP 11, gP 12, gP 13, gP 14], guard := none }) rfl (fun K hK => ?_)
      have HK := hide hK
      clear hK
      go_simp
      refine HK.out _ _ ⟨fun h => by simp at h, ?_⟩
      clear HK K hT
      have hT := hc.size
      try simp only [Act.put, List.setIfInBounds_toArray, List.set_cons_zero, List.set_cons_succ]
      refine wpL_done (by kernel_rfl) ?_
      clear hT hc
      have hm13 : Mod [] w w3 := (Mod.refl [] w).drew.then H3.out
      obtain ⟨k0, k1, k2, k9, f9⟩ := HC.out w3 hm13
      have hms : Mod [pl] w3 (w3.setCell ⟨pl, 9, none⟩ (.bool true)) := (Mod.refl _ _).setCell (fun _ => by simp) _
      have HM := hide (And.intro hm13 hms)
      clear hm13 hms
      go_wp2_with fail
      go_ret2
      have hlg := HH.out.1.quiet HM.out.1
      rw [← HH.out.2]
      exact ⟨rfl, hlg.cells (l' := deadL _) (blk_set hlg.blk 9 _) HM.out.2 (hlg.bkm HM.out.2), (HM.out.1.mono (by simp)).then HM.out.2⟩
    · have hTL : TL pl pd 1 w.drew := ⟨(HC.out w.drew (Mod.refl _ _).drew).1, (HC.out w.drew (Mod.refl _ _).drew).2.2.1⟩
      clear ht
      refine wpL_start (s := 15) (T := TL pl pd 1) (by kernel_rfl) (fun hc => ?_)
      have hT : TL pl pd 1 w.drew := hTL
      refine wpL_pure (i := 0) (oi := { dst := some 12, op := Op.move (Operand.tmp 0), type := 26, pos := "ledger.go:124", after := #[], guard := none }) (v := ?_) rfl (by kernel_rfl) (by kernel_rfl) (by kernel_rfl) (fun _ _ _ h => h) (by decide) hc (Or.inl ⟨by rfl, ?_⟩) (fun _ => hT) (fun hc2 => ?_)
      rotate_left
      · (intro w _; go_simp; try with_reducible rfl)
      clear hc; have hc := hc2; clear hc2
      try simp only [Act.put, List.setIfInBounds_toArray, List.set_cons_zero, List.set_cons_succ]
      refine wpL_pure (i := 1) (oi := { dst := some 13, op := Op.nilCheck (Operand.tmp 12), type := 0, pos := "ledger.go:124", after := #[gD 0], guard := none }) (v := ?_) rfl (by kernel_rfl) (by kernel_rfl) (by kernel_rfl) (fun _ _ _ h => h) (by decide) hc (Or.inl ⟨by rfl, ?_⟩) (fun _ => hT) (fun hc2 => ?_)
      rotate_left
      · (intro w _; go_simp; try with_reducible rfl)
      clear hc; have hc := hc2; clear hc2
      try simp only [Act.put, List.setIfInBounds_toArray, List.set_cons_zero, List.set_cons_succ]
      refine wpL_pure (i := 2) (oi := { dst := some 14, op := Op.fieldAddr 80 (Operand.tmp 13) 0, type := 0, pos := "ledger.go:124", after := #[gD 1], guard := none }) (v := ?_) rfl (by kernel_rfl) (by kernel_rfl) (by kernel_rfl) (fun _ _ _ h => h) (by decide) hc (Or.inl ⟨by rfl, ?_⟩) (fun _ => hT) (fun hc2 => ?_)
      rotate_left
      · (intro w _; go_simp; try with_reducible rfl)
      clear hc; have hc := hc2; clear hc2
      try simp only [Act.put, List.setIfInBounds_toArray, List.set_cons_zero, List.set_cons_succ]
      refine wpL_take (T' := TL pl pd 1) (i := 3) (oi := { dst := some 15, op := Op.load 22 (Operand.tmp 14), type := 22, pos := "ledger.go:124", after := #[gD 2], guard := none }) (v := ?_) rfl (by kernel_rfl) (by kernel_rfl) (by kernel_rfl) (fun _ _ _ h => h) (by decide) (fun l2 w hc3 hu hs => hs (by
        cases hS : l2.getD 15 false with
        | false => exact getD_in (by rw [hc3.size]; decide) hS
        | true =>
          have a0 := hc3.step (k := 3) (by kernel_rfl) hS
          rw [getD_tf hu] at a0
          cases a0)) hc (Or.inl ⟨by rfl, ?_⟩) (fun _ => hT) (fun hc2 => ?_)
      rotate_left
      · (intro w hSw; have C0 := hSw.1; have C1 := hSw.2; go_simp; try with_reducible rfl)
      clear hc; have hc := hc2; clear hc2
      try simp only [Act.put, List.setIfInBounds_toArray, List.set_cons_zero, List.set_cons_succ]
      refine wpL_pure (i := 4) (oi := { dst := some 16, op := Op.makeFunc (Fn.func 72) #[Operand.tmp 15] #[], type := 116, pos := "ledger.go:124", after := #[gD 3], guard := none }) (v := ?_) rfl (by kernel_rfl) (by kernel_rfl) (by kernel_rfl) (fun _ _ _ h => h) (by decide) hc (Or.inl ⟨by rfl, ?_⟩) (fun _ => hT) (fun hc2 => ?_)
      rotate_left
      · (intro w _; go_simp; try with_reducible rfl)
      clear hc; have hc := hc2; clear hc2
      try simp only [Act.put, List.setIfInBounds_toArray, List.set_cons_zero, List.set_cons_succ]
      refine wpL_pure (i := 5) (oi := { dst := some 17, op := Op.move (Operand.tmp 0), type := 26, pos := "ledger.go:124", after := #[], guard := none }) (v := ?_) rfl (by kernel_rfl) (by kernel_rfl) (by kernel_rfl) (fun _ _ _ h => h) (by decide) hc (Or.inl ⟨by rfl, ?_⟩) (fun _ => hT) (fun hc2 => ?_)
      rotate_left
      · (intro w _; go_simp; try with_reducible rfl)
      clear hc; have hc := hc2; clear hc2
      try simp only [Act.put, List.setIfInBounds_toArray, List.set_cons_zero, List.set_cons_succ]
      refine wpL_pure (i := 6) (oi := { dst := some 18, op := Op.nilCheck (Operand.tmp 17), type := 0, pos := "ledger.go:124", after := #[gD 5], guard := none }) (v := ?_) rfl (by kernel_rfl) (by kernel_rfl) (by kernel_rfl) (fun _ _ _ h => h) (by decide) hc (Or.inl ⟨by rfl, ?_⟩) (fun _ => hT) (fun hc2 => ?_)
      rotate_left
      · (intro w _; go_simp; try with_reducible rfl)
      clear hc; have hc := hc2; clear hc2
      try simp only [Act.put, List.setIfInBounds_toArray, List.set_cons_zero, List.set_cons_succ]
      refine wpL_pure (i := 7) (oi := { dst := some 19, op := Op.fieldAddr 80 (Operand.tmp 18) 2, type := 0, pos := "ledger.go:124", after := #[gD 6], guard := none }) (v := ?_) rfl (by kernel_rfl) (by kernel_rfl) (by kernel_rfl) (fun _ _ _ h => h) (by decide) hc (Or.inl ⟨by rfl, ?_⟩) (fun _ => hT) (fun hc2 => ?_)
      rotate_left
      · (intro w _; go_simp; try with_reducible rfl)
      clear hc; have hc := hc2; clear hc2
      try simp only [Act.put, List.setIfInBounds_toArray, List.set_cons_zero, List.set_cons_succ]
      refine wpL_take (T' := TL pl pd 1) (i := 8) (oi := { dst := some 20, op := Op.load 3 (Operand.tmp 19), type := 3, pos := "ledger.go:124", after := #[gD 7], guard := none }) (v := ?_) rfl (by kernel_rfl) (by kernel_rfl) (by kernel_rfl) (fun _ _ _ h => h) (by decide) (fun l2 w hc3 hu hs => hs (by
        cases hS : l2.getD 15 false with
        | false => exact getD_in (by rw [hc3.size]; decide) hS
        | true =>
          have a0 := hc3.step (k := 8) (by kernel_rfl) hS
          rw [getD_tf hu] at a0
          cases a0)) hc (Or.inl ⟨by rfl, ?_⟩) (fun _ => hT) (fun hc2 => ?_)
      rotate_left
      · (intro w hSw; have C0 := hSw.1; have C1 := hSw.2; go_simp; try with_reducible rfl)
      clear hc; have hc := hc2; clear hc2
      try simp only [Act.put, List.setIfInBounds_toArray, List.set_cons_zero, List.set_cons_succ]
      refine wpL_pure (i := 9) (oi := { dst := some 21, op := Op.binOp BinOp.sub 3 (Operand.const (Value.int IntKind.i64 1)) (Operand.tmp 20) 3, type := 3, pos := "ledger.go:124", after := #[gD 8], guard := none }) (v := ?_) rfl (by kernel_rfl) (by kernel_rfl) (by kernel_rfl) (fun _ _ _ h => h) (by decide) hc (Or.inl ⟨by rfl, ?_⟩) (fun _ => hT) (fun hc2 => ?_)
      rotate_left
      · (intro w _; go_simp; try with_reducible rfl)
      clear hc; have hc := hc2; clear hc2
      try simp only [Act.put, List.setIfInBounds_toArray, List.set_cons_zero, List.set_cons_succ]
      refine wpL_ready (rs := [10]) (by kernel_rfl) (by simp) ?_ hc
      intro i hi hc2
      simp only [List.mem_cons, List.mem_nil_iff, or_false] at hi
      subst hi
      clear hc; have hc := hc2; clear hc2
      refine wpOp_step (o := { dst := some 22, op := Op.call { callee := Callee.value (Operand.func 76), args := #[Operand.tmp 16, Operand.tmp 21], argTypes := #[116, 3] }, type := 121, pos := "ledger.go:124", after := #[gD 4, gD 9], guard := none }) rfl (fun K hK => ?_)
      have HK := hide hK
      clear hK
      refine step_call rfl 76 #[.tmp 16, .tmp 21] #[116, 3] rfl (enters_of Tryz.func76 (by kernel_rfl) rfl) #[.func (.func 72) #[.pointer (some ⟨pd, 0, none⟩)] #[], .int .i64 0] (by simp [Act.eval]) ?_
      refine hrg.mono ?_
      rintro e w3 ⟨rfl, hm3⟩
      refine ⟨_, rfl, ?_⟩
      have hT2 : TL pl pd 1 w3 := ⟨hm3.kept hT.1 (by simp), hm3.kept hT.2 (by simp)⟩
      have H3 := hide (hm3)
      clear hm3
      refine HK.out _ _ ⟨fun _ => hT2, ?_⟩
      clear HK K hT
      have hT := hT2
      clear hT2
      try simp only [Act.put, List.setIfInBounds_toArray, List.set_cons_zero, List.set_cons_succ]
      refine wpL_pure (i := 11) (oi := { dst := some 11, op := Op.move (Operand.tmp 22), type := 121, pos := "ledger.go:124", after := #[gD 10], guard := none }) (v := ?_) rfl (by kernel_rfl) (by kernel_rfl) (by kernel_rfl) (fun _ _ _ h => h) (by decide) hc (Or.inl ⟨by rfl, ?_⟩) (fun _ => hT) (fun hc2 => ?_)
      rotate_left
      · (intro w _; go_simp; try with_reducible rfl)
      clear hc; have hc := hc2; clear hc2
      try simp only [Act.put, List.setIfInBounds_toArray, List.set_cons_zero, List.set_cons_succ]
      refine wpL_pure (i := 12) (oi := { dst := some 23, op := Op.extract (Operand.tmp 11) 0, type := 65, pos := "ledger.go:124", after := #[gD 11], guard := none }) (v := ?_) rfl (by kernel_rfl) (by kernel_rfl) (by kernel_rfl) (fun _ _ _ h => h) (by decide) hc (Or.inl ⟨by rfl, ?_⟩) (fun _ => hT) (fun hc2 => ?_)
      rotate_left
      · (intro w _; go_simp; try with_reducible rfl)
      clear hc; have hc := hc2; clear hc2
      try simp only [Act.put, List.setIfInBounds_toArray, List.set_cons_zero, List.set_cons_succ]
      refine wpL_pure (i := 13) (oi := { dst := some 24, op := Op.extract (Operand.tmp 11) 1, type := 23, pos := "ledger.go:124", after := #[gD 11, { on := 14, ground := Ground.gcOnly Departure.lateStores }], guard := none }) (v := ?_) rfl (by kernel_rfl) (by kernel_rfl) (by kernel_rfl) (fun _ _ _ h => h) (by decide) hc (Or.inl ⟨by rfl, ?_⟩) (fun _ => hT) (fun hc2 => ?_)
      rotate_left
      · (intro w _; go_simp; try with_reducible rfl)
      clear hc; have hc := hc2; clear hc2
      try simp only [Act.put, List.setIfInBounds_toArray, List.set_cons_zero, List.set_cons_succ]
      refine wpL_pure (i := 14) (oi := { dst := some 4, op := Op.assign (Operand.tmp 23), type := 65, pos := "ledger.go:124", after := #[gD 12, gC 10, gP 0, gP 1, gP 2, gP 3, gP 4, gP 5, gP 6, gP 7, gP 8, gP 9, gP 10, gP 11, gP 12, { on := 13, ground := Ground.textOnly Departure.lateStores }], guard := none }) (v := ?_) rfl (by kernel_rfl) (by kernel_rfl) (by kernel_rfl) (fun _ _ _ h => h) (by decide) hc (Or.inl ⟨by rfl, ?_⟩) (fun _ => hT) (fun hc2 => ?_)
      rotate_left
      · (intro w _; go_simp; try with_reducible rfl)
      clear hc; have hc := hc2; clear hc2
      try simp only [Act.put, List.setIfInBounds_toArray, List.set_cons_zero, List.set_cons_succ]
      refine wpL_ready (rs := [15]) (by kernel_rfl) (by simp) ?_ hc
      intro i hi hc2
      simp only [List.mem_cons, List.mem_nil_iff, or_false] at hi
      subst hi
      clear hc; have hc := hc2; clear hc2
      refine wpOp_step (o := { dst := some 5, op := Op.assign (Operand.tmp 24), type := 23, pos := "ledger.go:124", after := #[gD 13, gC 14, gP 0, gP 1, gP 2, gP 3, gP 4, gP 5, gP 6, gP 7, gP 8, gP 9, gP 10, gP 11, gP 12, gP 13, gP 14], guard := none }) rfl (fun K hK => ?_)
      have HK := hide hK
      clear hK
      go_simp
      refine HK.out _ _ ⟨fun h => by simp at h, ?_⟩
      clear HK K hT
      have hT := hc.size
      try simp only [Act.put, List.setIfInBounds_toArray, List.set_cons_zero, List.set_cons_succ]
      refine wpL_done (by kernel_rfl) ?_
      clear hT hc
      have hm13 : Mod [] w w3 := (Mod.refl [] w).drew.then H3.out
      obtain ⟨k0, k1, k2, k9, f9⟩ := HC.out w3 hm13
      have hms : Mod [pl] w3 (w3.setCell ⟨pl, 9, none⟩ (.bool true)) := (Mod.refl _ _).setCell (fun _ => by simp) _
      have HM := hide (And.intro hm13 hms)
      clear hm13 hms
      go_wp2_with fail
      go_ret2
      have hlg := HH.out.1.quiet HM.out.1
      rw [← HH.out.2]
      exact ⟨rfl, hlg.cells (l' := deadL _) (blk_set hlg.blk 9 _) HM.out.2 (hlg.bkm HM.out.2), (HM.out.1.mono (by simp)).then HM.out.2⟩
  | false =>
    have hrg := hrg0.mono (R' := fun e w' => ∃ q c vs, e = .returned (.tuple #[.slice q 24 c, .int .i64 0]) ∧ RdsY w' w.drew.heap.size (.slice q 24 c) vs (sideS d.secs (1 - ar)) ∧ Mod [] w.drew w') (fun e w' hx => by
      rcases hx with ⟨h0, _⟩ | ⟨_, h1⟩
      · rw [hd] at h0; cases h0
      · exact h1)
    rw [if_neg (by rw [hd]; decide)] at HH
    clear hrg0
    go_enter Tryz.func60, Tryz.ntmps60
    go_upto_region 1 with fail
    rcases ha with rfl | rfl
    · have hTL : TL pl pd 0 w.drew := ⟨(HC.out w.drew (Mod.refl _ _).drew).1, (HC.out w.drew (Mod.refl _ _).drew).2.2.1⟩
      clear ht
      refine wpL_start (s := 15) (T := TL pl pd 0) (by kernel_rfl) (fun hc => ?_)
      have hT : TL pl pd 0 w.drew := hTL
      refine wpL_pure (i := 0) (oi := { dst := some 12, op := Op.move (Operand.tmp 0), type := 26, pos := "ledger.go:124", after := #[], guard := none }) (v := ?_) rfl (by kernel_rfl) (by kernel_rfl) (by kernel_rfl) (fun _ _ _ h => h) (by decide) hc (Or.inl ⟨by rfl, ?_⟩) (fun _ => hT) (fun hc2 => ?_)
      rotate_left
      · (intro w _; go_simp; try with_reducible rfl)
      clear hc; have hc := hc2; clear hc2
      try simp only [Act.put, List.setIfInBounds_toArray, List.set_cons_zero, List.set_cons_succ]
      refine wpL_pure (i := 1) (oi := { dst := some 13, op := Op.nilCheck (Operand.tmp 12), type := 0, pos := "ledger.go:124", after := #[gD 0], guard := none }) (v := ?_) rfl (by kernel_rfl) (by kernel_rfl) (by kernel_rfl) (fun _ _ _ h => h) (by decide) hc (Or.inl ⟨by rfl, ?_⟩) (fun _ => hT) (fun hc2 => ?_)
      rotate_left
      · (intro w _; go_simp; try with_reducible rfl)
      clear hc; have hc := hc2; clear hc2
      try simp only [Act.put, List.setIfInBounds_toArray, List.set_cons_zero, List.set_cons_succ]
      refine wpL_pure (i := 2) (oi := { dst := some 14, op := Op.fieldAddr 80 (Operand.tmp 13) 0, type := 0, pos := "ledger.go:124", after := #[gD 1], guard := none }) (v := ?_) rfl (by kernel_rfl) (by kernel_rfl) (by kernel_rfl) (fun _ _ _ h => h) (by decide) hc (Or.inl ⟨by rfl, ?_⟩) (fun _ => hT) (fun hc2 => ?_)
      rotate_left
      · (intro w _; go_simp; try with_reducible rfl)
      clear hc; have hc := hc2; clear hc2
      try simp only [Act.put, List.setIfInBounds_toArray, List.set_cons_zero, List.set_cons_succ]
      refine wpL_take (T' := TL pl pd 0) (i := 3) (oi := { dst := some 15, op := Op.load 22 (Operand.tmp 14), type := 22, pos := "ledger.go:124", after := #[gD 2], guard := none }) (v := ?_) rfl (by kernel_rfl) (by kernel_rfl) (by kernel_rfl) (fun _ _ _ h => h) (by decide) (fun l2 w hc3 hu hs => hs (by
        cases hS : l2.getD 15 false with
        | false => exact getD_in (by rw [hc3.size]; decide) hS
        | true =>
          have a0 := hc3.step (k := 3) (by kernel_rfl) hS
          rw [getD_tf hu] at a0
          cases a0)) hc (Or.inl ⟨by rfl, ?_⟩) (fun _ => hT) (fun hc2 => ?_)
      rotate_left
      · (intro w hSw; have C0 := hSw.1; have C1 := hSw.2; go_simp; try with_reducible rfl)
      clear hc; have hc := hc2; clear hc2
      try simp only [Act.put, List.setIfInBounds_toArray, List.set_cons_zero, List.set_cons_succ]
      refine wpL_pure (i := 4) (oi := { dst := some 16, op := Op.makeFunc (Fn.func 72) #[Operand.tmp 15] #[], type := 116, pos := "ledger.go:124", after := #[gD 3], guard := none }) (v := ?_) rfl (by kernel_rfl) (by kernel_rfl) (by kernel_rfl) (fun _ _ _ h => h) (by decide) hc (Or.inl ⟨by rfl, ?_⟩) (fun _ => hT) (fun hc2 => ?_)
      rotate_left
      · (intro w _; go_simp; try with_reducible rfl)
      clear hc; have hc := hc2; clear hc2
      try simp only [Act.put, List.setIfInBounds_toArray, List.set_cons_zero, List.set_cons_succ]
      refine wpL_pure (i := 5) (oi := { dst := some 17, op := Op.move (Operand.tmp 0), type := 26, pos := "ledger.go:124", after := #[], guard := none }) (v := ?_) rfl (by kernel_rfl) (by kernel_rfl) (by kernel_rfl) (fun _ _ _ h => h) (by decide) hc (Or.inl ⟨by rfl, ?_⟩) (fun _ => hT) (fun hc2 => ?_)
      rotate_left
      · (intro w _; go_simp; try with_reducible rfl)
      clear hc; have hc := hc2; clear hc2
      try simp only [Act.put, List.setIfInBounds_toArray, List.set_cons_zero, List.set_cons_succ]
      refine wpL_pure (i := 6) (oi := { dst := some 18, op := Op.nilCheck (Operand.tmp 17), type := 0, pos := "ledger.go:124", after := #[gD 5], guard := none }) (v := ?_) rfl (by kernel_rfl) (by kernel_rfl) (by kernel_rfl) (fun _ _ _ h => h) (by decide) hc (Or.inl ⟨by rfl, ?_⟩) (fun _ => hT) (fun hc2 => ?_)
      rotate_left
      · (intro w _; go_simp; try with_reducible rfl)
      clear hc; have hc := hc2; clear hc2
      try simp only [Act.put, List.setIfInBounds_toArray, List.set_cons_zero, List.set_cons_succ]
      refine wpL_pure (i := 7) (oi := { dst := some 19, op := Op.fieldAddr 80 (Operand.tmp 18) 2, type := 0, pos := "ledger.go:124", after := #[gD 6], guard := none }) (v := ?_) rfl (by kernel_rfl) (by kernel_rfl) (by kernel_rfl) (fun _ _ _ h => h) (by decide) hc (Or.inl ⟨by rfl, ?_⟩) (fun _ => hT) (fun hc2 => ?_)
      rotate_left
      · (intro w _; go_simp; try with_reducible rfl)
      clear hc; have hc := hc2; clear hc2
      try simp only [Act.put, List.setIfInBounds_toArray, List.set_cons_zero, List.set_cons_succ]
      refine wpL_take (T' := TL pl pd 0) (i := 8) (oi := { dst := some 20, op := Op.load 3 (Operand.tmp 19), type := 3, pos := "ledger.go:124", after := #[gD 7], guard := none }) (v := ?_) rfl (by kernel_rfl) (by kernel_rfl) (by kernel_rfl) (fun _ _ _ h => h) (by decide) (fun l2 w hc3 hu hs => hs (by
        cases hS : l2.getD 15 false with
        | false => exact getD_in (by rw [hc3.size]; decide) hS
        | true =>
          have a0 := hc3.step (k := 8) (by kernel_rfl) hS
          rw [getD_tf hu] at a0
          cases a0)) hc (Or.inl ⟨by rfl, ?_⟩) (fun _ => hT) (fun hc2 => ?_)
      rotate_left
      · (intro w hSw; have C0 := hSw.1; have C1 := hSw.2; go_simp; try with_reducible rfl)
      clear hc; have hc := hc2; clear hc2
      try simp only [Act.put, List.setIfInBounds_toArray, List.set_cons_zero, List.set_cons_succ]
      refine wpL_pure (i := 9) (oi := { dst := some 21, op := Op.binOp BinOp.sub 3 (Operand.const (Value.int IntKind.i64 1)) (Operand.tmp 20) 3, type := 3, pos := "ledger.go:124", after := #[gD 8], guard := none }) (v := ?_) rfl (by kernel_rfl) (by kernel_rfl) (by kernel_rfl) (fun _ _ _ h => h) (by decide) hc (Or.inl ⟨by rfl, ?_⟩) (fun _ => hT) (fun hc2 => ?_)
      rotate_left
      · (intro w _; go_simp; try with_reducible rfl)
      clear hc; have hc := hc2; clear hc2
      try simp only [Act.put, List.setIfInBounds_toArray, List.set_cons_zero, List.set_cons_succ]
      refine wpL_ready (rs := [10]) (by kernel_rfl) (by simp) ?_ hc
      intro i hi hc2
      simp only [List.mem_cons, List.mem_nil_iff, or_false] at hi
      subst hi
      clear hc; have hc := hc2; clear hc2
      refine wpOp_step (o := { dst := some 22, op := Op.call { callee := Callee.value (Operand.func 76), args := #[Operand.tmp 16, Operand.tmp 21], argTypes := #[116, 3] }, type := 121, pos := "ledger.go:124", after := #[gD 4, gD 9], guard := none }) rfl (fun K hK => ?_)
      have HK := hide hK
      clear hK
      refine step_call rfl 76 #[.tmp 16, .tmp 21] #[116, 3] rfl (enters_of Tryz.func76 (by kernel_rfl) rfl) #[.func (.func 72) #[.pointer (some ⟨pd, 0, none⟩)] #[], .int .i64 1] (by simp [Act.eval]) ?_
      refine hrg.mono ?_
      rintro e w3 ⟨q3, c3, vs3, rfl, hr3, hm3⟩
      refine ⟨_, rfl, ?_⟩
      have hT2 : TL pl pd 0 w3 := ⟨hm3.kept hT.1 (by simp), hm3.kept hT.2 (by simp)⟩
      have H3 := hide (And.intro hr3 hm3)
      clear hr3 hm3
      refine HK.out _ _ ⟨fun _ => hT2, ?_⟩
      clear HK K hT
      have hT := hT2
      clear hT2
      try simp only [Act.put, List.setIfInBounds_toArray, List.set_cons_zero, List.set_cons_succ]
      refine wpL_pure (i := 11) (oi := { dst := some 11, op := Op.move (Operand.tmp 22), type := 121, pos := "ledger.go:124", after := #[gD 10], guard := none }) (v := ?_) rfl (by kernel_rfl) (by kernel_rfl) (by kernel_rfl) (fun _ _ _ h => h) (by decide) hc (Or.inl ⟨by rfl, ?_⟩) (fun _ => hT) (fun hc2 => ?_)
      rotate_left
      · (intro w _; go_simp; try with_reducible rfl)
      clear hc; have hc := hc2; clear hc2
      try simp only [Act.put, List.setIfInBounds_toArray, List.set_cons_zero, List.set_cons_succ]
      refine wpL_pure (i := 12) (oi := { dst := some 23, op := Op.extract (Operand.tmp 11) 0, type := 65, pos := "ledger.go:124", after := #[gD 11], guard := none }) (v := ?_) rfl (by kernel_rfl) (by kernel_rfl) (by kernel_rfl) (fun _ _ _ h => h) (by decide) hc (Or.inl ⟨by rfl, ?_⟩) (fun _ => hT) (fun hc2 => ?_)
      rotate_left
      · (intro w _; go_simp; try with_reducible rfl)
      clear hc; have hc := hc2; clear hc2
      try simp only [Act.put, List.setIfInBounds_toArray, List.set_cons_zero, List.set_cons_succ]
      refine wpL_pure (i := 13) (oi := { dst := some 24, op := Op.extract (Operand.tmp 11) 1, type := 23, pos := "ledger.go:124", after := #[gD 11, { on := 14, ground := Ground.gcOnly Departure.lateStores }], guard := none }) (v := ?_) rfl (by kernel_rfl) (by kernel_rfl) (by kernel_rfl) (fun _ _ _ h => h) (by decide) hc (Or.inl ⟨by rfl, ?_⟩) (fun _ => hT) (fun hc2 => ?_)
      rotate_left
      · (intro w _; go_simp; try with_reducible rfl)
      clear hc; have hc := hc2; clear hc2
      try simp only [Act.put, List.setIfInBounds_toArray, List.set_cons_zero, List.set_cons_succ]
      refine wpL_pure (i := 14) (oi := { dst := some 4, op := Op.assign (Operand.tmp 23), type := 65, pos := "ledger.go:124", after := #[gD 12, gC 10, gP 0, gP 1, gP 2, gP 3, gP 4, gP 5, gP 6, gP 7, gP 8, gP 9, gP 10, gP 11, gP 12, { on := 13, ground := Ground.textOnly Departure.lateStores }], guard := none }) (v := ?_) rfl (by kernel_rfl) (by kernel_rfl) (by kernel_rfl) (fun _ _ _ h => h) (by decide) hc (Or.inl ⟨by rfl, ?_⟩) (fun _ => hT) (fun hc2 => ?_)
      rotate_left
      · (intro w _; go_simp; try with_reducible rfl)
      clear hc; have hc := hc2; clear hc2
      try simp only [Act.put, List.setIfInBounds_toArray, List.set_cons_zero, List.set_cons_succ]
      refine wpL_ready (rs := [15]) (by kernel_rfl) (by simp) ?_ hc
      intro i hi hc2
      simp only [List.mem_cons, List.mem_nil_iff, or_false] at hi
      subst hi
      clear hc; have hc := hc2; clear hc2
      refine wpOp_step (o := { dst := some 5, op := Op.assign (Operand.tmp 24), type := 23, pos := "ledger.go:124", after := #[gD 13, gC 14, gP 0, gP 1, gP 2, gP 3, gP 4, gP 5, gP 6, gP 7, gP 8, gP 9, gP 10, gP 11, gP 12, gP 13, gP 14], guard := none }) rfl (fun K hK => ?_)
      have HK := hide hK
      clear hK
      go_simp
      refine HK.out _ _ ⟨fun h => by simp at h, ?_⟩
      clear HK K hT
      have hT := hc.size
      try simp only [Act.put, List.setIfInBounds_toArray, List.set_cons_zero, List.set_cons_succ]
      refine wpL_done (by kernel_rfl) ?_
      clear hT hc
      have hsl := side_len (s := d.secs) (k := 1) (by omega) h49
      obtain ⟨SL, hSL⟩ : ∃ SL, sideS d.secs 1 = SL := ⟨_, rfl⟩
      rw [hSL] at hsl
      rw [show sideS d.secs (1 - 0) = SL from hSL] at HH
      have hr3 := H3.out.1
      rw [show sideS d.secs (1 - 0) = SL from hSL] at hr3
      have hm13 : Mod [] w w3 := (Mod.refl [] w).drew.then H3.out.2
      have H4 := hide (And.intro hr3 hm13)
      obtain ⟨k0, k1, k2, k9, f9⟩ := HC.out w3 hm13
      clear hr3 hm13 H3 hSL k0 k2 k9 f9
      clear hmf hrg hTL
      go_upto_region 7 with fail
      go_loopw [6, 37] (fun s6 i wr => NgRel w3 gn SL s6 i wr) (fun _ i _ => 24 - (intOf i).toNat)
      case atStart => exact ⟨0, rfl, Nat.zero_le _, rfl, Mod.refl _ _⟩
      case round =>
        obtain ⟨j, rfl, hj, rfl, hm⟩ := hrel
        by_cases hlt2 : j < 24
        · have hjn : (j : Int) < 24 := by omega
          obtain ⟨rb, rfl, hrb, hcv, hel⟩ := (H4.out.1.mod hm (by simp)).at_ j (by omega)
          have htk : SL.take (j + 1) = SL.take j ++ [SL.getD j []] := by rw [List.take_add_one]; simp [show j < SL.length by omega]
          have hms := maxGen_snoc gn (SL.take j) (SL.getD j [])
          rw [← htk] at hms
          have hlk := look_any hel.rd
          generalize SL.getD j [] = B at hlk hms
          generalize hmg : maxGen gn (SL.take j) = MG at hms
          obtain ⟨qs, cs, hsv⟩ := hel.rd.len
          rw [hsv] at hcv hlk
          obtain ⟨nB, hnB⟩ : ∃ n, (SL.getD j []).length = n := ⟨_, rfl⟩
          rw [hnB] at hcv hlk
          clear htk hel hsv hnB
          cases hlo : lookS B with
          | none =>
            rw [hlo] at hlk hms
            simp only at hms
            have HM := hide (And.intro hm hms)
            clear hm hms hlo hmg
            go_wp2_with (go_at_call 73; refine hlk.mono ?_; rintro e w5 ⟨rfl, hm5⟩; have H5 := hide hm5; clear hm5 hlk)
            go_roundw
            case rel => exact ⟨j + 1, by go_num, by omega, by rw [HM.out.2], (HM.out.1.then H5.out).alloc _⟩
            case measure => simp [intOf]; omega
          | some p =>
            rw [hlo] at hlk hms
            simp only at hms
            obtain ⟨pg, psq, pix, ppa, pdt⟩ := p
            unfold LookTo at hlk
            simp only at hlk hms
            have hmx : max (MG : Int) (pg : Int) = ((max MG pg : Nat) : Int) := by omega
            have HM := hide (And.intro hm hms)
            clear hm hms hlo hmg
            go_wp2_with (go_at_call 73; refine hlk.mono ?_; rintro e w5 ⟨q5, c5, rfl, -, hm5⟩; have H5 := hide hm5; clear hm5 hlk)
            go_roundw
            case rel => exact ⟨j + 1, by go_num, by omega, by rw [HM.out.2], (HM.out.1.then H5.out).alloc _⟩
            case measure => simp [intOf]; omega
        · obtain rfl : j = 24 := by omega
          rw [List.take_of_length_le (by omega)]
          obtain ⟨MG, hmg⟩ : ∃ MG, maxGen gn SL = MG := ⟨_, rfl⟩
          have hmle := (maxGen_le SL gn hgn).1
          rw [hmg] at hmle ⊢
          have hwm : IntKind.i64.wrap ((MG : Int) + 1) = (MG : Int) + 1 := by rw [IntKind.wrap_i64]; omega
          have hht := HH.out.2
          rw [hmg] at hht
          have HT := hide hht
          have HM := hide hm
          clear hm hht hmg
          by_cases hge : 1073741824 ≤ MG
          · have hgi : (1073741824 : Int) ≤ (MG : Int) := by omega
            have HG := hide hge
            clear hge
            go_wp2_with fail
            go_ret2
            rw [← HT.out, if_pos HG.out]
            exact ⟨rfl, HH.out.1.quiet (H4.out.2.then HM.out), (H4.out.2.then HM.out).mono (by simp)⟩
          · have hgi : ¬ (1073741824 : Int) ≤ (MG : Int) := by omega
            have HG := hide hge
            clear hge
            go_wp2_with fail
            go_ret2
            rw [← HT.out, if_neg HG.out]
            exact ⟨rfl, HH.out.1.quiet (H4.out.2.then HM.out), (H4.out.2.then HM.out).mono (by simp)⟩
    · have hTL : TL pl pd 1 w.drew := ⟨(HC.out w.drew (Mod.refl _ _).drew).1, (HC.out w.drew (Mod.refl _ _).drew).2.2.1⟩
      clear ht
      refine wpL_start (s := 15) (T := TL pl pd 1) (by kernel_rfl) (fun hc => ?_)
      have hT : TL pl pd 1 w.drew := hTL
      refine wpL_pure (i := 0) (oi := { dst := some 12, op := Op.move (Operand.tmp 0), type := 26, pos := "ledger.go:124", after := #[], guard := none }) (v := ?_) rfl (by kernel_rfl) (by kernel_rfl) (by kernel_rfl) (fun _ _ _ h => h) (by decide) hc (Or.inl ⟨by rfl, ?_⟩) (fun _ => hT) (fun hc2 => ?_)
      rotate_left
      · (intro w _; go_simp; try with_reducible rfl)
      clear hc; have hc := hc2; clear hc2
      try simp only [Act.put, List.setIfInBounds_toArray, List.set_cons_zero, List.set_cons_succ]
      refine wpL_pure (i := 1) (oi := { dst := some 13, op := Op.nilCheck (Operand.tmp 12), type := 0, pos := "ledger.go:124", after := #[gD 0], guard := none }) (v := ?_) rfl (by kernel_rfl) (by kernel_rfl) (by kernel_rfl) (fun _ _ _ h => h) (by decide) hc (Or.inl ⟨by rfl, ?_⟩) (fun _ => hT) (fun hc2 => ?_)
      rotate_left
      · (intro w _; go_simp; try with_reducible rfl)
      clear hc; have hc := hc2; clear hc2
      try simp only [Act.put, List.setIfInBounds_toArray, List.set_cons_zero, List.set_cons_succ]
      refine wpL_pure (i := 2) (oi := { dst := some 14, op := Op.fieldAddr 80 (Operand.tmp 13) 0, type := 0, pos := "ledger.go:124", after := #[gD 1], guard := none }) (v := ?_) rfl (by kernel_rfl) (by kernel_rfl) (by kernel_rfl) (fun _ _ _ h => h) (by decide) hc (Or.inl ⟨by rfl, ?_⟩) (fun _ => hT) (fun hc2 => ?_)
      rotate_left
      · (intro w _; go_simp; try with_reducible rfl)
      clear hc; have hc := hc2; clear hc2
      try simp only [Act.put, List.setIfInBounds_toArray, List.set_cons_zero, List.set_cons_succ]
      refine wpL_take (T' := TL pl pd 1) (i := 3) (oi := { dst := some 15, op := Op.load 22 (Operand.tmp 14), type := 22, pos := "ledger.go:124", after := #[gD 2], guard := none }) (v := ?_) rfl (by kernel_rfl) (by kernel_rfl) (by kernel_rfl) (fun _ _ _ h => h) (by decide) (fun l2 w hc3 hu hs => hs (by
        cases hS : l2.getD 15 false with
        | false => exact getD_in (by rw [hc3.size]; decide) hS
        | true =>
          have a0 := hc3.step (k := 3) (by kernel_rfl) hS
          rw [getD_tf hu] at a0
          cases a0)) hc (Or.inl ⟨by rfl, ?_⟩) (fun _ => hT) (fun hc2 => ?_)
      rotate_left
      · (intro w hSw; have C0 := hSw.1; have C1 := hSw.2; go_simp; try with_reducible rfl)
      clear hc; have hc := hc2; clear hc2
      try simp only [Act.put, List.setIfInBounds_toArray, List.set_cons_zero, List.set_cons_succ]
      refine wpL_pure (i := 4) (oi := { dst := some 16, op := Op.makeFunc (Fn.func 72) #[Operand.tmp 15] #[], type := 116, pos := "ledger.go:124", after := #[gD 3], guard := none }) (v := ?_) rfl (by kernel_rfl) (by kernel_rfl) (by kernel_rfl) (fun _ _ _ h => h) (by decide) hc (Or.inl ⟨by rfl, ?_⟩) (fun _ => hT) (fun hc2 => ?_)
      rotate_left
      · (intro w _; go_simp; try with_reducible rfl)
      clear hc; have hc := hc2; clear hc2
      try simp only [Act.put, List.setIfInBounds_toArray, List.set_cons_zero, List.set_cons_succ]
      refine wpL_pure (i := 5) (oi := { dst := some 17, op := Op.move (Operand.tmp 0), type := 26, pos := "ledger.go:124", after := #[], guard := none }) (v := ?_) rfl (by kernel_rfl) (by kernel_rfl) (by kernel_rfl) (fun _ _ _ h => h) (by decide) hc (Or.inl ⟨by rfl, ?_⟩) (fun _ => hT) (fun hc2 => ?_)
      rotate_left
      · (intro w _; go_simp; try with_reducible rfl)
      clear hc; have hc := hc2; clear hc2
      try simp only [Act.put, List.setIfInBounds_toArray, List.set_cons_zero, List.set_cons_succ]
      refine wpL_pure (i := 6) (oi := { dst := some 18, op := Op.nilCheck (Operand.tmp 17), type := 0, pos := "ledger.go:124", after := #[gD 5], guard := none }) (v := ?_) rfl (by kernel_rfl) (by kernel_rfl) (by kernel_rfl) (fun _ _ _ h => h) (by decide) hc (Or.inl ⟨by rfl, ?_⟩) (fun _ => hT) (fun hc2 => ?_)
      rotate_left
      · (intro w _; go_simp; try with_reducible rfl)
      clear hc; have hc := hc2; clear hc2
      try simp only [Act.put, List.setIfInBounds_toArray, List.set_cons_zero, List.set_cons_succ]
      refine wpL_pure (i := 7) (oi := { dst := some 19, op := Op.fieldAddr 80 (Operand.tmp 18) 2, type := 0, pos := "ledger.go:124", after := #[gD 6], guard := none }) (v := ?_) rfl (by kernel_rfl) (by kernel_rfl) (by kernel_rfl) (fun _ _ _ h => h) (by decide) hc (Or.inl ⟨by rfl, ?_⟩) (fun _ => hT) (fun hc2 => ?_)
      rotate_left
      · (intro w _; go_simp; try with_reducible rfl)
      clear hc; have hc := hc2; clear hc2
      try simp only [Act.put, List.setIfInBounds_toArray, List.set_cons_zero, List.set_cons_succ]
      refine wpL_take (T' := TL pl pd 1) (i := 8) (oi := { dst := some 20, op := Op.load 3 (Operand.tmp 19), type := 3, pos := "ledger.go:124", after := #[gD 7], guard := none }) (v := ?_) rfl (by kernel_rfl) (by kernel_rfl) (by kernel_rfl) (fun _ _ _ h => h) (by decide) (fun l2 w hc3 hu hs => hs (by
        cases hS : l2.getD 15 false with
        | false => exact getD_in (by rw [hc3.size]; decide) hS
        | true =>
          have a0 := hc3.step (k := 8) (by kernel_rfl) hS
          rw [getD_tf hu] at a0
          cases a0)) hc (Or.inl ⟨by rfl, ?_⟩) (fun _ => hT) (fun hc2 => ?_)
      rotate_left
      · (intro w hSw; have C0 := hSw.1; have C1 := hSw.2; go_simp; try with_reducible rfl)
      clear hc; have hc := hc2; clear hc2
      try simp only [Act.put, List.setIfInBounds_toArray, List.set_cons_zero, List.set_cons_succ]
      refine wpL_pure (i := 9) (oi := { dst := some 21, op := Op.binOp BinOp.sub 3 (Operand.const (Value.int IntKind.i64 1)) (Operand.tmp 20) 3, type := 3, pos := "ledger.go:124", after := #[gD 8], guard := none }) (v := ?_) rfl (by kernel_rfl) (by kernel_rfl) (by kernel_rfl) (fun _ _ _ h => h) (by decide) hc (Or.inl ⟨by rfl, ?_⟩) (fun _ => hT) (fun hc2 => ?_)
      rotate_left
      · (intro w _; go_simp; try with_reducible rfl)
      clear hc; have hc := hc2; clear hc2
      try simp only [Act.put, List.setIfInBounds_toArray, List.set_cons_zero, List.set_cons_succ]
      refine wpL_ready (rs := [10]) (by kernel_rfl) (by simp) ?_ hc
      intro i hi hc2
      simp only [List.mem_cons, List.mem_nil_iff, or_false] at hi
      subst hi
      clear hc; have hc := hc2; clear hc2
      refine wpOp_step (o := { dst := some 22, op := Op.call { callee := Callee.value (Operand.func 76), args := #[Operand.tmp 16, Operand.tmp 21], argTypes := #[116, 3] }, type := 121, pos := "ledger.go:124", after := #[gD 4, gD 9], guard := none }) rfl (fun K hK => ?_)
      have HK := hide hK
      clear hK
      refine step_call rfl 76 #[.tmp 16, .tmp 21] #[116, 3] rfl (enters_of Tryz.func76 (by kernel_rfl) rfl) #[.func (.func 72) #[.pointer (some ⟨pd, 0, none⟩)] #[], .int .i64 0] (by simp [Act.eval]) ?_
      refine hrg.mono ?_
      rintro e w3 ⟨q3, c3, vs3, rfl, hr3, hm3⟩
      refine ⟨_, rfl, ?_⟩
      have hT2 : TL pl pd 1 w3 := ⟨hm3.kept hT.1 (by simp), hm3.kept hT.2 (by simp)⟩
      have H3 := hide (And.intro hr3 hm3)
      clear hr3 hm3
      refine HK.out _ _ ⟨fun _ => hT2, ?_⟩
      clear HK K hT
      have hT := hT2
      clear hT2
      try simp only [Act.put, List.setIfInBounds_toArray, List.set_cons_zero, List.set_cons_succ]
      refine wpL_pure (i := 11) (oi := { dst := some 11, op := Op.move (Operand.tmp 22), type := 121, pos := "ledger.go:124", after := #[gD 10], guard := none }) (v := ?_) rfl (by kernel_rfl) (by kernel_rfl) (by kernel_rfl) (fun _ _ _ h => h) (by decide) hc (Or.inl ⟨by rfl, ?_⟩) (fun _ => hT) (fun hc2 => ?_)
      rotate_left
      · (intro w _; go_simp; try with_reducible rfl)
      clear hc; have hc := hc2; clear hc2
      try simp only [Act.put, List.setIfInBounds_toArray, List.set_cons_zero, List.set_cons_succ]
      refine wpL_pure (i := 12) (oi := { dst := some 23, op := Op.extract (Operand.tmp 11) 0, type := 65, pos := "ledger.go:124", after := #[gD 11], guard := none }) (v := ?_) rfl (by kernel_rfl) (by kernel_rfl) (by kernel_rfl) (fun _ _ _ h => h) (by decide) hc (Or.inl ⟨by rfl, ?_⟩) (fun _ => hT) (fun hc2 => ?_)
      rotate_left
      · (intro w _; go_simp; try with_reducible rfl)
      clear hc; have hc := hc2; clear hc2
      try simp only [Act.put, List.setIfInBounds_toArray, List.set_cons_zero, List.set_cons_succ]
      refine wpL_pure (i := 13) (oi := { dst := some 24, op := Op.extract (Operand.tmp 11) 1, type := 23, pos := "ledger.go:124", after := #[gD 11, { on := 14, ground := Ground.gcOnly Departure.lateStores }], guard := none }) (v := ?_) rfl (by kernel_rfl) (by kernel_rfl) (by kernel_rfl) (fun _ _ _ h => h) (by decide) hc (Or.inl ⟨by rfl, ?_⟩) (fun _ => hT) (fun hc2 => ?_)
      rotate_left
      · (intro w _; go_simp; try with_reducible rfl)
      clear hc; have hc := hc2; clear hc2
      try simp only [Act.put, List.setIfInBounds_toArray, List.set_cons_zero, List.set_cons_succ]
      refine wpL_pure (i := 14) (oi := { dst := some 4, op := Op.assign (Operand.tmp 23), type := 65, pos := "ledger.go:124", after := #[gD 12, gC 10, gP 0, gP 1, gP 2, gP 3, gP 4, gP 5, gP 6, gP 7, gP 8, gP 9, gP 10, gP 11, gP 12, { on := 13, ground := Ground.textOnly Departure.lateStores }], guard := none }) (v := ?_) rfl (by kernel_rfl) (by kernel_rfl) (by kernel_rfl) (fun _ _ _ h => h) (by decide) hc (Or.inl ⟨by rfl, ?_⟩) (fun _ => hT) (fun hc2 => ?_)
      rotate_left
      · (intro w _; go_simp; try with_reducible rfl)
      clear hc; have hc := hc2; clear hc2
      try simp only [Act.put, List.setIfInBounds_toArray, List.set_cons_zero, List.set_cons_succ]
      refine wpL_ready (rs := [15]) (by kernel_rfl) (by simp) ?_ hc
      intro i hi hc2
      simp only [List.mem_cons, List.mem_nil_iff, or_false] at hi
      subst hi
      clear hc; have hc := hc2; clear hc2
      refine wpOp_step (o := { dst := some 5, op := Op.assign (Operand.tmp 24), type := 23, pos := "ledger.go:124", after := #[gD 13, gC 14, gP 0, gP 1, gP 2, gP 3, gP 4, gP 5, gP 6, gP 7, gP 8, gP 9, gP 10, gP 11, gP 12, gP 13, gP 14], guard := none }) rfl (fun K hK => ?_)
      have HK := hide hK
      clear hK
      go_simp
      refine HK.out _ _ ⟨fun h => by simp at h, ?_⟩
      clear HK K hT
      have hT := hc.size
      try simp only [Act.put, List.setIfInBounds_toArray, List.set_cons_zero, List.set_cons_succ]
      refine wpL_done (by kernel_rfl) ?_
      clear hT hc
      have hsl := side_len (s := d.secs) (k := 0) (by omega) h49
      obtain ⟨SL, hSL⟩ : ∃ SL, sideS d.secs 0 = SL := ⟨_, rfl⟩
      rw [hSL] at hsl
      rw [show sideS d.secs (1 - 1) = SL from hSL] at HH
      have hr3 := H3.out.1
      rw [show sideS d.secs (1 - 1) = SL from hSL] at hr3
      have hm13 : Mod [] w w3 := (Mod.refl [] w).drew.then H3.out.2
      have H4 := hide (And.intro hr3 hm13)
      obtain ⟨k0, k1, k2, k9, f9⟩ := HC.out w3 hm13
      clear hr3 hm13 H3 hSL k0 k2 k9 f9
      clear hmf hrg hTL
      go_upto_region 7 with fail
      go_loopw [6, 37] (fun s6 i wr => NgRel w3 gn SL s6 i wr) (fun _ i _ => 24 - (intOf i).toNat)
      case atStart => exact ⟨0, rfl, Nat.zero_le _, rfl, Mod.refl _ _⟩
      case round =>
        obtain ⟨j, rfl, hj, rfl, hm⟩ := hrel
        by_cases hlt2 : j < 24
        · have hjn : (j : Int) < 24 := by omega
          obtain ⟨rb, rfl, hrb, hcv, hel⟩ := (H4.out.1.mod hm (by simp)).at_ j (by omega)
          have htk : SL.take (j + 1) = SL.take j ++ [SL.getD j []] := by rw [List.take_add_one]; simp [show j < SL.length by omega]
          have hms := maxGen_snoc gn (SL.take j) (SL.getD j [])
          rw [← htk] at hms
          have hlk := look_any hel.rd
          generalize SL.getD j [] = B at hlk hms
          generalize hmg : maxGen gn (SL.take j) = MG at hms
          obtain ⟨qs, cs, hsv⟩ := hel.rd.len
          rw [hsv] at hcv hlk
          obtain ⟨nB, hnB⟩ : ∃ n, (SL.getD j []).length = n := ⟨_, rfl⟩
          rw [hnB] at hcv hlk
          clear htk hel hsv hnB
          cases hlo : lookS B with
          | none =>
            rw [hlo] at hlk hms
            simp only at hms
            have HM := hide (And.intro hm hms)
            clear hm hms hlo hmg
            go_wp2_with (go_at_call 73; refine hlk.mono ?_; rintro e w5 ⟨rfl, hm5⟩; have H5 := hide hm5; clear hm5 hlk)
            go_roundw
            case rel => exact ⟨j + 1, by go_num, by omega, by rw [HM.out.2], (HM.out.1.then H5.out).alloc _⟩
            case measure => simp [intOf]; omega
          | some p =>
            rw [hlo] at hlk hms
            simp only at hms
            obtain ⟨pg, psq, pix, ppa, pdt⟩ := p
            unfold LookTo at hlk
            simp only at hlk hms
            have hmx : max (MG : Int) (pg : Int) = ((max MG pg : Nat) : Int) := by omega
            have HM := hide (And.intro hm hms)
            clear hm hms hlo hmg
            go_wp2_with (go_at_call 73; refine hlk.mono ?_; rintro e w5 ⟨q5, c5, rfl, -, hm5⟩; have H5 := hide hm5; clear hm5 hlk)
            go_roundw
            case rel => exact ⟨j + 1, by go_num, by omega, by rw [HM.out.2], (HM.out.1.then H5.out).alloc _⟩
            case measure => simp [intOf]; omega
        · obtain rfl : j = 24 := by omega
          rw [List.take_of_length_le (by omega)]
          obtain ⟨MG, hmg⟩ : ∃ MG, maxGen gn SL = MG := ⟨_, rfl⟩
          have hmle := (maxGen_le SL gn hgn).1
          rw [hmg] at hmle ⊢
          have hwm : IntKind.i64.wrap ((MG : Int) + 1) = (MG : Int) + 1 := by rw [IntKind.wrap_i64]; omega
          have hht := HH.out.2
          rw [hmg] at hht
          have HT := hide hht
          have HM := hide hm
          clear hm hht hmg
          by_cases hge : 1073741824 ≤ MG
          · have hgi : (1073741824 : Int) ≤ (MG : Int) := by omega
            have HG := hide hge
            clear hge
            go_wp2_with fail
            go_ret2
            rw [← HT.out, if_pos HG.out]
            exact ⟨rfl, HH.out.1.quiet (H4.out.2.then HM.out), (H4.out.2.then HM.out).mono (by simp)⟩
          · have hgi : ¬ (1073741824 : Int) ≤ (MG : Int) := by omega
            have HG := hide hge
            clear hge
            go_wp2_with fail
            go_ret2
            rw [← HT.out, if_neg HG.out]
            exact ⟨rfl, HH.out.1.quiet (H4.out.2.then HM.out), (H4.out.2.then HM.out).mono (by simp)⟩
end Go.Proofs.YtpphoeimakjjdaaGreatDoor
