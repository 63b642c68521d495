/-
  WALKS: layer 12: recover. (Written by wip/gen_led5.py.)
-/
import Derived.Test.YtpphoeimakjjdaaGreatDoorMLedW4
import Derived.Test.YtpphoeimakjjdaaGreatDoorMBookA
namespace Go.Proofs.YtpphoeimakjjdaaGreatDoor
open Go.RowKit Go.Shelf

theorem rest_len {l : List B8} {gen a seq parts : Nat} : ∀ (k i : Nat) {d : B8}, restS l gen a seq parts k i = some d → d.length ≤ 47 * k
  | 0, _, d, h => by
    cases h
    simp
  | k + 1, i, d, h => by
    unfold restS at h
    cases hp : partS l gen (a + i) seq i parts with
    | none => rw [hp] at h; cases h
    | some p =>
      rw [hp, Option.bind_some] at h
      cases hr : restS l gen a seq parts k (i + 1) with
      | none => rw [hr] at h; cases h
      | some d2 =>
        rw [hr, Option.bind_some] at h
        cases h
        obtain ⟨_, _, hl, _⟩ := part_some hp
        have := (look_fits hl).2.2.1
        have := rest_len k (i + 1) hr
        rw [List.length_append]
        omega
theorem rec_len {l : List B8} {gen a seq : Nat} {d : B8} {n : Nat} (h : recS l gen a seq = some (d, n)) : d.length ≤ 188 := by
  obtain ⟨p, d', hp, hr, rfl, rfl⟩ := rec_some h
  obtain ⟨_, _, hl, _⟩ := part_some hp
  have h1 := (look_fits hl).2.1
  have := (look_fits hl).2.2.1
  have := rest_len _ _ hr
  rw [List.length_append]
  omega
theorem scanF_len {l : List B8} {gen : Nat} : ∀ (f a seq : Nat) (d : B8), d ∈ (scanF l gen f a seq).1 → d.length ≤ 188
  | 0, _, _, d, h => by cases h
  | f + 1, a, seq, d, h => by
    unfold scanF at h
    cases hr : recS l gen a seq with
    | none => rw [hr] at h; cases h
    | some t =>
      obtain ⟨x, n⟩ := t
      rw [hr] at h
      rcases List.mem_cons.1 h with rfl | h
      · exact rec_len hr
      · exact scanF_len f _ _ d h
theorem scan_len {l : List B8} {gen j : Nat} : ((scanS l gen).1.getD j []).length ≤ 188 := by
  by_cases hj : j < (scanS l gen).1.length
  · exact scanF_len _ _ _ _ (by rw [List.getD_eq_getElem?_getD, List.getElem?_eq_getElem hj]; exact List.getElem_mem hj)
  · rw [List.getD_eq_getElem?_getD, List.getElem?_eq_none (by omega)]
    simp
theorem play_at {b : Bk} {l : List B8} {j : Nat} (h : j < l.length) : playB b (l.drop j) = match decB (l.getD j []) with
    | none => (b, 0, 0)
    | some r => if (applyB b r).2 = 0 then ((playB (applyB b r).1 (l.drop (j + 1))).1, (playB (applyB b r).1 (l.drop (j + 1))).2.1 + 1, (playB (applyB b r).1 (l.drop (j + 1))).2.2 + widthN (l.getD j []).length) else (b, 0, 0) := by
  have : l.drop j = l.getD j [] :: l.drop (j + 1) := by rw [List.drop_eq_getElem_cons h]; simp [h]
  rw [this]
  rfl
theorem dec_none {w : World} {u : Value} {b : B8} (hu : RdY w u b) (hl : b.length ≤ 1000000000) (h : decB b = none) :
    Calls Tryz.prog 78 #[u] w fun e w' => ∃ p1 n1 c1 p2 n2 c2, e = .returned (.tuple #[aggR Rcd.zero (.slice p1 n1 c1) (.slice p2 n2 c2), .int .i64 43]) ∧ Mod [] w w' := by
  refine (decode_any hu hl).mono ?_
  rintro e w' ⟨sv, tv, rfl, h1, h2, hm⟩
  rw [h] at h1 h2 ⊢
  obtain ⟨p1, c1, rfl⟩ := h1.len
  obtain ⟨p2, c2, rfl⟩ := h2.len
  exact ⟨p1, _, c1, p2, _, c2, rfl, hm⟩
theorem dec_some {w : World} {u : Value} {b : B8} {r : Rcd} (hu : RdY w u b) (hl : b.length ≤ 1000000000) (h : decB b = some r) :
    Calls Tryz.prog 78 #[u] w fun e w' => ∃ p1 n1 c1 p2 n2 c2, e = .returned (.tuple #[aggR r (.slice p1 n1 c1) (.slice p2 n2 c2), .int .i64 0]) ∧ RdN w' (.slice p1 n1 c1) r.grant.stamp ∧ RdN w' (.slice p2 n2 c2) r.stamp ∧ Mod [] w w' := by
  refine (decode_any hu hl).mono ?_
  rintro e w' ⟨sv, tv, rfl, h1, h2, hm⟩
  rw [h] at h1 h2 ⊢
  simp only [Option.getD_some] at h1 h2
  obtain ⟨p1, c1, rfl⟩ := h1.len
  obtain ⟨p2, c2, rfl⟩ := h2.len
  exact ⟨p1, _, c1, p2, _, c2, rfl, h1, h2, hm⟩
def TV (pl rb : Nat) (P R : Array Value) (w : World) : Prop := w.heap[pl]? = some (.cells P 80 (0, 0)) ∧ w.heap[rb]? = some (.cells R 42 (0, 0))
theorem TV.mod {pl rb : Nat} {P R : Array Value} {w w' : World} (h : TV pl rb P R w) {S : List Nat} (m : Mod S w w') (h1 : pl ∉ S) (h2 : rb ∉ S) : TV pl rb P R w' := ⟨m.at_ h.1 h1, m.at_ h.2 h2⟩
def TS (pl : Nat) (P : Array Value) (w : World) : Prop := w.heap[pl]? = some (.cells P 80 (0, 0))
/-- a book that Apply gave, in a box of its own -/
def ApR (W : World) (t : Bk × Int) (s10 s11 : Value) (wx : World) : Prop :=
  ∃ bx q n c lv, s10 = .int .i64 t.2 ∧ s11 = .pointer (some ⟨bx, 0, none⟩) ∧ wx.heap[bx]? = some (.cells #[.int .i64 t.1.next, .int .i64 t.1.boots, .int .i64 t.1.longest, .slice q n c] 34 (0, 0)) ∧ W.heap.size ≤ bx ∧ BkM wx W.heap.size (.slice q n c) t.1 lv ∧ Mod [] W wx
theorem mod_fresh {W W' W2 : World} {S : List Nat} (m : Mod [] W W') (m2 : Mod S W' W2) (hS : ∀ k, k ∈ S → W.heap.size ≤ k) : Mod [] W W2 := by
  exact m.trans m2 (fun _ x _ => x) (fun x hx hlt => absurd (hS x hx) (by omega))
def RcvTo (w : World) (pl pd bs : Nat) (d : Dk) (l : Lg) (t : Bk × Nat × Nat) (e : Ending) (w' : World) : Prop :=
  (d.off = true ∧ e = .returned (.int .i64 40) ∧ Mod [] w w') ∨
  (d.off = false ∧ e = .returned (.int .i64 0) ∧ ∃ gv lv, LgM w' pl pd bs gv lv d { l with book := t.1, seq := l.seq + t.2.1, used := l.used + t.2.2 } ∧ Mod [pl] w w')
def RcvRel (w5 : World) (pl pd bs : Nat) (d : Dk) (gn ar sq us : Nat) (dd : Bool) (t : Bk × Nat × Nat) (RS : List B8) (i : Value) (wr : World) : Prop :=
  ∃ (j : Nat) (gv : Value) (lv : List (Grt × Value)) (b : Bk) (s u : Nat), i = .int .i64 (j : Int) ∧ j ≤ RS.length ∧ LgM wr pl pd bs gv lv d ⟨gn, ar, s, u, b, dd⟩ ∧ validB b = true ∧ s ≤ sq + j ∧ u ≤ us + 2 * j ∧
    Hid (t.1 = (playB b (RS.drop j)).1 ∧ sq + t.2.1 = s + (playB b (RS.drop j)).2.1 ∧ us + t.2.2 = u + (playB b (RS.drop j)).2.2) ∧ Mod [pl] w5 wr
theorem RcvRel.done {w w5 wr w' : World} {pl pd bs : Nat} {d : Dk} {gn ar sq us : Nat} {dd : Bool} {t : Bk × Nat × Nat} {RS : List B8} {j : Nat} {gv : Value} {lv : List (Grt × Value)} {b bk : Bk} {s u : Nat} (hlg : LgM wr pl pd bs gv lv d ⟨gn, ar, s, u, b, dd⟩)
    (HP : Hid (t.1 = (playB b (RS.drop j)).1 ∧ sq + t.2.1 = s + (playB b (RS.drop j)).2.1 ∧ us + t.2.2 = u + (playB b (RS.drop j)).2.2)) (he : playB b (RS.drop j) = (b, 0, 0)) (hd : d.off = false) (hm : Mod [] w w5) (hm2 : Mod [pl] w5 wr) (hm3 : Mod [] wr w') :
    RcvTo w pl pd bs d ⟨gn, ar, sq, us, bk, dd⟩ t (.returned (.int .i64 0)) w' := by
  obtain ⟨h1, h2, h3⟩ := HP.out
  rw [he] at h1 h2 h3
  simp only [Nat.add_zero] at h1 h2 h3
  refine .inr ⟨hd, rfl, gv, lv, ?_, ((hm.mono (by simp)).then hm2).then (hm3.mono (by simp))⟩
  simp only
  rw [h1, h2, h3]
  exact hlg.quiet hm3
set_option maxHeartbeats 4000000 in
set_option maxRecDepth 100000 in
theorem recover_any {w : World} {pl pd bs : Nat} {gv : Value} {lv : List (Grt × Value)} {d : Dk} {l : Lg} (h : LgM w pl pd bs gv lv d l) (hb : validB l.book = true) (har : l.area ≤ 1) (hs : l.seq ≤ 1000) (hu : l.used ≤ 1000) (h49 : 49 ≤ d.secs.length) :
    Calls Tryz.prog 45 #[.pointer (some ⟨pl, 0, none⟩)] w fun e w' => RcvTo w pl pd bs d l (playB l.book (scanS (sideS d.secs l.area) l.gen).1) e w' := by
  have hlt := h.lt
  have hplw := lt_of_block h.blk
  have hmf : ∀ (fn : Fn) (first cap : Array Value) (w : World), (Instr.makeFunc fn first cap).run Tryz.prog w = .ok (.func fn first cap) w := fun _ _ _ _ => rfl
  obtain ⟨gn, ar, sq, us, bk, dd⟩ := l
  simp only at hb har hs hu ⊢
  have hlen := fun j => scan_len (l := sideS d.secs ar) (gen := gn) (j := j)
  obtain ⟨⟨RS, US⟩, hRS⟩ : ∃ t, scanS (sideS d.secs ar) gn = t := ⟨_, rfl⟩
  obtain ⟨t, ht⟩ : ∃ t, playB bk RS = t := ⟨_, rfl⟩
  rw [hRS] at hlen ⊢
  simp only at hlen ⊢
  rw [ht]
  have HL := hide hlen
  clear hlen
  have hTL : TL pl pd (ar : Int) w.drew := ⟨blk_cell h.blk 0, blk_cell h.blk 2⟩
  have k1 : w.cell? ⟨pl, 1, none⟩ = some (.int .i64 (gn : Int)) := blk_cell h.blk 1
  have hrg0 := region_any (h.dk.mod (Mod.refl [] w).drew (by simp) (by simp)) ar har h49
  have HH := hide (And.intro h (And.intro hRS ht))
  clear h hRS ht
  cases hd : d.off with
  | true =>
    have hrg := hrg0.mono (R' := fun e w' => e = .returned (.tuple #[.slice none 0 0, .int .i64 40]) ∧ Mod [] w.drew w') (fun e w' hx => by
      rcases hx with ⟨_, h1, h2⟩ | ⟨h0, _⟩
      · exact ⟨h1, h2⟩
      · rw [hd] at h0; cases h0)
    clear hrg0 k1
    go_enter Tryz.func45, Tryz.ntmps45
    go_upto_region 1 with fail
    refine wpL_start (s := 14) (T := TL pl pd (ar : Int)) (by kernel_rfl) (fun hc => ?_)
    have hT : TL pl pd (ar : Int) w.drew := hTL
    refine wpL_pure (i := 0) (oi := { dst := some 13, op := Op.move (Operand.tmp 0), type := 26, pos := "ledger.go:66", after := #[], guard := none }) (v := ?_) rfl (by kernel_rfl) (by kernel_rfl) (by kernel_rfl) (fun _ _ _ h => h) (by decide) hc (Or.inl ⟨by rfl, ?_⟩) (fun _ => hT) (fun hc2 => ?_)
    rotate_left
    · (intro w _; go_simp; try with_reducible rfl)
    clear hc; have hc := hc2; clear hc2
    try simp only [Act.put, List.setIfInBounds_toArray, List.set_cons_zero, List.set_cons_succ]
    refine wpL_pure (i := 1) (oi := { dst := some 14, op := Op.nilCheck (Operand.tmp 13), type := 0, pos := "ledger.go:66", after := #[gD 0], guard := none }) (v := ?_) rfl (by kernel_rfl) (by kernel_rfl) (by kernel_rfl) (fun _ _ _ h => h) (by decide) hc (Or.inl ⟨by rfl, ?_⟩) (fun _ => hT) (fun hc2 => ?_)
    rotate_left
    · (intro w _; go_simp; try with_reducible rfl)
    clear hc; have hc := hc2; clear hc2
    try simp only [Act.put, List.setIfInBounds_toArray, List.set_cons_zero, List.set_cons_succ]
    refine wpL_pure (i := 2) (oi := { dst := some 15, op := Op.fieldAddr 80 (Operand.tmp 14) 0, type := 0, pos := "ledger.go:66", after := #[gD 1], guard := none }) (v := ?_) rfl (by kernel_rfl) (by kernel_rfl) (by kernel_rfl) (fun _ _ _ h => h) (by decide) hc (Or.inl ⟨by rfl, ?_⟩) (fun _ => hT) (fun hc2 => ?_)
    rotate_left
    · (intro w _; go_simp; try with_reducible rfl)
    clear hc; have hc := hc2; clear hc2
    try simp only [Act.put, List.setIfInBounds_toArray, List.set_cons_zero, List.set_cons_succ]
    refine wpL_take (T' := TL pl pd (ar : Int)) (i := 3) (oi := { dst := some 16, op := Op.load 22 (Operand.tmp 15), type := 22, pos := "ledger.go:66", after := #[gD 2], guard := none }) (v := ?_) rfl (by kernel_rfl) (by kernel_rfl) (by kernel_rfl) (fun _ _ _ h => h) (by decide) (fun l2 w hc3 hu hs => hs (by
      cases hS : l2.getD 14 false with
      | false => exact getD_in (by rw [hc3.size]; decide) hS
      | true =>
        have a0 := hc3.step (k := 3) (by kernel_rfl) hS
        rw [getD_tf hu] at a0
        cases a0)) hc (Or.inl ⟨by rfl, ?_⟩) (fun _ => hT) (fun hc2 => ?_)
    rotate_left
    · (intro w hSw; have C0 := hSw.1; have C1 := hSw.2; go_simp; try with_reducible rfl)
    clear hc; have hc := hc2; clear hc2
    try simp only [Act.put, List.setIfInBounds_toArray, List.set_cons_zero, List.set_cons_succ]
    refine wpL_pure (i := 4) (oi := { dst := some 17, op := Op.makeFunc (Fn.func 72) #[Operand.tmp 16] #[], type := 116, pos := "ledger.go:66", after := #[gD 3], guard := none }) (v := ?_) rfl (by kernel_rfl) (by kernel_rfl) (by kernel_rfl) (fun _ _ _ h => h) (by decide) hc (Or.inl ⟨by rfl, ?_⟩) (fun _ => hT) (fun hc2 => ?_)
    rotate_left
    · (intro w _; go_simp; try with_reducible rfl)
    clear hc; have hc := hc2; clear hc2
    try simp only [Act.put, List.setIfInBounds_toArray, List.set_cons_zero, List.set_cons_succ]
    refine wpL_pure (i := 5) (oi := { dst := some 18, op := Op.move (Operand.tmp 0), type := 26, pos := "ledger.go:66", after := #[], guard := none }) (v := ?_) rfl (by kernel_rfl) (by kernel_rfl) (by kernel_rfl) (fun _ _ _ h => h) (by decide) hc (Or.inl ⟨by rfl, ?_⟩) (fun _ => hT) (fun hc2 => ?_)
    rotate_left
    · (intro w _; go_simp; try with_reducible rfl)
    clear hc; have hc := hc2; clear hc2
    try simp only [Act.put, List.setIfInBounds_toArray, List.set_cons_zero, List.set_cons_succ]
    refine wpL_pure (i := 6) (oi := { dst := some 19, op := Op.nilCheck (Operand.tmp 18), type := 0, pos := "ledger.go:66", after := #[gD 5], guard := none }) (v := ?_) rfl (by kernel_rfl) (by kernel_rfl) (by kernel_rfl) (fun _ _ _ h => h) (by decide) hc (Or.inl ⟨by rfl, ?_⟩) (fun _ => hT) (fun hc2 => ?_)
    rotate_left
    · (intro w _; go_simp; try with_reducible rfl)
    clear hc; have hc := hc2; clear hc2
    try simp only [Act.put, List.setIfInBounds_toArray, List.set_cons_zero, List.set_cons_succ]
    refine wpL_pure (i := 7) (oi := { dst := some 20, op := Op.fieldAddr 80 (Operand.tmp 19) 2, type := 0, pos := "ledger.go:66", after := #[gD 6], guard := none }) (v := ?_) rfl (by kernel_rfl) (by kernel_rfl) (by kernel_rfl) (fun _ _ _ h => h) (by decide) hc (Or.inl ⟨by rfl, ?_⟩) (fun _ => hT) (fun hc2 => ?_)
    rotate_left
    · (intro w _; go_simp; try with_reducible rfl)
    clear hc; have hc := hc2; clear hc2
    try simp only [Act.put, List.setIfInBounds_toArray, List.set_cons_zero, List.set_cons_succ]
    refine wpL_take (T' := TL pl pd (ar : Int)) (i := 8) (oi := { dst := some 21, op := Op.load 3 (Operand.tmp 20), type := 3, pos := "ledger.go:66", after := #[gD 7], guard := none }) (v := ?_) rfl (by kernel_rfl) (by kernel_rfl) (by kernel_rfl) (fun _ _ _ h => h) (by decide) (fun l2 w hc3 hu hs => hs (by
      cases hS : l2.getD 14 false with
      | false => exact getD_in (by rw [hc3.size]; decide) hS
      | true =>
        have a0 := hc3.step (k := 8) (by kernel_rfl) hS
        rw [getD_tf hu] at a0
        cases a0)) hc (Or.inl ⟨by rfl, ?_⟩) (fun _ => hT) (fun hc2 => ?_)
    rotate_left
    · (intro w hSw; have C0 := hSw.1; have C1 := hSw.2; go_simp; try with_reducible rfl)
    clear hc; have hc := hc2; clear hc2
    try simp only [Act.put, List.setIfInBounds_toArray, List.set_cons_zero, List.set_cons_succ]
    refine wpL_ready (rs := [9]) (by kernel_rfl) (by simp) ?_ hc
    intro i hi hc2
    simp only [List.mem_cons, List.mem_nil_iff, or_false] at hi
    subst hi
    clear hc; have hc := hc2; clear hc2
    refine wpOp_step (o := { dst := some 22, op := Op.call { callee := Callee.value (Operand.func 76), args := #[Operand.tmp 17, Operand.tmp 21], argTypes := #[116, 3] }, type := 121, pos := "ledger.go:66", after := #[gD 4, gD 8], guard := none }) rfl (fun K hK => ?_)
    have HK := hide hK
    clear hK
    refine step_call rfl 76 #[.tmp 17, .tmp 21] #[116, 3] rfl (enters_of Tryz.func76 (by kernel_rfl) rfl) #[.func (.func 72) #[.pointer (some ⟨pd, 0, none⟩)] #[], .int .i64 (ar : Int)] (by simp [Act.eval]) ?_
    refine hrg.mono ?_
    rintro e w3 ⟨rfl, hm3⟩
    refine ⟨_, rfl, ?_⟩
    have hT2 : TL pl pd (ar : Int) w3 := ⟨hm3.kept hT.1 (by simp), hm3.kept hT.2 (by simp)⟩
    have H3 := hide (hm3)
    clear hm3
    refine HK.out _ _ ⟨fun _ => hT2, ?_⟩
    clear HK K hT
    have hT := hT2
    clear hT2
    try simp only [Act.put, List.setIfInBounds_toArray, List.set_cons_zero, List.set_cons_succ]
    refine wpL_pure (i := 10) (oi := { dst := some 12, op := Op.move (Operand.tmp 22), type := 121, pos := "ledger.go:66", after := #[gD 9], guard := none }) (v := ?_) rfl (by kernel_rfl) (by kernel_rfl) (by kernel_rfl) (fun _ _ _ h => h) (by decide) hc (Or.inl ⟨by rfl, ?_⟩) (fun _ => hT) (fun hc2 => ?_)
    rotate_left
    · (intro w _; go_simp; try with_reducible rfl)
    clear hc; have hc := hc2; clear hc2
    try simp only [Act.put, List.setIfInBounds_toArray, List.set_cons_zero, List.set_cons_succ]
    refine wpL_pure (i := 11) (oi := { dst := some 23, op := Op.extract (Operand.tmp 12) 0, type := 65, pos := "ledger.go:66", after := #[gD 10], guard := none }) (v := ?_) rfl (by kernel_rfl) (by kernel_rfl) (by kernel_rfl) (fun _ _ _ h => h) (by decide) hc (Or.inl ⟨by rfl, ?_⟩) (fun _ => hT) (fun hc2 => ?_)
    rotate_left
    · (intro w _; go_simp; try with_reducible rfl)
    clear hc; have hc := hc2; clear hc2
    try simp only [Act.put, List.setIfInBounds_toArray, List.set_cons_zero, List.set_cons_succ]
    refine wpL_pure (i := 12) (oi := { dst := some 24, op := Op.extract (Operand.tmp 12) 1, type := 23, pos := "ledger.go:66", after := #[gD 10, { on := 13, ground := Ground.gcOnly Departure.lateStores }], guard := none }) (v := ?_) rfl (by kernel_rfl) (by kernel_rfl) (by kernel_rfl) (fun _ _ _ h => h) (by decide) hc (Or.inl ⟨by rfl, ?_⟩) (fun _ => hT) (fun hc2 => ?_)
    rotate_left
    · (intro w _; go_simp; try with_reducible rfl)
    clear hc; have hc := hc2; clear hc2
    try simp only [Act.put, List.setIfInBounds_toArray, List.set_cons_zero, List.set_cons_succ]
    refine wpL_pure (i := 13) (oi := { dst := some 3, op := Op.assign (Operand.tmp 23), type := 65, pos := "ledger.go:66", after := #[gD 11, gC 9, gP 0, gP 1, gP 2, gP 3, gP 4, gP 5, gP 6, gP 7, gP 8, gP 9, gP 10, gP 11, { on := 12, ground := Ground.textOnly Departure.lateStores }], guard := none }) (v := ?_) rfl (by kernel_rfl) (by kernel_rfl) (by kernel_rfl) (fun _ _ _ h => h) (by decide) hc (Or.inl ⟨by rfl, ?_⟩) (fun _ => hT) (fun hc2 => ?_)
    rotate_left
    · (intro w _; go_simp; try with_reducible rfl)
    clear hc; have hc := hc2; clear hc2
    try simp only [Act.put, List.setIfInBounds_toArray, List.set_cons_zero, List.set_cons_succ]
    refine wpL_ready (rs := [14]) (by kernel_rfl) (by simp) ?_ hc
    intro i hi hc2
    simp only [List.mem_cons, List.mem_nil_iff, or_false] at hi
    subst hi
    clear hc; have hc := hc2; clear hc2
    refine wpOp_step (o := { dst := some 4, op := Op.assign (Operand.tmp 24), type := 23, pos := "ledger.go:66", after := #[gD 12, gC 13, gP 0, gP 1, gP 2, gP 3, gP 4, gP 5, gP 6, gP 7, gP 8, gP 9, gP 10, gP 11, gP 12, gP 13], guard := none }) rfl (fun K hK => ?_)
    have HK := hide hK
    clear hK
    go_simp
    refine HK.out _ _ ⟨fun h => by simp at h, ?_⟩
    clear HK K hT
    have hT := hc.size
    try simp only [Act.put, List.setIfInBounds_toArray, List.set_cons_zero, List.set_cons_succ]
    refine wpL_done (by kernel_rfl) ?_
    clear hT hc
    go_wp2_with fail
    go_ret
    exact .inl ⟨hd, rfl, (Mod.refl [] w).drew.then H3.out⟩
  | false =>
    have hrg := hrg0.mono (R' := fun e w' => ∃ q c vs, e = .returned (.tuple #[.slice q 24 c, .int .i64 0]) ∧ RdsY w' w.drew.heap.size (.slice q 24 c) vs (sideS d.secs ar) ∧ Mod [] w.drew w') (fun e w' hx => by
      rcases hx with ⟨h0, _⟩ | ⟨_, h1⟩
      · rw [hd] at h0; cases h0
      · exact h1)
    clear hrg0
    go_enter Tryz.func45, Tryz.ntmps45
    go_upto_region 1 with fail
    refine wpL_start (s := 14) (T := TL pl pd (ar : Int)) (by kernel_rfl) (fun hc => ?_)
    have hT : TL pl pd (ar : Int) w.drew := hTL
    refine wpL_pure (i := 0) (oi := { dst := some 13, op := Op.move (Operand.tmp 0), type := 26, pos := "ledger.go:66", after := #[], guard := none }) (v := ?_) rfl (by kernel_rfl) (by kernel_rfl) (by kernel_rfl) (fun _ _ _ h => h) (by decide) hc (Or.inl ⟨by rfl, ?_⟩) (fun _ => hT) (fun hc2 => ?_)
    rotate_left
    · (intro w _; go_simp; try with_reducible rfl)
    clear hc; have hc := hc2; clear hc2
    try simp only [Act.put, List.setIfInBounds_toArray, List.set_cons_zero, List.set_cons_succ]
    refine wpL_pure (i := 1) (oi := { dst := some 14, op := Op.nilCheck (Operand.tmp 13), type := 0, pos := "ledger.go:66", after := #[gD 0], guard := none }) (v := ?_) rfl (by kernel_rfl) (by kernel_rfl) (by kernel_rfl) (fun _ _ _ h => h) (by decide) hc (Or.inl ⟨by rfl, ?_⟩) (fun _ => hT) (fun hc2 => ?_)
    rotate_left
    · (intro w _; go_simp; try with_reducible rfl)
    clear hc; have hc := hc2; clear hc2
    try simp only [Act.put, List.setIfInBounds_toArray, List.set_cons_zero, List.set_cons_succ]
    refine wpL_pure (i := 2) (oi := { dst := some 15, op := Op.fieldAddr 80 (Operand.tmp 14) 0, type := 0, pos := "ledger.go:66", after := #[gD 1], guard := none }) (v := ?_) rfl (by kernel_rfl) (by kernel_rfl) (by kernel_rfl) (fun _ _ _ h => h) (by decide) hc (Or.inl ⟨by rfl, ?_⟩) (fun _ => hT) (fun hc2 => ?_)
    rotate_left
    · (intro w _; go_simp; try with_reducible rfl)
    clear hc; have hc := hc2; clear hc2
    try simp only [Act.put, List.setIfInBounds_toArray, List.set_cons_zero, List.set_cons_succ]
    refine wpL_take (T' := TL pl pd (ar : Int)) (i := 3) (oi := { dst := some 16, op := Op.load 22 (Operand.tmp 15), type := 22, pos := "ledger.go:66", after := #[gD 2], guard := none }) (v := ?_) rfl (by kernel_rfl) (by kernel_rfl) (by kernel_rfl) (fun _ _ _ h => h) (by decide) (fun l2 w hc3 hu hs => hs (by
      cases hS : l2.getD 14 false with
      | false => exact getD_in (by rw [hc3.size]; decide) hS
      | true =>
        have a0 := hc3.step (k := 3) (by kernel_rfl) hS
        rw [getD_tf hu] at a0
        cases a0)) hc (Or.inl ⟨by rfl, ?_⟩) (fun _ => hT) (fun hc2 => ?_)
    rotate_left
    · (intro w hSw; have C0 := hSw.1; have C1 := hSw.2; go_simp; try with_reducible rfl)
    clear hc; have hc := hc2; clear hc2
    try simp only [Act.put, List.setIfInBounds_toArray, List.set_cons_zero, List.set_cons_succ]
    refine wpL_pure (i := 4) (oi := { dst := some 17, op := Op.makeFunc (Fn.func 72) #[Operand.tmp 16] #[], type := 116, pos := "ledger.go:66", after := #[gD 3], guard := none }) (v := ?_) rfl (by kernel_rfl) (by kernel_rfl) (by kernel_rfl) (fun _ _ _ h => h) (by decide) hc (Or.inl ⟨by rfl, ?_⟩) (fun _ => hT) (fun hc2 => ?_)
    rotate_left
    · (intro w _; go_simp; try with_reducible rfl)
    clear hc; have hc := hc2; clear hc2
    try simp only [Act.put, List.setIfInBounds_toArray, List.set_cons_zero, List.set_cons_succ]
    refine wpL_pure (i := 5) (oi := { dst := some 18, op := Op.move (Operand.tmp 0), type := 26, pos := "ledger.go:66", after := #[], guard := none }) (v := ?_) rfl (by kernel_rfl) (by kernel_rfl) (by kernel_rfl) (fun _ _ _ h => h) (by decide) hc (Or.inl ⟨by rfl, ?_⟩) (fun _ => hT) (fun hc2 => ?_)
    rotate_left
    · (intro w _; go_simp; try with_reducible rfl)
    clear hc; have hc := hc2; clear hc2
    try simp only [Act.put, List.setIfInBounds_toArray, List.set_cons_zero, List.set_cons_succ]
    refine wpL_pure (i := 6) (oi := { dst := some 19, op := Op.nilCheck (Operand.tmp 18), type := 0, pos := "ledger.go:66", after := #[gD 5], guard := none }) (v := ?_) rfl (by kernel_rfl) (by kernel_rfl) (by kernel_rfl) (fun _ _ _ h => h) (by decide) hc (Or.inl ⟨by rfl, ?_⟩) (fun _ => hT) (fun hc2 => ?_)
    rotate_left
    · (intro w _; go_simp; try with_reducible rfl)
    clear hc; have hc := hc2; clear hc2
    try simp only [Act.put, List.setIfInBounds_toArray, List.set_cons_zero, List.set_cons_succ]
    refine wpL_pure (i := 7) (oi := { dst := some 20, op := Op.fieldAddr 80 (Operand.tmp 19) 2, type := 0, pos := "ledger.go:66", after := #[gD 6], guard := none }) (v := ?_) rfl (by kernel_rfl) (by kernel_rfl) (by kernel_rfl) (fun _ _ _ h => h) (by decide) hc (Or.inl ⟨by rfl, ?_⟩) (fun _ => hT) (fun hc2 => ?_)
    rotate_left
    · (intro w _; go_simp; try with_reducible rfl)
    clear hc; have hc := hc2; clear hc2
    try simp only [Act.put, List.setIfInBounds_toArray, List.set_cons_zero, List.set_cons_succ]
    refine wpL_take (T' := TL pl pd (ar : Int)) (i := 8) (oi := { dst := some 21, op := Op.load 3 (Operand.tmp 20), type := 3, pos := "ledger.go:66", after := #[gD 7], guard := none }) (v := ?_) rfl (by kernel_rfl) (by kernel_rfl) (by kernel_rfl) (fun _ _ _ h => h) (by decide) (fun l2 w hc3 hu hs => hs (by
      cases hS : l2.getD 14 false with
      | false => exact getD_in (by rw [hc3.size]; decide) hS
      | true =>
        have a0 := hc3.step (k := 8) (by kernel_rfl) hS
        rw [getD_tf hu] at a0
        cases a0)) hc (Or.inl ⟨by rfl, ?_⟩) (fun _ => hT) (fun hc2 => ?_)
    rotate_left
    · (intro w hSw; have C0 := hSw.1; have C1 := hSw.2; go_simp; try with_reducible rfl)
    clear hc; have hc := hc2; clear hc2
    try simp only [Act.put, List.setIfInBounds_toArray, List.set_cons_zero, List.set_cons_succ]
    refine wpL_ready (rs := [9]) (by kernel_rfl) (by simp) ?_ hc
    intro i hi hc2
    simp only [List.mem_cons, List.mem_nil_iff, or_false] at hi
    subst hi
    clear hc; have hc := hc2; clear hc2
    refine wpOp_step (o := { dst := some 22, op := Op.call { callee := Callee.value (Operand.func 76), args := #[Operand.tmp 17, Operand.tmp 21], argTypes := #[116, 3] }, type := 121, pos := "ledger.go:66", after := #[gD 4, gD 8], guard := none }) rfl (fun K hK => ?_)
    have HK := hide hK
    clear hK
    refine step_call rfl 76 #[.tmp 17, .tmp 21] #[116, 3] rfl (enters_of Tryz.func76 (by kernel_rfl) rfl) #[.func (.func 72) #[.pointer (some ⟨pd, 0, none⟩)] #[], .int .i64 (ar : Int)] (by simp [Act.eval]) ?_
    refine hrg.mono ?_
    rintro e w3 ⟨q3, c3, vs3, rfl, hr3, hm3⟩
    refine ⟨_, rfl, ?_⟩
    have hT2 : TL pl pd (ar : Int) w3 := ⟨hm3.kept hT.1 (by simp), hm3.kept hT.2 (by simp)⟩
    have H3 := hide (And.intro hr3 hm3)
    clear hr3 hm3
    refine HK.out _ _ ⟨fun _ => hT2, ?_⟩
    clear HK K hT
    have hT := hT2
    clear hT2
    try simp only [Act.put, List.setIfInBounds_toArray, List.set_cons_zero, List.set_cons_succ]
    refine wpL_pure (i := 10) (oi := { dst := some 12, op := Op.move (Operand.tmp 22), type := 121, pos := "ledger.go:66", after := #[gD 9], guard := none }) (v := ?_) rfl (by kernel_rfl) (by kernel_rfl) (by kernel_rfl) (fun _ _ _ h => h) (by decide) hc (Or.inl ⟨by rfl, ?_⟩) (fun _ => hT) (fun hc2 => ?_)
    rotate_left
    · (intro w _; go_simp; try with_reducible rfl)
    clear hc; have hc := hc2; clear hc2
    try simp only [Act.put, List.setIfInBounds_toArray, List.set_cons_zero, List.set_cons_succ]
    refine wpL_pure (i := 11) (oi := { dst := some 23, op := Op.extract (Operand.tmp 12) 0, type := 65, pos := "ledger.go:66", after := #[gD 10], guard := none }) (v := ?_) rfl (by kernel_rfl) (by kernel_rfl) (by kernel_rfl) (fun _ _ _ h => h) (by decide) hc (Or.inl ⟨by rfl, ?_⟩) (fun _ => hT) (fun hc2 => ?_)
    rotate_left
    · (intro w _; go_simp; try with_reducible rfl)
    clear hc; have hc := hc2; clear hc2
    try simp only [Act.put, List.setIfInBounds_toArray, List.set_cons_zero, List.set_cons_succ]
    refine wpL_pure (i := 12) (oi := { dst := some 24, op := Op.extract (Operand.tmp 12) 1, type := 23, pos := "ledger.go:66", after := #[gD 10, { on := 13, ground := Ground.gcOnly Departure.lateStores }], guard := none }) (v := ?_) rfl (by kernel_rfl) (by kernel_rfl) (by kernel_rfl) (fun _ _ _ h => h) (by decide) hc (Or.inl ⟨by rfl, ?_⟩) (fun _ => hT) (fun hc2 => ?_)
    rotate_left
    · (intro w _; go_simp; try with_reducible rfl)
    clear hc; have hc := hc2; clear hc2
    try simp only [Act.put, List.setIfInBounds_toArray, List.set_cons_zero, List.set_cons_succ]
    refine wpL_pure (i := 13) (oi := { dst := some 3, op := Op.assign (Operand.tmp 23), type := 65, pos := "ledger.go:66", after := #[gD 11, gC 9, gP 0, gP 1, gP 2, gP 3, gP 4, gP 5, gP 6, gP 7, gP 8, gP 9, gP 10, gP 11, { on := 12, ground := Ground.textOnly Departure.lateStores }], guard := none }) (v := ?_) rfl (by kernel_rfl) (by kernel_rfl) (by kernel_rfl) (fun _ _ _ h => h) (by decide) hc (Or.inl ⟨by rfl, ?_⟩) (fun _ => hT) (fun hc2 => ?_)
    rotate_left
    · (intro w _; go_simp; try with_reducible rfl)
    clear hc; have hc := hc2; clear hc2
    try simp only [Act.put, List.setIfInBounds_toArray, List.set_cons_zero, List.set_cons_succ]
    refine wpL_ready (rs := [14]) (by kernel_rfl) (by simp) ?_ hc
    intro i hi hc2
    simp only [List.mem_cons, List.mem_nil_iff, or_false] at hi
    subst hi
    clear hc; have hc := hc2; clear hc2
    refine wpOp_step (o := { dst := some 4, op := Op.assign (Operand.tmp 24), type := 23, pos := "ledger.go:66", after := #[gD 12, gC 13, gP 0, gP 1, gP 2, gP 3, gP 4, gP 5, gP 6, gP 7, gP 8, gP 9, gP 10, gP 11, gP 12, gP 13], guard := none }) rfl (fun K hK => ?_)
    have HK := hide hK
    clear hK
    go_simp
    refine HK.out _ _ ⟨fun h => by simp at h, ?_⟩
    clear HK K hT
    have hT := hc.size
    try simp only [Act.put, List.setIfInBounds_toArray, List.set_cons_zero, List.set_cons_succ]
    refine wpL_done (by kernel_rfl) ?_
    clear hT hc
    have hm3 : Mod [] w w3 := (Mod.refl [] w).drew.then H3.out.2
    have k1' := hm3.kept k1 (by simp)
    have hsc := scan_any H3.out.1 (by rw [side_len har h49]; decide) gn
    rw [HH.out.2.1] at hsc
    have hsc2 := hsc.mono (R' := fun e w' => ∃ q c vs, e = .returned (.tuple #[.slice q RS.length c, .int .i64 (US : Int)]) ∧ RowsY w' w3.heap.size (.slice q RS.length c) vs RS ∧ RS.length ≤ 1000000 ∧ US ≤ 1000000 ∧ Mod [] w3 w') (fun e w' hx => hx)
    have HM3 := hide hm3
    have HD := hide hd
    clear hsc hm3 k1 hmf hrg hTL hd
    go_upto_region 6 with (go_at_call 77; refine hsc2.mono ?_; rintro e w5 ⟨q5, c5, vs5, rfl, hr5, hl5, -, hm5⟩
                           have H5 := hide (And.intro hr5.rds (HM3.out.then hm5))
                           have hs5 := Nat.le_trans HM3.out.size (Nat.le_refl _)
                           clear hr5 hm5 hsc2)
    clear k1'
    go_loopw [39] (fun i wr => RcvRel w5 pl pd bs d gn ar sq us dd t RS i wr) (fun i _ => RS.length - (intOf i).toNat)
    case atStart => exact ⟨0, gv, lv, bk, sq, us, rfl, Nat.zero_le _, HH.out.1.quiet H5.out.2, hb, by omega, by omega, hide (by rw [List.drop_zero, HH.out.2.2]; exact ⟨rfl, rfl, rfl⟩), Mod.refl _ _⟩
    case round =>
      obtain ⟨j, gv, lv, b, s, u, rfl, hj, hlg, hvb, hs1, hu1, HP, hm⟩ := hrel
      by_cases hlt2 : j < RS.length
      · have hjn : (j : Int) < (RS.length : Int) := by omega
        obtain ⟨rw0, rfl, hrw, hcv, hel⟩ := (H5.out.1.mod hm (fun k hk => by simp at hk; omega)).at_ j hlt2
        have hpl := play_at (b := b) hlt2
        have hdl := HL.out j
        obtain ⟨qs, cs, hsv⟩ := hel.rd.len
        have hrd := hel.rd
        rw [hsv] at hcv hrd
        generalize RS.getD j [] = D at hpl hdl hrd hcv
        have hrd2 := hrd
        obtain ⟨nD, hnD⟩ : ∃ n, D.length = n := ⟨_, rfl⟩
        rw [hnD] at hcv hrd2 hdl
        clear hel hsv hrd
        cases hdc : decB D with
        | none =>
          rw [hdc] at hpl
          simp only at hpl
          have hdec := dec_none hrd2 (by omega) hdc
          have HE := hide (And.intro hpl (And.intro hlg (And.intro hm hvb)))
          clear hpl hlg hm hvb hrd2 hdc hnD
          go_wp2_with (go_at_call 78; refine hdec.mono ?_; rintro e w6 ⟨p1, n1, c1, p2, n2, c2, rfl, hm6⟩; simp only [aggR, cellsR, Rcd.zero, Grt.zero]; have H6 := hide hm6; clear hm6 hdec)
          go_ret
          exact RcvRel.done HE.out.2.1 HP HE.out.1 HD.out H5.out.2 HE.out.2.2.1 (H6.out.alloc _)
        | some r =>
          rw [hdc] at hpl
          simp only at hpl
          have hdec := dec_some hrd2 (by omega) hdc
          obtain ⟨hmay, henc⟩ := decB_iff.1 hdc
          have hpth := may_path hmay
          have hwd := (enc_width hmay).2
          rw [henc, hnD] at hwd
          rw [hnD] at hpl
          obtain ⟨WD, hWD⟩ : ∃ n, widthN nD = n := ⟨_, rfl⟩
          rw [hWD] at hpl hwd
          have hsm := valid_small hvb hlg.bk.eq
          have hav : (applyB b r).2 = 0 → validB (applyB b r).1 = true := apply_valid
          obtain ⟨⟨⟨cn, cb, cl, cg⟩, ce⟩, hAp⟩ : ∃ t, applyB b r = t := ⟨_, rfl⟩
          have hap := fun (W : World) (m : Mod [] wr W) {sv tv : Value} (ha : RdN W sv r.grant.stamp) (hb : RdN W tv r.stamp) => apply_any (b := b) (r := r) (BkM.mk (hlg.bk.gr.mod m (by simp)) hlg.bk.eq) (fun p hp => by have := (hsm.2 p hp).2; omega) ha hb (by omega)
          rw [hAp] at hpl hav hap
          simp only at hpl hav
          have hfp : wr.heap[pl]? = some (.cells (lgCells pd gv ⟨gn, ar, s, u, b, dd⟩) 80 (0, 0)) := hlg.blk
          obtain ⟨gq, gc, hgv, -⟩ := hlg.bk.gr.shape
          subst hgv
          obtain ⟨bn, bb, bl, bg⟩ := b
          unfold lgCells at hfp
          simp only at hfp
          have HE := hide (And.intro hpl (And.intro hlg (And.intro hm (And.intro hav hWD))))
          have HA := hide @hap
          have hwlt : w.heap.size ≤ w5.heap.size := H5.out.2.size
          have hwlt2 : w5.heap.size ≤ wr.heap.size := hm.size
          clear hpl hlg hm hvb hrd2 hdc hnD hmay henc hsm hav hAp hap hpth hWD
          obtain ⟨kd, ⟨gi, gh, gp, gm, gs, gt⟩, ri, rs, rn, rb, rl⟩ := r
          go_upto_region 10 with (go_at_call 78; refine hdec.mono ?_; rintro e w6 ⟨p1, n1, c1, p2, n2, c2, rfl, ha6, hb6, hm6⟩; simp only [aggR, cellsR]; have H6 := hide (And.intro ha6 (And.intro hb6 hm6)); clear ha6 hb6 hm6 hdec)
          obtain ⟨W7, hW7⟩ : ∃ W7, W7 = w6.alloc (.cells #[.int .i64 kd, .int .i64 gi, .int .i64 gh, .string gp, .int .i64 gm, .slice p1 n1 c1, .int .i64 gt, .int .i64 ri, .slice p2 n2 c2, .int .i64 rn, .int .i64 rb, .int .i64 rl] 42 (0, 0)) := ⟨_, rfl⟩
          have hr7 : W7.heap[w6.heap.size]? = some (.cells #[.int .i64 kd, .int .i64 gi, .int .i64 gh, .string gp, .int .i64 gm, .slice p1 n1 c1, .int .i64 gt, .int .i64 ri, .slice p2 n2 c2, .int .i64 rn, .int .i64 rb, .int .i64 rl] 42 (0, 0)) := by rw [hW7]; exact heap_alloc_new w6 _
          have hm7 : Mod [] w6 W7 := by rw [hW7]; exact (Mod.refl _ _).alloc _
          rw [← hW7]
          have hz7 : W7.heap.size = w6.heap.size + 1 := by rw [hW7]; simp
          have hz6 := H6.out.2.2.size
          have HLow : Hid (pl < W7.heap.size ∧ w6.heap.size < W7.heap.size) := hide (by omega)
          have hTV : TV pl w6.heap.size #[.pointer (some ⟨pd, 0, none⟩), .int .i64 (gn : Int), .int .i64 (ar : Int), .int .i64 (s : Int), .int .i64 (u : Int), .int .i64 bn, .int .i64 bb, .int .i64 bl, .slice gq lv.length gc, .bool dd] #[.int .i64 kd, .int .i64 gi, .int .i64 gh, .string gp, .int .i64 gm, .slice p1 n1 c1, .int .i64 gt, .int .i64 ri, .slice p2 n2 c2, .int .i64 rn, .int .i64 rb, .int .i64 rl] W7 := ⟨(H6.out.2.2.then hm7).at_ hfp (by simp), hr7⟩
          have HM7 := hide (And.intro (H6.out.1.mod hm7 (by simp)) (And.intro (H6.out.2.1.mod hm7 (by simp)) (H6.out.2.2.then hm7)))
          clear hW7 hr7 hm7 hfp H6 hz6 hz7
          go_cut [10, 11] (fun s10 s11 wx => ApR W7 (⟨cn, cb, cl, cg⟩, ce) s10 s11 wx)
          case first =>
            refine wpL_start (s := 11) (T := TV pl w6.heap.size #[.pointer (some ⟨pd, 0, none⟩), .int .i64 (gn : Int), .int .i64 (ar : Int), .int .i64 (s : Int), .int .i64 (u : Int), .int .i64 bn, .int .i64 bb, .int .i64 bl, .slice gq lv.length gc, .bool dd] #[.int .i64 kd, .int .i64 gi, .int .i64 gh, .string gp, .int .i64 gm, .slice p1 n1 c1, .int .i64 gt, .int .i64 ri, .slice p2 n2 c2, .int .i64 rn, .int .i64 rb, .int .i64 rl]) (by kernel_rfl) (fun hc => ?_)
            have hT : TV pl w6.heap.size #[.pointer (some ⟨pd, 0, none⟩), .int .i64 (gn : Int), .int .i64 (ar : Int), .int .i64 (s : Int), .int .i64 (u : Int), .int .i64 bn, .int .i64 bb, .int .i64 bl, .slice gq lv.length gc, .bool dd] #[.int .i64 kd, .int .i64 gi, .int .i64 gh, .string gp, .int .i64 gm, .slice p1 n1 c1, .int .i64 gt, .int .i64 ri, .slice p2 n2 c2, .int .i64 rn, .int .i64 rb, .int .i64 rl] W7.drew := hTV.mod (Mod.refl [] W7).drew (by simp) (by simp)
            refine wpL_pure (i := 0) (oi := { dst := some 51, op := Op.move (Operand.tmp 0), type := 26, pos := "ledger.go:76", after := #[], guard := none }) (v := ?_) rfl (by kernel_rfl) (by kernel_rfl) (by kernel_rfl) (fun _ _ _ h => h) (by decide) hc (Or.inl ⟨by rfl, ?_⟩) (fun _ => hT) (fun hc2 => ?_)
            rotate_left
            · (intro w _; go_simp; try with_reducible rfl)
            clear hc; have hc := hc2; clear hc2
            try simp only [Act.put, List.setIfInBounds_toArray, List.set_cons_zero, List.set_cons_succ]
            refine wpL_pure (i := 1) (oi := { dst := some 52, op := Op.nilCheck (Operand.tmp 51), type := 0, pos := "ledger.go:76", after := #[gD 0], guard := none }) (v := ?_) rfl (by kernel_rfl) (by kernel_rfl) (by kernel_rfl) (fun _ _ _ h => h) (by decide) hc (Or.inl ⟨by rfl, ?_⟩) (fun _ => hT) (fun hc2 => ?_)
            rotate_left
            · (intro w _; go_simp; try with_reducible rfl)
            clear hc; have hc := hc2; clear hc2
            try simp only [Act.put, List.setIfInBounds_toArray, List.set_cons_zero, List.set_cons_succ]
            refine wpL_pure (i := 2) (oi := { dst := some 53, op := Op.fieldAddr 80 (Operand.tmp 52) 5, type := 0, pos := "ledger.go:76", after := #[gD 1], guard := none }) (v := ?_) rfl (by kernel_rfl) (by kernel_rfl) (by kernel_rfl) (fun _ _ _ h => h) (by decide) hc (Or.inl ⟨by rfl, ?_⟩) (fun _ => hT) (fun hc2 => ?_)
            rotate_left
            · (intro w _; go_simp; try with_reducible rfl)
            clear hc; have hc := hc2; clear hc2
            try simp only [Act.put, List.setIfInBounds_toArray, List.set_cons_zero, List.set_cons_succ]
            refine wpL_take (T' := TV pl w6.heap.size #[.pointer (some ⟨pd, 0, none⟩), .int .i64 (gn : Int), .int .i64 (ar : Int), .int .i64 (s : Int), .int .i64 (u : Int), .int .i64 bn, .int .i64 bb, .int .i64 bl, .slice gq lv.length gc, .bool dd] #[.int .i64 kd, .int .i64 gi, .int .i64 gh, .string gp, .int .i64 gm, .slice p1 n1 c1, .int .i64 gt, .int .i64 ri, .slice p2 n2 c2, .int .i64 rn, .int .i64 rb, .int .i64 rl]) (i := 3) (oi := { dst := some 54, op := Op.load 34 (Operand.tmp 53), type := 34, pos := "ledger.go:76", after := #[gD 2], guard := none }) (v := ?_) rfl (by kernel_rfl) (by kernel_rfl) (by kernel_rfl) (fun _ _ _ h => h) (by decide) (fun l2 w hc3 hu hs => hs (by
              cases hS : l2.getD 11 false with
              | false => exact getD_in (by rw [hc3.size]; decide) hS
              | true =>
                have a0 := hc3.step (k := 3) (by kernel_rfl) hS
                rw [getD_tf hu] at a0
                cases a0)) hc (Or.inl ⟨by rfl, ?_⟩) (fun _ => hT) (fun hc2 => ?_)
            rotate_left
            · (intro w hSw; have C0 := blk_cell hSw.1; have C1 := blk_cell hSw.2; go_simp; try with_reducible rfl)
            clear hc; have hc := hc2; clear hc2
            try simp only [Act.put, List.setIfInBounds_toArray, List.set_cons_zero, List.set_cons_succ]
            refine wpL_take (T' := TV pl w6.heap.size #[.pointer (some ⟨pd, 0, none⟩), .int .i64 (gn : Int), .int .i64 (ar : Int), .int .i64 (s : Int), .int .i64 (u : Int), .int .i64 bn, .int .i64 bb, .int .i64 bl, .slice gq lv.length gc, .bool dd] #[.int .i64 kd, .int .i64 gi, .int .i64 gh, .string gp, .int .i64 gm, .slice p1 n1 c1, .int .i64 gt, .int .i64 ri, .slice p2 n2 c2, .int .i64 rn, .int .i64 rb, .int .i64 rl]) (i := 4) (oi := { dst := some 55, op := Op.load 42 (Operand.tmp 9), type := 42, pos := "ledger.go:76", after := #[], guard := none }) (v := ?_) rfl (by kernel_rfl) (by kernel_rfl) (by kernel_rfl) (fun _ _ _ h => h) (by decide) (fun l2 w hc3 hu hs => hs (by
              cases hS : l2.getD 11 false with
              | false => exact getD_in (by rw [hc3.size]; decide) hS
              | true =>
                have a0 := hc3.step (k := 4) (by kernel_rfl) hS
                rw [getD_tf hu] at a0
                cases a0)) hc (Or.inl ⟨by rfl, ?_⟩) (fun _ => hT) (fun hc2 => ?_)
            rotate_left
            · (intro w hSw; have C0 := blk_cell hSw.1; have C1 := blk_cell hSw.2; go_simp; try with_reducible rfl)
            clear hc; have hc := hc2; clear hc2
            try simp only [Act.put, List.setIfInBounds_toArray, List.set_cons_zero, List.set_cons_succ]
            refine wpL_ready (rs := [5, 9]) (by kernel_rfl) (by simp) ?_ hc
            intro i hi hc2
            simp only [List.mem_cons, List.mem_nil_iff, or_false] at hi
            clear hc; have hc := hc2; clear hc2
            rcases hi with rfl | rfl
            · skip
              refine wpOp_step (o := { dst := some 56, op := Op.call { callee := Callee.value (Operand.func 47), args := #[Operand.tmp 54, Operand.tmp 55], argTypes := #[34, 42] }, type := 85, pos := "ledger.go:76", after := #[gD 3, gD 4], guard := none }) rfl (fun K hK => ?_)
              have HK := hide hK
              clear hK
              refine step_call rfl 47 #[.tmp 54, .tmp 55] #[34, 42] rfl (enters_of Tryz.func47 (by kernel_rfl) rfl) #[aggB ⟨bn, bb, bl, bg⟩ (.slice gq lv.length gc), aggR ⟨kd, ⟨gi, gh, gp, gm, gs, gt⟩, ri, rs, rn, rb, rl⟩ (.slice p1 n1 c1) (.slice p2 n2 c2)] (by simp [Act.eval, aggB, aggR, cellsR]) ?_
              have hmX : Mod [] W7 W7.drew := (Mod.refl [] W7).drew
              refine (HA.out W7.drew (HM7.out.2.2.then hmX) (HM7.out.1.mod hmX (by simp)) (HM7.out.2.1.mod hmX (by simp))).mono ?_
              rintro e w8 ⟨gv8, lv8, rfl, hbk8, hm8⟩
              refine ⟨_, rfl, ?_⟩
              obtain ⟨q8, c8, hv8, -⟩ := hbk8.gr.shape
              subst hv8
              obtain ⟨n8, hn8⟩ : ∃ n, lv8.length = n := ⟨_, rfl⟩
              rw [hn8] at hbk8 ⊢
              simp only [aggB]
              have hT2 : TV pl w6.heap.size #[.pointer (some ⟨pd, 0, none⟩), .int .i64 (gn : Int), .int .i64 (ar : Int), .int .i64 (s : Int), .int .i64 (u : Int), .int .i64 bn, .int .i64 bb, .int .i64 bl, .slice gq lv.length gc, .bool dd] #[.int .i64 kd, .int .i64 gi, .int .i64 gh, .string gp, .int .i64 gm, .slice p1 n1 c1, .int .i64 gt, .int .i64 ri, .slice p2 n2 c2, .int .i64 rn, .int .i64 rb, .int .i64 rl] w8 := hT.mod hm8 (by simp) (by simp)
              have H8 := hide (And.intro hbk8 hm8)
              clear hbk8 hm8 hmX hn8
              refine HK.out _ _ ⟨fun _ => hT2, ?_⟩
              clear HK K hT
              have hT := hT2
              clear hT2
              try simp only [Act.put, List.setIfInBounds_toArray, List.set_cons_zero, List.set_cons_succ]
              refine wpL_pure (i := 6) (oi := { dst := some 50, op := Op.move (Operand.tmp 56), type := 85, pos := "ledger.go:76", after := #[gD 5], guard := none }) (v := ?_) rfl (by kernel_rfl) (by kernel_rfl) (by kernel_rfl) (fun _ _ _ h => h) (by decide) hc (Or.inl ⟨by rfl, ?_⟩) (fun _ => hT) (fun hc2 => ?_)
              rotate_left
              · (intro w _; go_simp; try with_reducible rfl)
              clear hc; have hc := hc2; clear hc2
              try simp only [Act.put, List.setIfInBounds_toArray, List.set_cons_zero, List.set_cons_succ]
              refine wpL_pure (i := 7) (oi := { dst := some 57, op := Op.extract (Operand.tmp 50) 0, type := 34, pos := "ledger.go:76", after := #[gD 6], guard := none }) (v := ?_) rfl (by kernel_rfl) (by kernel_rfl) (by kernel_rfl) (fun _ _ _ h => h) (by decide) hc (Or.inl ⟨by rfl, ?_⟩) (fun _ => hT) (fun hc2 => ?_)
              rotate_left
              · (intro w _; go_simp; try with_reducible rfl)
              clear hc; have hc := hc2; clear hc2
              try simp only [Act.put, List.setIfInBounds_toArray, List.set_cons_zero, List.set_cons_succ]
              refine wpL_pure (i := 8) (oi := { dst := some 58, op := Op.extract (Operand.tmp 50) 1, type := 23, pos := "ledger.go:76", after := #[gD 6, { on := 10, ground := Ground.gcOnly Departure.lateStores }], guard := none }) (v := ?_) rfl (by kernel_rfl) (by kernel_rfl) (by kernel_rfl) (fun _ _ _ h => h) (by decide) hc (Or.inl ⟨by rfl, ?_⟩) (fun _ => hT) (fun hc2 => ?_)
              rotate_left
              · (intro w _; go_simp; try with_reducible rfl)
              clear hc; have hc := hc2; clear hc2
              try simp only [Act.put, List.setIfInBounds_toArray, List.set_cons_zero, List.set_cons_succ]
              refine wpL_ready (rs := [9]) (by kernel_rfl) (by simp) ?_ hc
              intro i hi hc2
              simp only [List.mem_cons, List.mem_nil_iff, or_false] at hi
              subst hi
              clear hc; have hc := hc2; clear hc2
              refine wpOp_step (o := { dst := some 11, op := Op.alloc 34, type := 0, pos := "ledger.go:76", after := #[], guard := none }) rfl (fun K hK => ?_)
              have HK := hide hK
              clear hK
              go_simp
              obtain ⟨W9, hW9⟩ : ∃ W9, W9 = (w8.alloc (.cells #[.int .i64 0, .int .i64 0, .int .i64 0, .slice none 0 0] 34 (0, 0))) := ⟨_, rfl⟩
              have hk9 : W9.heap[w8.heap.size]? = some (.cells #[.int .i64 0, .int .i64 0, .int .i64 0, .slice none 0 0] 34 (0, 0)) := by rw [hW9]; exact heap_alloc_new _ _
              have hm9 : Mod [] w8 W9 := by rw [hW9]; exact ((Mod.refl _ _).alloc _)
              rw [← hW9]
              have hT2 : TV pl w6.heap.size #[.pointer (some ⟨pd, 0, none⟩), .int .i64 (gn : Int), .int .i64 (ar : Int), .int .i64 (s : Int), .int .i64 (u : Int), .int .i64 bn, .int .i64 bb, .int .i64 bl, .slice gq lv.length gc, .bool dd] #[.int .i64 kd, .int .i64 gi, .int .i64 gh, .string gp, .int .i64 gm, .slice p1 n1 c1, .int .i64 gt, .int .i64 ri, .slice p2 n2 c2, .int .i64 rn, .int .i64 rb, .int .i64 rl] W9 := hT.mod hm9 (by simp) (by simp)
              have hz9 : W9.heap.size = w8.heap.size + 1 := by rw [hW9]; simp
              have H9 := hide (And.intro hk9 (And.intro hm9 hz9))
              clear hW9 hk9 hm9 hz9
              refine HK.out _ _ ⟨fun _ => hT2, ?_⟩
              clear HK K hT
              have hT := hT2
              clear hT2
              try simp only [Act.put, List.setIfInBounds_toArray, List.set_cons_zero, List.set_cons_succ]
              refine wpL_ready (rs := [10]) (by kernel_rfl) (by simp) ?_ hc
              intro i hi hc2
              simp only [List.mem_cons, List.mem_nil_iff, or_false] at hi
              subst hi
              clear hc; have hc := hc2; clear hc2
              refine wpOp_step (o := { dst := none, op := Op.store 34 (Operand.tmp 11) (Operand.tmp 57), type := 0, pos := "ledger.go:76", after := #[gD 9, gD 7, gC 5, gP 0, gP 1, gP 2, gP 3, gP 4, gP 5, gP 6, gP 7, { on := 8, ground := Ground.textOnly Departure.lateStores }, gP 9], guard := none }) rfl (fun K hK => ?_)
              have HK := hide hK
              clear hK
              have hkX := H9.out.1
              have C9 := blk_cell hkX
              have F9 := blk_free hkX
              go_simp
              obtain ⟨W10, hW10⟩ : ∃ W10, W10 = ((((W9.setCell ⟨w8.heap.size, 0, none⟩ (.int .i64 cn)).setCell ⟨w8.heap.size, 1, none⟩ (.int .i64 cb)).setCell ⟨w8.heap.size, 2, none⟩ (.int .i64 cl)).setCell ⟨w8.heap.size, 3, none⟩ (.slice q8 n8 c8)) := ⟨_, rfl⟩
              rw [← hW10]
              have hb10 : W10.heap[w8.heap.size]? = some (.cells #[.int .i64 cn, .int .i64 cb, .int .i64 cl, .slice q8 n8 c8] 34 (0, 0)) := by rw [hW10]; exact blk_set (blk_set (blk_set (blk_set hkX 0 _) 1 _) 2 _) 3 _
              have hm10 : Mod [w8.heap.size] W9 W10 := by rw [hW10]; exact ((((Mod.refl _ _).setCell (fun _ => by simp) _).setCell (fun _ => by simp) _).setCell (fun _ => by simp) _).setCell (fun _ => by simp) _
              have hlow := HLow.out
              have z8 := H8.out.2.size
              have z9 := H9.out.2.1.size
              have z9' := H9.out.2.2
              have zd : W7.drew.heap.size = W7.heap.size := rfl
              have hT2 : TV pl w6.heap.size #[.pointer (some ⟨pd, 0, none⟩), .int .i64 (gn : Int), .int .i64 (ar : Int), .int .i64 (s : Int), .int .i64 (u : Int), .int .i64 bn, .int .i64 bb, .int .i64 bl, .slice gq lv.length gc, .bool dd] #[.int .i64 kd, .int .i64 gi, .int .i64 gh, .string gp, .int .i64 gm, .slice p1 n1 c1, .int .i64 gt, .int .i64 ri, .slice p2 n2 c2, .int .i64 rn, .int .i64 rb, .int .i64 rl] W10 := hT.mod hm10 (by simp; omega) (by simp; omega)
              have HA10 : Hid (ApR W7 (⟨cn, cb, cl, cg⟩, ce) (.int .i64 ce) (.pointer (some ⟨w8.heap.size, 0, none⟩)) W10) := hide ⟨w8.heap.size, q8, n8, c8, lv8, rfl, rfl, hb10, by omega, ⟨H8.out.1.gr.mod (mod_fresh H9.out.2.1 hm10 (by simp)) (by simp), H8.out.1.eq⟩, mod_fresh ((Mod.refl [] W7).drew.then (H8.out.2.then H9.out.2.1)) hm10 (by simp; omega)⟩
              clear hkX C9 F9 hW10 hb10 hm10 hlow z8 z9 z9' zd
              refine HK.out _ _ ⟨fun _ => hT2, ?_⟩
              clear HK K hT
              have hT := hT2
              clear hT2
              try simp only [Act.put, List.setIfInBounds_toArray, List.set_cons_zero, List.set_cons_succ]
              refine wpL_ready (rs := [11]) (by kernel_rfl) (by simp) ?_ hc
              intro i hi hc2
              simp only [List.mem_cons, List.mem_nil_iff, or_false] at hi
              subst hi
              clear hc; have hc := hc2; clear hc2
              refine wpOp_step (o := { dst := some 10, op := Op.assign (Operand.tmp 58), type := 23, pos := "ledger.go:76", after := #[gD 8, gC 10, gP 0, gP 1, gP 2, gP 3, gP 4, gP 5, gP 6, gP 7, gP 8, gP 9, gP 10], guard := none }) rfl (fun K hK => ?_)
              have HK := hide hK
              clear hK
              go_simp
              refine HK.out _ _ ⟨fun h => by simp at h, ?_⟩
              clear HK K hT
              have hT := hc.size
              try simp only [Act.put, List.setIfInBounds_toArray, List.set_cons_zero, List.set_cons_succ]
              refine wpL_done (by kernel_rfl) ?_
              clear hT hc
              go_wp2_with fail
              go_meet
              case rel => exact HA10.out
            · skip
              refine wpOp_step (o := { dst := some 11, op := Op.alloc 34, type := 0, pos := "ledger.go:76", after := #[], guard := none }) rfl (fun K hK => ?_)
              have HK := hide hK
              clear hK
              go_simp
              obtain ⟨W9, hW9⟩ : ∃ W9, W9 = (W7.alloc (.cells #[.int .i64 0, .int .i64 0, .int .i64 0, .slice none 0 0] 34 (0, 0))).drew := ⟨_, rfl⟩
              have hk9 : W9.heap[W7.heap.size]? = some (.cells #[.int .i64 0, .int .i64 0, .int .i64 0, .slice none 0 0] 34 (0, 0)) := by rw [hW9]; exact heap_alloc_new _ _
              have hm9 : Mod [] W7 W9 := by rw [hW9]; exact ((Mod.refl _ _).alloc _).drew
              rw [← hW9]
              have hT2 : TV pl w6.heap.size #[.pointer (some ⟨pd, 0, none⟩), .int .i64 (gn : Int), .int .i64 (ar : Int), .int .i64 (s : Int), .int .i64 (u : Int), .int .i64 bn, .int .i64 bb, .int .i64 bl, .slice gq lv.length gc, .bool dd] #[.int .i64 kd, .int .i64 gi, .int .i64 gh, .string gp, .int .i64 gm, .slice p1 n1 c1, .int .i64 gt, .int .i64 ri, .slice p2 n2 c2, .int .i64 rn, .int .i64 rb, .int .i64 rl] W9 := hTV.mod hm9 (by simp) (by simp)
              have hz9 : W9.heap.size = W7.heap.size + 1 := by rw [hW9]; simp
              have H9 := hide (And.intro hk9 (And.intro hm9 hz9))
              clear hW9 hk9 hm9 hz9
              refine HK.out _ _ ⟨fun _ => hT2, ?_⟩
              clear HK K hT
              have hT := hT2
              clear hT2
              try simp only [Act.put, List.setIfInBounds_toArray, List.set_cons_zero, List.set_cons_succ]
              refine wpL_ready (rs := [5]) (by kernel_rfl) (by simp) ?_ hc
              intro i hi hc2
              simp only [List.mem_cons, List.mem_nil_iff, or_false] at hi
              subst hi
              clear hc; have hc := hc2; clear hc2
              refine wpOp_step (o := { dst := some 56, op := Op.call { callee := Callee.value (Operand.func 47), args := #[Operand.tmp 54, Operand.tmp 55], argTypes := #[34, 42] }, type := 85, pos := "ledger.go:76", after := #[gD 3, gD 4], guard := none }) rfl (fun K hK => ?_)
              have HK := hide hK
              clear hK
              refine step_call rfl 47 #[.tmp 54, .tmp 55] #[34, 42] rfl (enters_of Tryz.func47 (by kernel_rfl) rfl) #[aggB ⟨bn, bb, bl, bg⟩ (.slice gq lv.length gc), aggR ⟨kd, ⟨gi, gh, gp, gm, gs, gt⟩, ri, rs, rn, rb, rl⟩ (.slice p1 n1 c1) (.slice p2 n2 c2)] (by simp [Act.eval, aggB, aggR, cellsR]) ?_
              have hmX : Mod [] W7 W9 := H9.out.2.1
              refine (HA.out W9 (HM7.out.2.2.then hmX) (HM7.out.1.mod hmX (by simp)) (HM7.out.2.1.mod hmX (by simp))).mono ?_
              rintro e w8 ⟨gv8, lv8, rfl, hbk8, hm8⟩
              refine ⟨_, rfl, ?_⟩
              obtain ⟨q8, c8, hv8, -⟩ := hbk8.gr.shape
              subst hv8
              obtain ⟨n8, hn8⟩ : ∃ n, lv8.length = n := ⟨_, rfl⟩
              rw [hn8] at hbk8 ⊢
              simp only [aggB]
              have hT2 : TV pl w6.heap.size #[.pointer (some ⟨pd, 0, none⟩), .int .i64 (gn : Int), .int .i64 (ar : Int), .int .i64 (s : Int), .int .i64 (u : Int), .int .i64 bn, .int .i64 bb, .int .i64 bl, .slice gq lv.length gc, .bool dd] #[.int .i64 kd, .int .i64 gi, .int .i64 gh, .string gp, .int .i64 gm, .slice p1 n1 c1, .int .i64 gt, .int .i64 ri, .slice p2 n2 c2, .int .i64 rn, .int .i64 rb, .int .i64 rl] w8 := hT.mod hm8 (by simp) (by simp)
              have H8 := hide (And.intro hbk8 hm8)
              clear hbk8 hm8 hmX hn8
              refine HK.out _ _ ⟨fun _ => hT2, ?_⟩
              clear HK K hT
              have hT := hT2
              clear hT2
              try simp only [Act.put, List.setIfInBounds_toArray, List.set_cons_zero, List.set_cons_succ]
              refine wpL_pure (i := 6) (oi := { dst := some 50, op := Op.move (Operand.tmp 56), type := 85, pos := "ledger.go:76", after := #[gD 5], guard := none }) (v := ?_) rfl (by kernel_rfl) (by kernel_rfl) (by kernel_rfl) (fun _ _ _ h => h) (by decide) hc (Or.inl ⟨by rfl, ?_⟩) (fun _ => hT) (fun hc2 => ?_)
              rotate_left
              · (intro w _; go_simp; try with_reducible rfl)
              clear hc; have hc := hc2; clear hc2
              try simp only [Act.put, List.setIfInBounds_toArray, List.set_cons_zero, List.set_cons_succ]
              refine wpL_pure (i := 7) (oi := { dst := some 57, op := Op.extract (Operand.tmp 50) 0, type := 34, pos := "ledger.go:76", after := #[gD 6], guard := none }) (v := ?_) rfl (by kernel_rfl) (by kernel_rfl) (by kernel_rfl) (fun _ _ _ h => h) (by decide) hc (Or.inl ⟨by rfl, ?_⟩) (fun _ => hT) (fun hc2 => ?_)
              rotate_left
              · (intro w _; go_simp; try with_reducible rfl)
              clear hc; have hc := hc2; clear hc2
              try simp only [Act.put, List.setIfInBounds_toArray, List.set_cons_zero, List.set_cons_succ]
              refine wpL_pure (i := 8) (oi := { dst := some 58, op := Op.extract (Operand.tmp 50) 1, type := 23, pos := "ledger.go:76", after := #[gD 6, { on := 10, ground := Ground.gcOnly Departure.lateStores }], guard := none }) (v := ?_) rfl (by kernel_rfl) (by kernel_rfl) (by kernel_rfl) (fun _ _ _ h => h) (by decide) hc (Or.inl ⟨by rfl, ?_⟩) (fun _ => hT) (fun hc2 => ?_)
              rotate_left
              · (intro w _; go_simp; try with_reducible rfl)
              clear hc; have hc := hc2; clear hc2
              try simp only [Act.put, List.setIfInBounds_toArray, List.set_cons_zero, List.set_cons_succ]
              refine wpL_ready (rs := [10]) (by kernel_rfl) (by simp) ?_ hc
              intro i hi hc2
              simp only [List.mem_cons, List.mem_nil_iff, or_false] at hi
              subst hi
              clear hc; have hc := hc2; clear hc2
              refine wpOp_step (o := { dst := none, op := Op.store 34 (Operand.tmp 11) (Operand.tmp 57), type := 0, pos := "ledger.go:76", after := #[gD 9, gD 7, gC 5, gP 0, gP 1, gP 2, gP 3, gP 4, gP 5, gP 6, gP 7, { on := 8, ground := Ground.textOnly Departure.lateStores }, gP 9], guard := none }) rfl (fun K hK => ?_)
              have HK := hide hK
              clear hK
              have hkX := (H8.out.2.at_ H9.out.1 (by simp))
              have C9 := blk_cell hkX
              have F9 := blk_free hkX
              go_simp
              obtain ⟨W10, hW10⟩ : ∃ W10, W10 = ((((w8.setCell ⟨W7.heap.size, 0, none⟩ (.int .i64 cn)).setCell ⟨W7.heap.size, 1, none⟩ (.int .i64 cb)).setCell ⟨W7.heap.size, 2, none⟩ (.int .i64 cl)).setCell ⟨W7.heap.size, 3, none⟩ (.slice q8 n8 c8)) := ⟨_, rfl⟩
              rw [← hW10]
              have hb10 : W10.heap[W7.heap.size]? = some (.cells #[.int .i64 cn, .int .i64 cb, .int .i64 cl, .slice q8 n8 c8] 34 (0, 0)) := by rw [hW10]; exact blk_set (blk_set (blk_set (blk_set hkX 0 _) 1 _) 2 _) 3 _
              have hm10 : Mod [W7.heap.size] w8 W10 := by rw [hW10]; exact ((((Mod.refl _ _).setCell (fun _ => by simp) _).setCell (fun _ => by simp) _).setCell (fun _ => by simp) _).setCell (fun _ => by simp) _
              have hlow := HLow.out
              have z8 := H8.out.2.size
              have z9 := H9.out.2.1.size
              have z9' := H9.out.2.2
              have zd : W7.drew.heap.size = W7.heap.size := rfl
              have hT2 : TV pl w6.heap.size #[.pointer (some ⟨pd, 0, none⟩), .int .i64 (gn : Int), .int .i64 (ar : Int), .int .i64 (s : Int), .int .i64 (u : Int), .int .i64 bn, .int .i64 bb, .int .i64 bl, .slice gq lv.length gc, .bool dd] #[.int .i64 kd, .int .i64 gi, .int .i64 gh, .string gp, .int .i64 gm, .slice p1 n1 c1, .int .i64 gt, .int .i64 ri, .slice p2 n2 c2, .int .i64 rn, .int .i64 rb, .int .i64 rl] W10 := hT.mod hm10 (by simp; omega) (by simp; omega)
              have HA10 : Hid (ApR W7 (⟨cn, cb, cl, cg⟩, ce) (.int .i64 ce) (.pointer (some ⟨W7.heap.size, 0, none⟩)) W10) := hide ⟨W7.heap.size, q8, n8, c8, lv8, rfl, rfl, hb10, by omega, ⟨(H8.out.1.gr.mod hm10 (by simp; omega)).base (by omega), H8.out.1.eq⟩, mod_fresh (H9.out.2.1.then H8.out.2) hm10 (by simp)⟩
              clear hkX C9 F9 hW10 hb10 hm10 hlow z8 z9 z9' zd
              refine HK.out _ _ ⟨fun _ => hT2, ?_⟩
              clear HK K hT
              have hT := hT2
              clear hT2
              try simp only [Act.put, List.setIfInBounds_toArray, List.set_cons_zero, List.set_cons_succ]
              refine wpL_ready (rs := [11]) (by kernel_rfl) (by simp) ?_ hc
              intro i hi hc2
              simp only [List.mem_cons, List.mem_nil_iff, or_false] at hi
              subst hi
              clear hc; have hc := hc2; clear hc2
              refine wpOp_step (o := { dst := some 10, op := Op.assign (Operand.tmp 58), type := 23, pos := "ledger.go:76", after := #[gD 8, gC 10, gP 0, gP 1, gP 2, gP 3, gP 4, gP 5, gP 6, gP 7, gP 8, gP 9, gP 10], guard := none }) rfl (fun K hK => ?_)
              have HK := hide hK
              clear hK
              go_simp
              refine HK.out _ _ ⟨fun h => by simp at h, ?_⟩
              clear HK K hT
              have hT := hc.size
              try simp only [Act.put, List.setIfInBounds_toArray, List.set_cons_zero, List.set_cons_succ]
              refine wpL_done (by kernel_rfl) ?_
              clear hT hc
              go_wp2_with fail
              go_meet
              case rel => exact HA10.out

          case rest =>
          obtain ⟨bx, q8, n8, c8, lv8, rfl, rfl, hbx, hbxs, hbk8, hm8⟩ := hcut
          simp only at hbx hbk8
          obtain ⟨W8, rfl⟩ : ∃ W8 : World, W8 = wc := ⟨_, rfl⟩
          have hm78 : Mod [] wr W8 := HM7.out.2.2.then hm8
          have hp8 : W8.heap[pl]? = some (.cells #[.pointer (some ⟨pd, 0, none⟩), .int .i64 (gn : Int), .int .i64 (ar : Int), .int .i64 (s : Int), .int .i64 (u : Int), .int .i64 bn, .int .i64 bb, .int .i64 bl, .slice gq lv.length gc, .bool dd] 80 (0, 0)) := hm78.at_ HE.out.2.1.blk (by simp)
          by_cases hce : ce = 0
          · subst hce
            have H8 := hide (And.intro hbk8 (And.intro hm78 hp8))
            have C8 := blk_cell hp8
            have F8 := blk_free hp8
            have Cb := blk_cell hbx
            have hlow := HLow.out
            have hws : IntKind.i64.wrap ((s : Int) + 1) = (s : Int) + 1 := by rw [IntKind.wrap_i64]; omega
            have hwu : IntKind.i64.wrap ((u : Int) + (WD : Int)) = (u : Int) + (WD : Int) := by rw [IntKind.wrap_i64]; omega
            clear hbk8 hm78 hp8 hm8 hbx
            go_upto_region 13 with fail
            obtain ⟨W11, hW11⟩ : ∃ W11, W11 = ((((W8.setCell ⟨pl, 5, none⟩ (.int .i64 cn)).setCell ⟨pl, 6, none⟩ (.int .i64 cb)).setCell ⟨pl, 7, none⟩ (.int .i64 cl)).setCell ⟨pl, 8, none⟩ (.slice q8 n8 c8)) := ⟨_, rfl⟩
            rw [← hW11]
            have hb11 : W11.heap[pl]? = some (.cells #[.pointer (some ⟨pd, 0, none⟩), .int .i64 (gn : Int), .int .i64 (ar : Int), .int .i64 (s : Int), .int .i64 (u : Int), .int .i64 cn, .int .i64 cb, .int .i64 cl, .slice q8 n8 c8, .bool dd] 80 (0, 0)) := by rw [hW11]; exact blk_set (blk_set (blk_set (blk_set H8.out.2.2 5 _) 6 _) 7 _) 8 _
            have hm11 : Mod [pl] W8 W11 := by rw [hW11]; exact ((((Mod.refl _ _).setCell (fun _ => by simp) _).setCell (fun _ => by simp) _).setCell (fun _ => by simp) _).setCell (fun _ => by simp) _
            clear C8 F8 Cb hW11
            have C11 := blk_cell hb11
            have F11 := blk_free hb11
            have H11 := hide (And.intro hb11 hm11)
            clear hb11 hm11
            go_upto_region 14 with fail
            obtain ⟨W12, hW12⟩ : ∃ W12, W12 = W11.setCell ⟨pl, 3, none⟩ (.int .i64 ((s : Int) + 1)) := ⟨_, rfl⟩
            rw [← hW12]
            have hp12 : W12.heap[pl]? = some (.cells #[.pointer (some ⟨pd, 0, none⟩), .int .i64 (gn : Int), .int .i64 (ar : Int), .int .i64 ((s : Int) + 1), .int .i64 (u : Int), .int .i64 cn, .int .i64 cb, .int .i64 cl, .slice q8 n8 c8, .bool dd] 80 (0, 0)) := by rw [hW12]; exact blk_set H11.out.1 3 _
            have hm12 : Mod [pl] W8 W12 := by rw [hW12]; exact H11.out.2.setCell (fun _ => by simp) _
            have HM12 := hide hm12
            have HWD := hide HE.out.2.2.2.2
            clear C11 F11 hW12 H11 hm12
            refine wpL_start (s := 10) (T := TS pl #[.pointer (some ⟨pd, 0, none⟩), .int .i64 (gn : Int), .int .i64 (ar : Int), .int .i64 ((s : Int) + 1), .int .i64 (u : Int), .int .i64 cn, .int .i64 cb, .int .i64 cl, .slice q8 n8 c8, .bool dd]) (by kernel_rfl) (fun hc => ?_)
            have hT : TS pl #[.pointer (some ⟨pd, 0, none⟩), .int .i64 (gn : Int), .int .i64 (ar : Int), .int .i64 ((s : Int) + 1), .int .i64 (u : Int), .int .i64 cn, .int .i64 cb, .int .i64 cl, .slice q8 n8 c8, .bool dd] W12.drew := (Mod.refl [] W12).drew.at_ hp12 (by simp)
            refine wpL_pure (i := 0) (oi := { dst := some 72, op := Op.move (Operand.tmp 0), type := 26, pos := "ledger.go:82", after := #[], guard := none }) (v := ?_) rfl (by kernel_rfl) (by kernel_rfl) (by kernel_rfl) (fun _ _ _ h => h) (by decide) hc (Or.inl ⟨by rfl, ?_⟩) (fun _ => hT) (fun hc2 => ?_)
            rotate_left
            · (intro w _; go_simp; try with_reducible rfl)
            clear hc; have hc := hc2; clear hc2
            try simp only [Act.put, List.setIfInBounds_toArray, List.set_cons_zero, List.set_cons_succ]
            refine wpL_pure (i := 1) (oi := { dst := some 73, op := Op.nilCheck (Operand.tmp 72), type := 0, pos := "ledger.go:82", after := #[gD 0], guard := none }) (v := ?_) rfl (by kernel_rfl) (by kernel_rfl) (by kernel_rfl) (fun _ _ _ h => h) (by decide) hc (Or.inl ⟨by rfl, ?_⟩) (fun _ => hT) (fun hc2 => ?_)
            rotate_left
            · (intro w _; go_simp; try with_reducible rfl)
            clear hc; have hc := hc2; clear hc2
            try simp only [Act.put, List.setIfInBounds_toArray, List.set_cons_zero, List.set_cons_succ]
            refine wpL_pure (i := 2) (oi := { dst := some 74, op := Op.fieldAddr 80 (Operand.tmp 73) 4, type := 0, pos := "ledger.go:82", after := #[gD 1], guard := none }) (v := ?_) rfl (by kernel_rfl) (by kernel_rfl) (by kernel_rfl) (fun _ _ _ h => h) (by decide) hc (Or.inl ⟨by rfl, ?_⟩) (fun _ => hT) (fun hc2 => ?_)
            rotate_left
            · (intro w _; go_simp; try with_reducible rfl)
            clear hc; have hc := hc2; clear hc2
            try simp only [Act.put, List.setIfInBounds_toArray, List.set_cons_zero, List.set_cons_succ]
            refine wpL_take (T' := TS pl #[.pointer (some ⟨pd, 0, none⟩), .int .i64 (gn : Int), .int .i64 (ar : Int), .int .i64 ((s : Int) + 1), .int .i64 (u : Int), .int .i64 cn, .int .i64 cb, .int .i64 cl, .slice q8 n8 c8, .bool dd]) (i := 3) (oi := { dst := some 75, op := Op.load 3 (Operand.tmp 74), type := 3, pos := "ledger.go:82", after := #[gD 2], guard := none }) (v := ?_) rfl (by kernel_rfl) (by kernel_rfl) (by kernel_rfl) (fun _ _ _ h => h) (by decide) (fun l2 w hc3 hu hs => hs (by
              cases hS : l2.getD 10 false with
              | false => exact getD_in (by rw [hc3.size]; decide) hS
              | true =>
                have a0 := hc3.step (k := 3) (by kernel_rfl) hS
                rw [getD_tf hu] at a0
                cases a0)) hc (Or.inl ⟨by rfl, ?_⟩) (fun _ => hT) (fun hc2 => ?_)
            rotate_left
            · (intro w hSw; have C0 := blk_cell hSw; go_simp; try with_reducible rfl)
            clear hc; have hc := hc2; clear hc2
            try simp only [Act.put, List.setIfInBounds_toArray, List.set_cons_zero, List.set_cons_succ]
            refine wpL_pure (i := 4) (oi := { dst := some 76, op := Op.move (Operand.tmp 8), type := 71, pos := "ledger.go:82", after := #[], guard := none }) (v := ?_) rfl (by kernel_rfl) (by kernel_rfl) (by kernel_rfl) (fun _ _ _ h => h) (by decide) hc (Or.inl ⟨by rfl, ?_⟩) (fun _ => hT) (fun hc2 => ?_)
            rotate_left
            · (intro w _; go_simp; try with_reducible rfl)
            clear hc; have hc := hc2; clear hc2
            try simp only [Act.put, List.setIfInBounds_toArray, List.set_cons_zero, List.set_cons_succ]
            refine wpL_pure (i := 5) (oi := { dst := some 77, op := Op.call { callee := Callee.builtin Builtin.len, args := #[Operand.tmp 76], argTypes := #[71] }, type := 3, pos := "ledger.go:82", after := #[gD 4], guard := none }) (v := ?_) rfl (by kernel_rfl) (by kernel_rfl) (by kernel_rfl) (fun _ _ _ h => h) (by decide) hc (Or.inl ⟨by rfl, ?_⟩) (fun _ => hT) (fun hc2 => ?_)
            rotate_left
            · (intro w _; go_simp; try with_reducible rfl)
            clear hc; have hc := hc2; clear hc2
            try simp only [Act.put, List.setIfInBounds_toArray, List.set_cons_zero, List.set_cons_succ]
            refine wpL_ready (rs := [6]) (by kernel_rfl) (by simp) ?_ hc
            intro i hi hc2
            simp only [List.mem_cons, List.mem_nil_iff, or_false] at hi
            subst hi
            clear hc; have hc := hc2; clear hc2
            refine wpOp_step (o := { dst := some 78, op := Op.call { callee := Callee.value (Operand.func 49), args := #[Operand.tmp 77], argTypes := #[3] }, type := 3, pos := "ledger.go:82", after := #[gD 5], guard := none }) rfl (fun K hK => ?_)
            have HK := hide hK
            clear hK
            refine step_call rfl 49 #[.tmp 77] #[3] rfl (enters_of Tryz.func49 (by kernel_rfl) rfl) #[.int .i64 (nD : Int)] (by simp [Act.eval]) ?_
            refine (width_any nD (by omega) _).mono ?_
            rintro e wz ⟨rfl, hwz⟩
            rw [hwz]
            refine ⟨_, rfl, ?_⟩
            rw [HWD.out]
            have hT2 : TS pl #[.pointer (some ⟨pd, 0, none⟩), .int .i64 (gn : Int), .int .i64 (ar : Int), .int .i64 ((s : Int) + 1), .int .i64 (u : Int), .int .i64 cn, .int .i64 cb, .int .i64 cl, .slice q8 n8 c8, .bool dd] W12.drew := hT
            clear hwz
            refine HK.out _ _ ⟨fun _ => hT2, ?_⟩
            clear HK K hT
            have hT := hT2
            clear hT2
            try simp only [Act.put, List.setIfInBounds_toArray, List.set_cons_zero, List.set_cons_succ]
            refine wpL_pure (i := 7) (oi := { dst := some 79, op := Op.binOp BinOp.add 3 (Operand.tmp 75) (Operand.tmp 78) 3, type := 3, pos := "ledger.go:82", after := #[gD 3, gD 6], guard := none }) (v := ?_) rfl (by kernel_rfl) (by kernel_rfl) (by kernel_rfl) (fun _ _ _ h => h) (by decide) hc (Or.inl ⟨by rfl, ?_⟩) (fun _ => hT) (fun hc2 => ?_)
            rotate_left
            · (intro w _; go_simp; try with_reducible rfl)
            clear hc; have hc := hc2; clear hc2
            try simp only [Act.put, List.setIfInBounds_toArray, List.set_cons_zero, List.set_cons_succ]
            refine wpL_pure (i := 8) (oi := { dst := some 80, op := Op.nilCheck (Operand.tmp 72), type := 0, pos := "ledger.go:82", after := #[gD 0, gP 0, gP 1, gP 2, gP 3, gP 4, gP 5, gP 6, gP 7], guard := none }) (v := ?_) rfl (by kernel_rfl) (by kernel_rfl) (by kernel_rfl) (fun _ _ _ h => h) (by decide) hc (Or.inl ⟨by rfl, ?_⟩) (fun _ => hT) (fun hc2 => ?_)
            rotate_left
            · (intro w _; go_simp; try with_reducible rfl)
            clear hc; have hc := hc2; clear hc2
            try simp only [Act.put, List.setIfInBounds_toArray, List.set_cons_zero, List.set_cons_succ]
            refine wpL_pure (i := 9) (oi := { dst := some 81, op := Op.fieldAddr 80 (Operand.tmp 80) 4, type := 0, pos := "ledger.go:82", after := #[gD 8, gP 0, gP 1, gP 2, gP 3, gP 4, gP 5, gP 6, gP 7], guard := none }) (v := ?_) rfl (by kernel_rfl) (by kernel_rfl) (by kernel_rfl) (fun _ _ _ h => h) (by decide) hc (Or.inl ⟨by rfl, ?_⟩) (fun _ => hT) (fun hc2 => ?_)
            rotate_left
            · (intro w _; go_simp; try with_reducible rfl)
            clear hc; have hc := hc2; clear hc2
            try simp only [Act.put, List.setIfInBounds_toArray, List.set_cons_zero, List.set_cons_succ]
            refine wpL_ready (rs := [10]) (by kernel_rfl) (by simp) ?_ hc
            intro i hi hc2
            simp only [List.mem_cons, List.mem_nil_iff, or_false] at hi
            subst hi
            clear hc; have hc := hc2; clear hc2
            refine wpOp_step (o := { dst := none, op := Op.store 3 (Operand.tmp 81) (Operand.tmp 79), type := 0, pos := "ledger.go:82", after := #[gD 9, gD 7, gC 6, gP 0, gP 1, gP 2, gP 3, gP 4, gP 5, gP 6, gP 7], guard := none }) rfl (fun K hK => ?_)
            have HK := hide hK
            clear hK
            have C3 := blk_cell (w := W12) hp12
            have F3 := blk_free (w := W12) hp12
            go_simp
            clear C3 F3
            refine HK.out _ _ ⟨fun h => by simp at h, ?_⟩
            clear HK K hT
            have hT := hc.size
            try simp only [Act.put, List.setIfInBounds_toArray, List.set_cons_zero, List.set_cons_succ]
            refine wpL_done (by kernel_rfl) ?_
            clear hT hc

            have hp13 : (W12.setCell ⟨pl, 4, none⟩ (.int .i64 ((u : Int) + (WD : Int)))).heap[pl]? = some (.cells #[.pointer (some ⟨pd, 0, none⟩), .int .i64 (gn : Int), .int .i64 (ar : Int), .int .i64 ((s : Int) + 1), .int .i64 ((u : Int) + (WD : Int)), .int .i64 cn, .int .i64 cb, .int .i64 cl, .slice q8 n8 c8, .bool dd] 80 (0, 0)) := blk_set hp12 4 _
            have hm13 : Mod [pl] W8 (W12.setCell ⟨pl, 4, none⟩ (.int .i64 ((u : Int) + (WD : Int)))) := HM12.out.setCell (fun _ => by simp) _
            clear hp12
            obtain ⟨W13, hW13⟩ : ∃ W13, W13 = W12.setCell ⟨pl, 4, none⟩ (.int .i64 ((u : Int) + (WD : Int))) := ⟨_, rfl⟩
            rw [← hW13] at hp13 hm13 ⊢
            clear hW13
            have H13 := hide (And.intro hp13 hm13)
            clear hp13 hm13
            go_wp2_with fail
            go_roundw
            case rel =>
              obtain ⟨hp13, hm13⟩ := H13.out
              obtain ⟨hpl, hlg, hm, hav, hWD⟩ := HE.out
              obtain ⟨hbk8, hm78, -⟩ := H8.out
              have hs78 := HM7.out.2.2.size
              simp only [if_true] at hpl
              refine ⟨j + 1, .slice q8 n8 c8, lv8, ⟨cn, cb, cl, cg⟩, s + 1, u + WD, by go_num, by omega, ?_, hav rfl, by omega, by omega, hide ?_, (hm.then (hm78.mono (by simp))).then hm13.drew⟩
              · have hl8 := hlg.quiet hm78
                exact hl8.cells (l' := ⟨gn, ar, s + 1, u + WD, ⟨cn, cb, cl, cg⟩, dd⟩) (by rw [show lgCells pd (.slice q8 n8 c8) ⟨gn, ar, s + 1, u + WD, ⟨cn, cb, cl, cg⟩, dd⟩ = #[.pointer (some ⟨pd, 0, none⟩), .int .i64 (gn : Int), .int .i64 (ar : Int), .int .i64 ((s : Int) + 1), .int .i64 ((u : Int) + (WD : Int)), .int .i64 cn, .int .i64 cb, .int .i64 cl, .slice q8 n8 c8, .bool dd] from by simp [lgCells]]; exact hp13) hm13.drew ⟨(hbk8.gr.mod hm13.drew (fun k hk => by simp at hk; omega)).base (by omega), hbk8.eq⟩
              · obtain ⟨h1, h2, h3⟩ := HP.out
                rw [hpl] at h1 h2 h3
                simp only at h1 h2 h3
                exact ⟨h1, by omega, by omega⟩
            case measure => simp [intOf]; omega
          · have hcb : (ce != 0) = true := by simpa using hce
            obtain ⟨hpl, hlg, hm, -⟩ := HE.out
            rw [if_neg hce] at hpl
            have HE2 := hide (And.intro hpl (And.intro hlg (And.intro hm hm78)))
            clear hpl hlg hm hm78 hbk8 hm8 hbx hp8
            go_wp2_with fail
            go_ret
            exact RcvRel.done HE2.out.2.1 HP HE2.out.1 HD.out H5.out.2 HE2.out.2.2.1 HE2.out.2.2.2
      · obtain rfl : j = RS.length := by omega
        have HE := hide (And.intro hlg hm)
        clear hlg hm hvb
        go_wp2_with fail
        go_ret
        exact RcvRel.done HE.out.1 HP (by rw [List.drop_length]; rfl) HD.out H5.out.2 HE.out.2 (Mod.refl _ _)
end Go.Proofs.YtpphoeimakjjdaaGreatDoor
