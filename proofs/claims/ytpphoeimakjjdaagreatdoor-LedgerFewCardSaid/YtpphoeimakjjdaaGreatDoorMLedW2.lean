/-
  WALKS: layer 12: put, name. (Written by wip/gen_led2.py.)
-/
import Derived.Test.YtpphoeimakjjdaaGreatDoorMLedW1
import Derived.Test.YtpphoeimakjjdaaGreatDoorMBookA
import Derived.Test.YtpphoeimakjjdaaGreatDoorMPack
namespace Go.Proofs.YtpphoeimakjjdaaGreatDoor
open Go.RowKit Go.Shelf

section
variable {w w' : World} {pl pd bs : Nat} {gv gv' : Value} {lv lv' : List (Grt × Value)} {d d' : Dk} {l l' : Lg}
theorem LgM.disk (h : LgM w pl pd bs gv lv d l) (hd : DkM w' pd bs d') (m : Mod [pd, bs] w w') : LgM w' pl pd bs gv lv d' l := by
  have := h.lt
  exact ⟨m.at_ h.blk (by simp; omega), hd, ⟨h.bk.gr.mod m (fun k hk => by simp at hk; omega), h.bk.eq⟩, h.lt⟩
theorem LgM.quiet (h : LgM w pl pd bs gv lv d l) (m : Mod [] w w') : LgM w' pl pd bs gv lv d l :=
  ⟨m.at_ h.blk (by simp), h.dk.mod m (by simp) (by simp), ⟨h.bk.gr.mod m (by simp), h.bk.eq⟩, h.lt⟩
theorem LgM.cells (h : LgM w pl pd bs gv lv d l) (hb : w'.heap[pl]? = some (.cells (lgCells pd gv' l') 80 (0, 0))) (m : Mod [pl] w w') (hk : BkM w' (pl + 1) gv' l'.book lv') : LgM w' pl pd bs gv' lv' d l' := by
  have := h.lt
  exact ⟨hb, h.dk.mod m (by simp; omega) (by simp; omega), hk, h.lt⟩
theorem LgM.bkm (h : LgM w pl pd bs gv lv d l) (m : Mod [pl] w w') : BkM w' (pl + 1) gv l.book lv := ⟨h.bk.gr.mod m (fun k hk => by simp at hk; omega), h.bk.eq⟩
end
def TP (pl pd rb i : Nat) (sv : Value) (w : World) : Prop := w.cell? ⟨pl, 0, none⟩ = some (.pointer (some ⟨pd, 0, none⟩)) ∧ w.cell? ⟨rb, i, none⟩ = some sv
/-- what put leaves -/
def PutTo (w : World) (pl pd bs : Nat) (gv : Value) (lv : List (Grt × Value)) (l : Lg) (t : Int × Dk) (e : Ending) (w' : World) : Prop :=
  e = .returned (.int .i64 t.1) ∧ LgM w' pl pd bs gv lv t.2 (if t.1 = 40 then deadL l else l) ∧ Mod [pl, pd, bs] w w'
def PutRel (w1 : World) (pl pd bs : Nat) (gv : Value) (lv : List (Grt × Value)) (l : Lg) (at_ : Nat) (L : List B8) (t : Int × Dk) (s12 s13 : Value) (wr : World) : Prop :=
  ∃ (i : Nat) (e : Int) (di : Dk), s13 = .int .i64 (i : Int) ∧ s12 = .int .i64 e ∧ i ≤ L.length ∧ LgM wr pl pd bs gv lv di l ∧ Mod [pd, bs] w1 wr ∧ ((e = 0 ∧ writesD di (at_ + i) (L.drop i) = t) ∨ (e ≠ 0 ∧ (e, di) = t))
set_option maxHeartbeats 4000000 in
set_option maxRecDepth 100000 in
theorem lput_any {w : World} {pl pd bs : Nat} {gv : Value} {lv : List (Grt × Value)} {d : Dk} {l : Lg} (h : LgM w pl pd bs gv lv d l) (at_ gen seq : Nat) {u : Value} {data : B8} (hu : RdY w u data) (hg : 1 ≤ gen ∧ gen ≤ 1073741824) (hs : seq ≤ 1073741824) (hd : data.length ≤ 188) (hbk : ∀ k, k ∈ ob u → k < w.heap.size) (ha : at_ ≤ 1000) :
    Calls Tryz.prog 50 #[.pointer (some ⟨pl, 0, none⟩), .int .i64 (at_ : Int), .int .i64 (gen : Int), .int .i64 (seq : Int), u] w fun e w' => PutTo w pl pd bs gv lv l (putD d at_ gen seq data) e w' := by
  have hpk := pack_any hu gen seq hg hs hd hbk
  unfold putD
  have hpl : (packL gen seq data).length ≤ 4 := by rw [packL_len]; unfold widthN; omega
  have h64 : ∀ b, b ∈ packL gen seq data → b.length = 64 := pack_64
  generalize packL gen seq data = L at hpk hpl h64
  obtain ⟨t, ht⟩ : ∃ t, writesD d at_ L = t := ⟨_, rfl⟩
  rw [ht]
  have hlt := h.lt
  have hplw := lt_of_block h.blk
  have HH := hide (And.intro h ht)
  clear h ht hu hg hs hd hbk
  go_enter Tryz.func50, Tryz.ntmps50
  go_upto_region 3 with (go_at_call 74; refine hpk.mono ?_; rintro e w1 ⟨v, vs, rfl, hr1, hm1⟩
                         obtain ⟨q1, c1, hv1, -⟩ := hr1.shape
                         subst hv1
                         have H1 := hide (And.intro hr1 hm1)
                         clear hr1 hm1 hpk)
  have hL63 : L.length ≤ 9223372036854775807 := by omega
  go_loopw [12, 13] (fun s12 s13 wr => PutRel w1 pl pd bs gv lv l at_ L t s12 s13 wr) (fun _ i _ => L.length - (intOf i).toNat)
  case atStart => exact ⟨0, 0, d, rfl, rfl, Nat.zero_le _, HH.out.1.quiet H1.out.2, Mod.refl _ _, .inl ⟨rfl, by simpa using HH.out.2⟩⟩
  case round =>
    obtain ⟨i, e, di, rfl, rfl, hi, hlg, hm, hor⟩ := hrel
    by_cases hgo : i < L.length ∧ e = 0
    · obtain ⟨hlt2, rfl⟩ := hgo
      have hwd : writesD di (at_ + i) (L.drop i) = t := by
        rcases hor with ⟨_, h1⟩ | ⟨h1, _⟩
        · exact h1
        · exact absurd rfl h1
      have hci : (i : Int) < (L.length : Int) := by omega
      have hwa : IntKind.i64.wrap ((at_ : Int) + (i : Int)) = (at_ : Int) + (i : Int) := by rw [IntKind.wrap_i64]; omega
      have hwi : IntKind.i64.wrap ((i : Int) + 1) = (i : Int) + 1 := by rw [IntKind.wrap_i64]; omega
      obtain ⟨rb, rfl, hrb, hcv, hel⟩ := (H1.out.1.mod hm (fun k hk => by have := H1.out.2.size; simp at hk; omega)).at_ i hlt2
      have hrbw : w.heap.size ≤ rb := (H1.out.1.blk rb (by simp [ob, Value.ownBlock])).1
      have hdrop : L.drop i = L.getD i [] :: L.drop (i + 1) := by rw [List.drop_eq_getElem_cons hlt2]; simp [hlt2]
      generalize hsv : vs.getD i nilS = sv at hcv hel
      have hsvb : bs ∉ ob sv := fun e => by have := (hel.blk bs e).1; omega
      have hwr := write_any (hlg.dk.mod (Mod.refl [] wr).drew (by simp) (by simp)) (at_ + i) (bv := sv) (b := L.getD i []) (hel.rd.gr (Gr.refl wr).drew) hsvb
      rw [hdrop] at hwd
      unfold writesD at hwd
      generalize L.getD i [] = B at hwr hwd
      have hTP : TP pl pd rb i sv wr.drew := ⟨blk_cell hlg.blk 0, hcv⟩
      have HM := hide (And.intro hlg (And.intro hm hwd))
      have hpr : pl ≠ pd ∧ pl ≠ bs := by omega
      have hrr : rb ≠ pd ∧ rb ≠ bs := by omega
      clear hor hwd hlg hm hel hsv hdrop hcv hsvb
      go_upto_region 5 with fail
      refine wpL_start (s := 12) (T := TP pl pd rb i sv) (by kernel_rfl) (fun hc => ?_)
      have hT : TP pl pd rb i sv wr.drew := hTP
      refine wpL_pure (i := 0) (oi := { dst := some 31, op := Op.move (Operand.tmp 0), type := 26, pos := "ledger.go:114", after := #[], guard := none }) (v := ?_) rfl (by kernel_rfl) (by kernel_rfl) (by kernel_rfl) (fun _ _ _ h => h) (by decide) hc (Or.inl ⟨by rfl, ?_⟩) (fun _ => hT) (fun hc2 => ?_)
      rotate_left
      · (intro w _; go_simp; try with_reducible rfl)
      clear hc; have hc := hc2; clear hc2
      try simp only [Act.put, List.setIfInBounds_toArray, List.set_cons_zero, List.set_cons_succ]
      refine wpL_pure (i := 1) (oi := { dst := some 32, op := Op.nilCheck (Operand.tmp 31), type := 0, pos := "ledger.go:114", after := #[gD 0], guard := none }) (v := ?_) rfl (by kernel_rfl) (by kernel_rfl) (by kernel_rfl) (fun _ _ _ h => h) (by decide) hc (Or.inl ⟨by rfl, ?_⟩) (fun _ => hT) (fun hc2 => ?_)
      rotate_left
      · (intro w _; go_simp; try with_reducible rfl)
      clear hc; have hc := hc2; clear hc2
      try simp only [Act.put, List.setIfInBounds_toArray, List.set_cons_zero, List.set_cons_succ]
      refine wpL_pure (i := 2) (oi := { dst := some 33, op := Op.fieldAddr 80 (Operand.tmp 32) 0, type := 0, pos := "ledger.go:114", after := #[gD 1], guard := none }) (v := ?_) rfl (by kernel_rfl) (by kernel_rfl) (by kernel_rfl) (fun _ _ _ h => h) (by decide) hc (Or.inl ⟨by rfl, ?_⟩) (fun _ => hT) (fun hc2 => ?_)
      rotate_left
      · (intro w _; go_simp; try with_reducible rfl)
      clear hc; have hc := hc2; clear hc2
      try simp only [Act.put, List.setIfInBounds_toArray, List.set_cons_zero, List.set_cons_succ]
      refine wpL_take (T' := TP pl pd rb i sv) (i := 3) (oi := { dst := some 34, op := Op.load 22 (Operand.tmp 33), type := 22, pos := "ledger.go:114", after := #[gD 2], guard := none }) (v := ?_) rfl (by kernel_rfl) (by kernel_rfl) (by kernel_rfl) (fun _ _ _ h => h) (by decide) (fun l2 w hc3 hu hs => hs (by
        cases hS : l2.getD 12 false with
        | false => exact getD_in (by rw [hc3.size]; decide) hS
        | true =>
          have a0 := hc3.step (k := 3) (by kernel_rfl) hS
          rw [getD_tf hu] at a0
          cases a0)) hc (Or.inl ⟨by rfl, ?_⟩) (fun _ => hT) (fun hc2 => ?_)
      rotate_left
      · (intro w hSw; have C0 := hSw.1; go_simp; try with_reducible rfl)
      clear hc; have hc := hc2; clear hc2
      try simp only [Act.put, List.setIfInBounds_toArray, List.set_cons_zero, List.set_cons_succ]
      refine wpL_pure (i := 4) (oi := { dst := some 35, op := Op.move (Operand.tmp 1), type := 3, pos := "ledger.go:114", after := #[], guard := none }) (v := ?_) rfl (by kernel_rfl) (by kernel_rfl) (by kernel_rfl) (fun _ _ _ h => h) (by decide) hc (Or.inl ⟨by rfl, ?_⟩) (fun _ => hT) (fun hc2 => ?_)
      rotate_left
      · (intro w _; go_simp; try with_reducible rfl)
      clear hc; have hc := hc2; clear hc2
      try simp only [Act.put, List.setIfInBounds_toArray, List.set_cons_zero, List.set_cons_succ]
      refine wpL_pure (i := 5) (oi := { dst := some 36, op := Op.move (Operand.tmp 13), type := 3, pos := "ledger.go:114", after := #[], guard := none }) (v := ?_) rfl (by kernel_rfl) (by kernel_rfl) (by kernel_rfl) (fun _ _ _ h => h) (by decide) hc (Or.inl ⟨by rfl, ?_⟩) (fun _ => hT) (fun hc2 => ?_)
      rotate_left
      · (intro w _; go_simp; try with_reducible rfl)
      clear hc; have hc := hc2; clear hc2
      try simp only [Act.put, List.setIfInBounds_toArray, List.set_cons_zero, List.set_cons_succ]
      refine wpL_pure (i := 6) (oi := { dst := some 37, op := Op.binOp BinOp.add 3 (Operand.tmp 35) (Operand.tmp 36) 3, type := 3, pos := "ledger.go:114", after := #[gD 4, gD 5], guard := none }) (v := ?_) rfl (by kernel_rfl) (by kernel_rfl) (by kernel_rfl) (fun _ _ _ h => h) (by decide) hc (Or.inl ⟨by rfl, ?_⟩) (fun _ => hT) (fun hc2 => ?_)
      rotate_left
      · (intro w _; go_simp; try with_reducible rfl)
      clear hc; have hc := hc2; clear hc2
      try simp only [Act.put, List.setIfInBounds_toArray, List.set_cons_zero, List.set_cons_succ]
      refine wpL_pure (i := 7) (oi := { dst := some 38, op := Op.move (Operand.tmp 11), type := 65, pos := "ledger.go:114", after := #[], guard := none }) (v := ?_) rfl (by kernel_rfl) (by kernel_rfl) (by kernel_rfl) (fun _ _ _ h => h) (by decide) hc (Or.inl ⟨by rfl, ?_⟩) (fun _ => hT) (fun hc2 => ?_)
      rotate_left
      · (intro w _; go_simp; try with_reducible rfl)
      clear hc; have hc := hc2; clear hc2
      try simp only [Act.put, List.setIfInBounds_toArray, List.set_cons_zero, List.set_cons_succ]
      refine wpL_pure (i := 8) (oi := { dst := some 39, op := Op.move (Operand.tmp 13), type := 3, pos := "ledger.go:114", after := #[], guard := none }) (v := ?_) rfl (by kernel_rfl) (by kernel_rfl) (by kernel_rfl) (fun _ _ _ h => h) (by decide) hc (Or.inl ⟨by rfl, ?_⟩) (fun _ => hT) (fun hc2 => ?_)
      rotate_left
      · (intro w _; go_simp; try with_reducible rfl)
      clear hc; have hc := hc2; clear hc2
      try simp only [Act.put, List.setIfInBounds_toArray, List.set_cons_zero, List.set_cons_succ]
      refine wpL_pure (i := 9) (oi := { dst := some 40, op := Op.indexAddr 65 (Operand.tmp 38) (Operand.tmp 39), type := 0, pos := "ledger.go:114", after := #[gD 7, gD 8], guard := none }) (v := ?_) rfl (by kernel_rfl) (by kernel_rfl) (by kernel_rfl) (fun _ _ _ h => h) (by decide) hc (Or.inl ⟨by rfl, ?_⟩) (fun _ => hT) (fun hc2 => ?_)
      rotate_left
      · (intro w _; go_simp; try with_reducible rfl)
      clear hc; have hc := hc2; clear hc2
      try simp only [Act.put, List.setIfInBounds_toArray, List.set_cons_zero, List.set_cons_succ]
      refine wpL_take (T' := TP pl pd rb i sv) (i := 10) (oi := { dst := some 41, op := Op.load 71 (Operand.tmp 40), type := 71, pos := "ledger.go:114", after := #[gD 9], guard := none }) (v := ?_) rfl (by kernel_rfl) (by kernel_rfl) (by kernel_rfl) (fun _ _ _ h => h) (by decide) (fun l2 w hc3 hu hs => hs (by
        cases hS : l2.getD 12 false with
        | false => exact getD_in (by rw [hc3.size]; decide) hS
        | true =>
          have a0 := hc3.step (k := 10) (by kernel_rfl) hS
          rw [getD_tf hu] at a0
          cases a0)) hc (Or.inl ⟨by rfl, ?_⟩) (fun _ => hT) (fun hc2 => ?_)
      rotate_left
      · (intro w hSw; have C0 := hSw.2; go_simp; try with_reducible rfl)
      clear hc; have hc := hc2; clear hc2
      try simp only [Act.put, List.setIfInBounds_toArray, List.set_cons_zero, List.set_cons_succ]
      refine wpL_ready (rs := [11]) (by kernel_rfl) (by simp) ?_ hc
      intro i hi hc2
      simp only [List.mem_cons, List.mem_nil_iff, or_false] at hi
      subst hi
      clear hc; have hc := hc2; clear hc2
      refine wpOp_step (o := { dst := some 42, op := Op.call { callee := Callee.value (Operand.func 75), args := #[Operand.tmp 34, Operand.tmp 37, Operand.tmp 41], argTypes := #[22, 3, 71] }, type := 23, pos := "ledger.go:114", after := #[gD 3, gD 6, gD 10], guard := none }) rfl (fun K hK => ?_)
      have HK := hide hK
      clear hK
      refine step_call rfl 75 #[.tmp 34, .tmp 37, .tmp 41] #[22, 3, 71] rfl (enters_of Tryz.func75 (by kernel_rfl) rfl) #[.pointer (some ⟨pd, 0, none⟩), .int .i64 ((at_ : Int) + (i : Int)), sv] (by simp [Act.eval]) ?_
      refine hwr.mono ?_
      rintro e w3 ⟨rfl, hdk3, hm3⟩
      refine ⟨_, rfl, ?_⟩
      have hT2 : TP pl pd rb i sv w3 := ⟨hm3.kept hT.1 (by simp; omega), hm3.kept hT.2 (by simp; omega)⟩
      have H3 := hide (And.intro hdk3 hm3)
      clear hdk3 hm3
      refine HK.out _ _ ⟨fun _ => hT2, ?_⟩
      clear HK K hT
      have hT := hT2
      clear hT2
      try simp only [Act.put, List.setIfInBounds_toArray, List.set_cons_zero, List.set_cons_succ]
      refine wpL_ready (rs := [12]) (by kernel_rfl) (by simp) ?_ hc
      intro i hi hc2
      simp only [List.mem_cons, List.mem_nil_iff, or_false] at hi
      subst hi
      clear hc; have hc := hc2; clear hc2
      refine wpOp_step (o := { dst := some 12, op := Op.assign (Operand.tmp 42), type := 23, pos := "ledger.go:114", after := #[gD 11, gC 11, gP 0, gP 1, gP 2, gP 3, gP 4, gP 5, gP 6, gP 7, gP 8, gP 9, gP 10, gP 11], guard := none }) rfl (fun K hK => ?_)
      have HK := hide hK
      clear hK
      go_simp
      refine HK.out _ _ ⟨fun h => by simp at h, ?_⟩
      clear HK K hT
      have hT := hc.size
      try simp only [Act.put, List.setIfInBounds_toArray, List.set_cons_zero, List.set_cons_succ]
      refine wpL_done (by kernel_rfl) ?_
      clear hT hc
      go_wp2_with fail
      go_roundw
      case rel =>
        obtain ⟨hlg, hm, hwd⟩ := HM.out
        obtain ⟨hdk3, hm3⟩ := H3.out
        refine ⟨i + 1, (writeD di (at_ + i) B).1, (writeD di (at_ + i) B).2, by go_num, rfl, by omega, hlg.disk hdk3 (Mod.then (Mod.refl _ _).drew hm3), hm.drew.then hm3, ?_⟩
        by_cases h0 : (writeD di (at_ + i) B).1 = 0
        · rw [if_pos h0] at hwd
          exact .inl ⟨h0, by rw [← hwd]; rfl⟩
        · rw [if_neg h0] at hwd
          exact .inr ⟨h0, hwd⟩
      case measure => simp [intOf]; omega
    · have hend : (e, di) = t := by
        rcases hor with ⟨h0, h1⟩ | ⟨_, h1⟩
        · subst h0
          have : ¬ i < L.length := fun x => hgo ⟨x, rfl⟩
          rw [List.drop_of_length_le (by omega)] at h1
          exact h1
        · exact h1
      subst hend
      have hcc : ((i : Int) < (L.length : Int) ∧ (e == 0) = false) ∨ ¬ (i : Int) < (L.length : Int) := by
        by_cases hx : i < L.length
        · exact .inl ⟨by omega, by simpa using fun h0 => hgo ⟨hx, h0⟩⟩
        · exact .inr (by omega)
      have hb := hlg.blk
      have F9 := blk_free hb 9
      have C9 : wr.cell? ⟨pl, 9, none⟩ = some (.bool l.dead) := blk_cell hb 9
      have HM := hide (And.intro hlg (hm.mono (T := [pl, pd, bs]) (fun x hx _ => by simp at hx ⊢; omega)))
      have H1m := H1.out.2
      clear hlg hm hor hgo hb
      by_cases he : e = 40
      · subst he
        rcases hcc with ⟨hc1, hc2⟩ | hc1
        all_goals
          go_wp2_with fail
          go_ret
          refine ⟨rfl, ?_, ((H1m.mono (by simp)).then HM.out.2).setCell (fun _ => by simp) _⟩
          have hms : Mod [pl] wr (wr.setCell ⟨pl, 9, none⟩ (.bool true)) := (Mod.refl _ _).setCell (fun _ => by simp) _
          rw [if_pos rfl]
          exact HM.out.1.cells (l' := deadL l) (blk_set HM.out.1.blk 9 _) hms (HM.out.1.bkm hms)
      · have he2 : (e == 40) = false := by simpa using he
        have HE := hide he
        clear he C9 F9
        rcases hcc with ⟨hc1, hc2⟩ | hc1
        all_goals
          go_wp2_with fail
          go_ret
          exact ⟨rfl, by rw [if_neg HE.out]; exact HM.out.1, (H1m.mono (by simp)).then HM.out.2⟩
theorem pack_head (gen k : Nat) : packL gen 0 [UInt8.ofNat k] = [headB gen k] := by
  unfold packL headB widthN pieceS
  simp
def NameTo (w : World) (pl pd bs : Nat) (gv : Value) (lv : List (Grt × Value)) (l : Lg) (t : Int × Dk) (e : Ending) (w' : World) : Prop :=
  e = .returned (.int .i64 t.1) ∧ LgM w' pl pd bs gv lv t.2 l ∧ Mod [pd, bs] w w'
set_option maxHeartbeats 4000000 in
set_option maxRecDepth 100000 in
theorem name_any {w : World} {pl pd bs : Nat} {gv : Value} {lv : List (Grt × Value)} {d : Dk} {l : Lg} (h : LgM w pl pd bs gv lv d l) (gen k : Nat) (hg : 1 ≤ gen ∧ gen ≤ 1073741824) (hk : k ≤ 1) :
    Calls Tryz.prog 44 #[.pointer (some ⟨pl, 0, none⟩), .int .i64 (gen : Int), .int .i64 (k : Int)] w fun e w' => NameTo w pl pd bs gv lv l (nameD d gen k) e w' := by
  obtain ⟨W0, hW0⟩ : ∃ W0, W0 = w.alloc (.cells #[.int .u8 (k : Int)] 5 (0, 0)) := ⟨_, rfl⟩
  have hb0 : W0.heap[w.heap.size]? = some (.cells #[.int .u8 (k : Int)] 5 (0, 0)) := by rw [hW0]; exact heap_alloc_new w _
  have g0 : Gr w W0 := by rw [hW0]; exact (Gr.refl w).alloc _
  have hu : RdY W0 (.slice (some ⟨w.heap.size, 0, none⟩) 1 1) [UInt8.ofNat k] := by
    refine ⟨by show 1 ≤ maxLen; decide, .inr ⟨w.heap.size, 0, 1, rfl, ⟨Nat.le_refl _, by decide⟩, lt_of_block hb0, fun i hi => ?_⟩⟩
    obtain rfl : i = 0 := by simp at hi; omega
    rw [blk_cell hb0]
    have h8 : k = 0 ∨ k = 1 := by omega
    rcases h8 with rfl | rfl <;> rfl
  have hpk := pack_any hu gen 0 hg (by omega) (by simp) (fun x hx => by
    have : x = w.heap.size := by simpa [ob, Value.ownBlock] using hx
    subst this
    exact lt_of_block hb0)
  rw [pack_head] at hpk
  have hw8 : IntKind.u8.wrap (k : Int) = (k : Int) := by
    have h8 : k = 0 ∨ k = 1 := by omega
    rcases h8 with rfl | rfl <;> rfl
  have hlt := h.lt
  have hplw := lt_of_block h.blk
  have HH := hide (And.intro h g0)
  clear h g0 hb0 hu
  unfold nameD
  go_enter Tryz.func44, Tryz.ntmps44
  go_upto_region 3 with (
    go_at_call 74
    try rw [← hW0]
    refine hpk.mono ?_; rintro e w2 ⟨v, vs, rfl, hr1, hm1⟩
    obtain ⟨q1, c1, hv1, -⟩ := hr1.shape
    subst hv1
    have H1 := hide (And.intro hr1 hm1)
    clear hr1 hm1 hpk)
  have hlg := HH.out.1.quiet ((HH.out.2.mod []).then H1.out.2)
  obtain ⟨rb, rfl, hrb, hcv, hel⟩ := H1.out.1.at_ 0 (by simp)
  have hsz0 := HH.out.2.size
  have hrbw : W0.heap.size ≤ rb := (H1.out.1.blk rb (by simp [ob, Value.ownBlock])).1
  generalize hsv : vs.getD 0 nilS = sv at hcv hel
  have hsvb : bs ∉ ob sv := fun e => by have := (hel.blk bs e).1; omega
  have hwr := write_any (hlg.dk.mod (Mod.refl [] w2).drew (by simp) (by simp)) 0 (bv := sv) (b := headB gen k) (hel.rd.gr (Gr.refl w2).drew) hsvb
  have hTP : TP pl pd rb 0 sv w2.drew := ⟨blk_cell hlg.blk 0, hcv⟩
  have HM := hide hlg
  have hpr : pl ≠ pd ∧ pl ≠ bs := by omega
  have hrr : rb ≠ pd ∧ rb ≠ bs := by omega
  clear hlg hel hsv hcv hsvb
  refine wpL_start (s := 8) (T := TP pl pd rb 0 sv) (by kernel_rfl) (fun hc => ?_)
  have hT : TP pl pd rb 0 sv w2.drew := hTP
  refine wpL_pure (i := 0) (oi := { dst := some 19, op := Op.move (Operand.tmp 0), type := 26, pos := "ledger.go:45", after := #[], guard := none }) (v := ?_) rfl (by kernel_rfl) (by kernel_rfl) (by kernel_rfl) (fun _ _ _ h => h) (by decide) hc (Or.inl ⟨by rfl, ?_⟩) (fun _ => hT) (fun hc2 => ?_)
  rotate_left
  · (intro w _; go_simp; try with_reducible rfl)
  clear hc; have hc := hc2; clear hc2
  try simp only [Act.put, List.setIfInBounds_toArray, List.set_cons_zero, List.set_cons_succ]
  refine wpL_pure (i := 1) (oi := { dst := some 20, op := Op.nilCheck (Operand.tmp 19), type := 0, pos := "ledger.go:45", after := #[gD 0], guard := none }) (v := ?_) rfl (by kernel_rfl) (by kernel_rfl) (by kernel_rfl) (fun _ _ _ h => h) (by decide) hc (Or.inl ⟨by rfl, ?_⟩) (fun _ => hT) (fun hc2 => ?_)
  rotate_left
  · (intro w _; go_simp; try with_reducible rfl)
  clear hc; have hc := hc2; clear hc2
  try simp only [Act.put, List.setIfInBounds_toArray, List.set_cons_zero, List.set_cons_succ]
  refine wpL_pure (i := 2) (oi := { dst := some 21, op := Op.fieldAddr 80 (Operand.tmp 20) 0, type := 0, pos := "ledger.go:45", after := #[gD 1], guard := none }) (v := ?_) rfl (by kernel_rfl) (by kernel_rfl) (by kernel_rfl) (fun _ _ _ h => h) (by decide) hc (Or.inl ⟨by rfl, ?_⟩) (fun _ => hT) (fun hc2 => ?_)
  rotate_left
  · (intro w _; go_simp; try with_reducible rfl)
  clear hc; have hc := hc2; clear hc2
  try simp only [Act.put, List.setIfInBounds_toArray, List.set_cons_zero, List.set_cons_succ]
  refine wpL_take (T' := TP pl pd rb 0 sv) (i := 3) (oi := { dst := some 22, op := Op.load 22 (Operand.tmp 21), type := 22, pos := "ledger.go:45", after := #[gD 2], guard := none }) (v := ?_) rfl (by kernel_rfl) (by kernel_rfl) (by kernel_rfl) (fun _ _ _ h => h) (by decide) (fun l2 w hc3 hu hs => hs (by
    cases hS : l2.getD 8 false with
    | false => exact getD_in (by rw [hc3.size]; decide) hS
    | true =>
      have a0 := hc3.step (k := 3) (by kernel_rfl) hS
      rw [getD_tf hu] at a0
      cases a0)) hc (Or.inl ⟨by rfl, ?_⟩) (fun _ => hT) (fun hc2 => ?_)
  rotate_left
  · (intro w hSw; have C0 := hSw.1; go_simp; try with_reducible rfl)
  clear hc; have hc := hc2; clear hc2
  try simp only [Act.put, List.setIfInBounds_toArray, List.set_cons_zero, List.set_cons_succ]
  refine wpL_pure (i := 4) (oi := { dst := some 23, op := Op.move (Operand.tmp 7), type := 65, pos := "ledger.go:45", after := #[], guard := none }) (v := ?_) rfl (by kernel_rfl) (by kernel_rfl) (by kernel_rfl) (fun _ _ _ h => h) (by decide) hc (Or.inl ⟨by rfl, ?_⟩) (fun _ => hT) (fun hc2 => ?_)
  rotate_left
  · (intro w _; go_simp; try with_reducible rfl)
  clear hc; have hc := hc2; clear hc2
  try simp only [Act.put, List.setIfInBounds_toArray, List.set_cons_zero, List.set_cons_succ]
  refine wpL_pure (i := 5) (oi := { dst := some 24, op := Op.indexAddr 65 (Operand.tmp 23) (Operand.const (Value.int IntKind.i64 0)), type := 0, pos := "ledger.go:45", after := #[gD 4], guard := none }) (v := ?_) rfl (by kernel_rfl) (by kernel_rfl) (by kernel_rfl) (fun _ _ _ h => h) (by decide) hc (Or.inl ⟨by rfl, ?_⟩) (fun _ => hT) (fun hc2 => ?_)
  rotate_left
  · (intro w _; go_simp; try with_reducible rfl)
  clear hc; have hc := hc2; clear hc2
  try simp only [Act.put, List.setIfInBounds_toArray, List.set_cons_zero, List.set_cons_succ]
  refine wpL_take (T' := TP pl pd rb 0 sv) (i := 6) (oi := { dst := some 25, op := Op.load 71 (Operand.tmp 24), type := 71, pos := "ledger.go:45", after := #[gD 5], guard := none }) (v := ?_) rfl (by kernel_rfl) (by kernel_rfl) (by kernel_rfl) (fun _ _ _ h => h) (by decide) (fun l2 w hc3 hu hs => hs (by
    cases hS : l2.getD 8 false with
    | false => exact getD_in (by rw [hc3.size]; decide) hS
    | true =>
      have a0 := hc3.step (k := 6) (by kernel_rfl) hS
      rw [getD_tf hu] at a0
      cases a0)) hc (Or.inl ⟨by rfl, ?_⟩) (fun _ => hT) (fun hc2 => ?_)
  rotate_left
  · (intro w hSw; have C0 := hSw.2; go_simp; try with_reducible rfl)
  clear hc; have hc := hc2; clear hc2
  try simp only [Act.put, List.setIfInBounds_toArray, List.set_cons_zero, List.set_cons_succ]
  refine wpL_ready (rs := [7]) (by kernel_rfl) (by simp) ?_ hc
  intro i hi hc2
  simp only [List.mem_cons, List.mem_nil_iff, or_false] at hi
  subst hi
  clear hc; have hc := hc2; clear hc2
  refine wpOp_step (o := { dst := some 26, op := Op.call { callee := Callee.value (Operand.func 75), args := #[Operand.tmp 22, Operand.const (Value.int IntKind.i64 0), Operand.tmp 25], argTypes := #[22, 3, 71] }, type := 23, pos := "ledger.go:45", after := #[gD 3, gD 6], guard := none }) rfl (fun K hK => ?_)
  have HK := hide hK
  clear hK
  refine step_call rfl 75 #[.tmp 22, .const (.int .i64 0), .tmp 25] #[22, 3, 71] rfl (enters_of Tryz.func75 (by kernel_rfl) rfl) #[.pointer (some ⟨pd, 0, none⟩), .int .i64 0, sv] (by simp [Act.eval]) ?_
  refine hwr.mono ?_
  rintro e w3 ⟨rfl, hdk3, hm3⟩
  refine ⟨_, rfl, ?_⟩
  have hT2 : TP pl pd rb 0 sv w3 := ⟨hm3.kept hT.1 (by simp; omega), hm3.kept hT.2 (by simp; omega)⟩
  have H3 := hide (And.intro hdk3 hm3)
  clear hdk3 hm3
  refine HK.out _ _ ⟨fun _ => hT2, ?_⟩
  clear HK K hT
  have hT := hT2
  clear hT2
  try simp only [Act.put, List.setIfInBounds_toArray, List.set_cons_zero, List.set_cons_succ]
  refine wpL_ready (rs := [8]) (by kernel_rfl) (by simp) ?_ hc
  intro i hi hc2
  simp only [List.mem_cons, List.mem_nil_iff, or_false] at hi
  subst hi
  clear hc; have hc := hc2; clear hc2
  refine wpOp_step (o := { dst := some 8, op := Op.assign (Operand.tmp 26), type := 23, pos := "ledger.go:45", after := #[gD 7, gC 7, gP 0, gP 1, gP 2, gP 3, gP 4, gP 5, gP 6, gP 7], guard := none }) rfl (fun K hK => ?_)
  have HK := hide hK
  clear hK
  go_simp
  refine HK.out _ _ ⟨fun h => by simp at h, ?_⟩
  clear HK K hT
  have hT := hc.size
  try simp only [Act.put, List.setIfInBounds_toArray, List.set_cons_zero, List.set_cons_succ]
  refine wpL_done (by kernel_rfl) ?_
  clear hT hc
  go_wp2_with fail
  go_ret
  exact ⟨rfl, HM.out.disk H3.out.1 (Mod.then (Mod.refl _ _).drew H3.out.2), ((((HH.out.2.mod []).then H1.out.2).drew.mono (by simp)).then H3.out.2)⟩
end Go.Proofs.YtpphoeimakjjdaaGreatDoor
