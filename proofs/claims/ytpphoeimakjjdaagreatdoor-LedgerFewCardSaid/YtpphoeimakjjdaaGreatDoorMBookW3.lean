/-
  WALKS: layer 11: may it be a book?
-/
import Derived.Test.YtpphoeimakjjdaaGreatDoorMGrM
import Derived.Deep.RegionHeld3
import Derived.Deep.DeepCutAuto
namespace Go.Proofs.YtpphoeimakjjdaaGreatDoor
open Go.RowKit

def aggB (b : Bk) (gv : Value) : Value := .agg #[.int .i64 b.next, .int .i64 b.boots, .int .i64 b.longest, gv]
/-- a book as a value: its grants lie in memory of one's own -/
structure BkM (w : World) (base : Nat) (gv : Value) (b : Bk) (lv : List (Grt × Value)) : Prop where
  gr : GrM w base gv lv
  eq : b.grants = lv.map Prod.fst
theorem BkM.gr' {w w' : World} {base : Nat} {gv : Value} {b : Bk} {lv : List (Grt × Value)} (h : BkM w base gv b lv) (g : Gr w w') : BkM w' base gv b lv := ⟨h.gr.gr g, h.eq⟩
theorem okFrom_take {next : Int} {id : Int} {l : List Grt} {k : Nat} (hk : okFrom next id (l.take k) = true) (hlt : k < l.length)
    (hn : grantB (l.getD k default) = true ∧ lastI (l.getD k default).stamp < next ∧ (∀ x, x ∈ l.take k → x.id < (l.getD k default).id) ∧ id < (l.getD k default).id) : okFrom next id (l.take (k + 1)) = true := by
  have e : l.take (k + 1) = l.take k ++ [l.getD k default] := by rw [List.take_add_one]; simp [hlt]
  rw [e]
  obtain ⟨h1, h2⟩ := okFrom_iff.1 hk
  refine okFrom_iff.2 ⟨fun g hg => ?_, List.pairwise_append.2 ⟨h2, List.pairwise_singleton _ _, fun a ha b hb => ?_⟩⟩
  · rcases List.mem_append.1 hg with hg | hg
    · exact h1 g hg
    · obtain rfl := List.mem_singleton.1 hg
      exact ⟨hn.1, hn.2.1, hn.2.2.2⟩
  · obtain rfl := List.mem_singleton.1 hb
    exact hn.2.2.1 a ha
theorem okFrom_bad {next idp : Int} {l : List Grt} {k : Nat} (hlt : k < l.length) (ha : idp = 0 ∨ ∃ x, x ∈ l.take k ∧ x.id = idp)
    (hn : grantB (l.getD k default) = false ∨ next ≤ lastI (l.getD k default).stamp ∨ (l.getD k default).id ≤ idp) : okFrom next 0 l = false := by
  cases h : okFrom next 0 l with
  | false => rfl
  | true =>
    exfalso
    obtain ⟨h1, h2⟩ := okFrom_iff.1 h
    have hm : l.getD k default ∈ l := by simp [hlt]
    obtain ⟨g1, g2, g3⟩ := h1 _ hm
    rcases hn with hn | hn | hn
    · rw [hn] at g1; cases g1
    · omega
    · rcases ha with ha | ⟨x, hx, rfl⟩
      · omega
      · have e : l = l.take k ++ l.drop k := (List.take_append_drop k l).symm
        rw [e] at h2
        have hd : l.getD k default ∈ l.drop k := by
          rw [List.drop_eq_getElem_cons hlt]
          exact List.mem_cons.2 (.inl (by simp [List.getD, hlt]))
        have := (List.pairwise_append.1 h2).2.2 x hx _ hd
        omega
/-- what the loads of a grant's box and of the book's box find -/
theorem vs_of {X : World} {x p : Nat} {id ho mo te nx bo lo : Int} {pa : ByteArray} {sv gv : Value} (hx : X.heap[x]? = some (.cells #[.int .i64 id, .int .i64 ho, .string pa, .int .i64 mo, sv, .int .i64 te] 40 (0, 0))) (hp : X.heap[p]? = some (.cells #[.int .i64 nx, .int .i64 bo, .int .i64 lo, gv] 34 (0, 0))) {w' : World} (m : Mod [] X w') :
    Mod [] X w' ∧ w'.cell? ⟨x, 0, none⟩ = some (.int .i64 id) ∧ w'.cell? ⟨x, 1, none⟩ = some (.int .i64 ho) ∧ w'.cell? ⟨x, 2, none⟩ = some (.string pa) ∧ w'.cell? ⟨x, 3, none⟩ = some (.int .i64 mo) ∧ w'.cell? ⟨x, 4, none⟩ = some sv ∧ w'.cell? ⟨x, 5, none⟩ = some (.int .i64 te) ∧ w'.cell? ⟨p, 0, none⟩ = some (.int .i64 nx) :=
  ⟨m, blk_cell (m.at_ hx (by simp)) 0, blk_cell (m.at_ hx (by simp)) 1, blk_cell (m.at_ hx (by simp)) 2, blk_cell (m.at_ hx (by simp)) 3, blk_cell (m.at_ hx (by simp)) 4, blk_cell (m.at_ hx (by simp)) 5, blk_cell (m.at_ hp (by simp)) 0⟩
def ValRel (W0 : World) (nx : Int) (gs : List Grt) (u i : Value) (wr : World) : Prop :=
  ∃ (k : Nat) (idp : Int), u = .int .i64 idp ∧ i = .int .i64 (k : Int) ∧ k ≤ gs.length ∧ okFrom nx 0 (gs.take k) = true ∧ (∀ x, x ∈ gs.take k → x.id ≤ idp) ∧ 0 ≤ idp ∧ (idp = 0 ∨ ∃ x, x ∈ gs.take k ∧ x.id = idp) ∧ Mod [] W0 wr
set_option maxHeartbeats 4000000 in
set_option maxRecDepth 100000 in
theorem bvalid_any {w : World} {base : Nat} {gv : Value} {b : Bk} {lv : List (Grt × Value)} (h : BkM w base gv b lv) (hps : ∀ p, p ∈ lv → p.1.path.size ≤ 9223372036854775807) :
    Calls Tryz.prog 79 #[aggB b gv] w fun e w' => e = .returned (.bool (validB b)) ∧ Mod [] w w' := by
  obtain ⟨nx, bo, lo, gs⟩ := b
  have hg := h.gr
  have heq : gs = lv.map Prod.fst := h.eq
  obtain ⟨q, c, rfl, hmx⟩ := hg.shape
  have hmx' : lv.length ≤ 9223372036854775807 := hmx
  have kh := fun (W : World) => heads_any nx bo W
  have kl : ∀ W : World, Calls Tryz.prog 115 #[.int .i64 lo] W fun e w' => e = .returned (.bool (decide (legalT lo))) ∧ w' = W := fun W => legal_any lo W
  obtain ⟨V, hV⟩ : ∃ V, validB ⟨nx, bo, lo, gs⟩ = V := ⟨_, rfl⟩
  rw [hV]
  unfold validB at hV
  simp only at hV
  have hlen : gs.length = lv.length := by rw [heq]; simp
  rw [hlen] at hV
  generalize headsB nx bo = b1 at kh hV
  unfold aggB
  simp only
  have HH := hide (And.intro h (And.intro hps heq))
  clear h hps heq hg hlen
  have HV := hide hV
  clear hV
  by_cases hlo : lo = 0
  · subst hlo
    go_enter Tryz.func79, Tryz.ntmps79
    go_wp2_with (first
      | (go_at_call 114; refine (kh _).mono ?_; rintro e w1 ⟨rfl, rfl⟩)
      | (go_at_call 115; refine (kl _).mono ?_; rintro e w1 ⟨rfl, rfl⟩)
      | fail)
    any_goals (go_ret; exact ⟨by rw [← HV.out]; first | (simp [*]; done) | (simp [*]; intros; omega), (Mod.refl _ _).alloc _⟩)
    have hV2 : okFrom nx 0 gs = V := by
      rw [← HV.out]
      have h6 : lv.length ≤ 6 := by omega
      simp [*]
    obtain ⟨W0, hW0⟩ : ∃ W0, W0 = w.alloc (.cells #[.int .i64 nx, .int .i64 bo, .int .i64 0, .slice q lv.length c] 34 (0, 0)) := ⟨_, rfl⟩
    have hb0 : W0.heap[w.heap.size]? = some (.cells #[.int .i64 nx, .int .i64 bo, .int .i64 0, .slice q lv.length c] 34 (0, 0)) := by rw [hW0]; exact heap_alloc_new w _
    have hgr : Gr w W0 := by rw [hW0]; exact (Gr.refl w).alloc _
    rw [← hW0]
    clear hW0
    have HV2 := hide hV2
    clear hV2
    go_loopw [3, 32] (fun u i wr => ValRel W0 nx gs u i wr) (fun _ i _ => lv.length - (intOf i).toNat)
    case atStart => exact ⟨0, 0, rfl, rfl, Nat.zero_le _, rfl, by simp, Int.le_refl _, .inl rfl, Mod.refl _ _⟩
    case round =>
      obtain ⟨k, idp, rfl, rfl, hk, hok, hall, hid0, hat0, hm⟩ := hrel
      obtain ⟨h, hps, heq⟩ := HH.out
      have hgl : gs.length = lv.length := by rw [heq]; simp
      by_cases hlt : k < lv.length
      · obtain ⟨b, rfl, hbb, hb1, hc, hf, hrd⟩ := ((h.gr.gr hgr).mod hm (by simp)).at_ k hlt
        have hpa := hps _ (show lv.getD k default ∈ lv by simp [hlt])
        have hgk : gs.getD k default = (lv.getD k default).1 := by rw [heq]; simp [hlt]
        have hbk := hm.at_ hb0 (by simp)
        generalize lv.getD k default = pr at hc hrd hpa hgk
        obtain ⟨g, sv⟩ := pr
        simp only at hrd hpa hgk
        have c0 := hc 0 (by decide)
        have c1 := hc 1 (by decide)
        have c2 := hc 2 (by decide)
        have c3 := hc 3 (by decide)
        have c4 := hc 4 (by decide)
        have c5 := hc 5 (by decide)
        simp [encG, cellsG] at c0 c1 c2 c3 c4 c5
        have km := fun {W : World} (m : Mod [] wr W) => mayGrant_any (g := g) (hrd.mod m (by simp)) hpa
        have kn := fun {W : World} (m : Mod [] wr W) => newest_any (hrd.mod m (by simp))
        obtain ⟨qs, cs, rfl⟩ := hrd.len
        have HG := hide hgk
        have hbx := heap_alloc_new wr (.cells (cellsG g (.slice qs g.stamp.length cs)).toArray 40 (0, 0))
        have hmX : Mod [] wr (wr.alloc (.cells (cellsG g (.slice qs g.stamp.length cs)).toArray 40 (0, 0))) := (Mod.refl _ _).alloc _
        have HX := hide (And.intro hbx (And.intro (blk_alloc hbk (.cells (cellsG g (.slice qs g.stamp.length cs)).toArray 40 (0, 0))) hmX))
        clear hc hgk hps h hbx hmX
        obtain ⟨id, ho, pa, mo, st, te⟩ := g
        simp only at c0 c1 c2 c3 c4 c5 hpa hrd kn
        generalize hG : grantB ⟨id, ho, pa, mo, st, te⟩ = G at km
        generalize hN : lastI st = n at kn
        unfold aggG cellsG at km
        simp only at km
        have HGN := hide (And.intro hG hN)
        clear hG hN
        unfold cellsG at HX
        simp only at HX
        obtain ⟨X, hX⟩ : ∃ X, X = wr.alloc (.cells #[.int .i64 id, .int .i64 ho, .string pa, .int .i64 mo, .slice qs st.length cs, .int .i64 te] 40 (0, 0)) := ⟨_, rfl⟩
        have HX2 : Hid (X.heap[wr.heap.size]? = some (.cells #[.int .i64 id, .int .i64 ho, .string pa, .int .i64 mo, .slice qs st.length cs, .int .i64 te] 40 (0, 0)) ∧ X.heap[w.heap.size]? = some (.cells #[.int .i64 nx, .int .i64 bo, .int .i64 0, .slice (some ⟨b, 0, none⟩) lv.length c] 34 (0, 0)) ∧ Mod [] wr X) := by rw [hX]; exact HX
        clear HX
        have t7 := hide trivial
        have t8 := hide trivial
        go_upto_region 7 with fail
        rw [← hX]
        clear hX c0 c1 c2 c3 c4 c5
        cases G with
        | false =>
          refine wp_region_held_drew (S := fun w' => Mod [] X w' ∧ w'.cell? ⟨wr.heap.size, 0, none⟩ = some (.int .i64 id) ∧ w'.cell? ⟨wr.heap.size, 1, none⟩ = some (.int .i64 ho) ∧ w'.cell? ⟨wr.heap.size, 2, none⟩ = some (.string pa) ∧ w'.cell? ⟨wr.heap.size, 3, none⟩ = some (.int .i64 mo) ∧ w'.cell? ⟨wr.heap.size, 4, none⟩ = some (.slice qs st.length cs) ∧ w'.cell? ⟨wr.heap.size, 5, none⟩ = some (.int .i64 te) ∧ w'.cell? ⟨w.heap.size, 0, none⟩ = some (.int .i64 nx)) (by kernel_rfl) ?_ (fun hHeld => ?_)
          · exact vs_of HX2.out.1 HX2.out.2.1 ((Mod.refl [] X).drew)
          refine wpAnyH_take (i := 0) (oi := { dst := some 36, op := Op.load 40 (Operand.tmp 5), type := 40, pos := "book.go:45", after := #[], guard := none }) (v := ?_) rfl (by kernel_rfl) (by kernel_rfl) (by kernel_rfl) (fun _ _ _ h => h) (Or.inl ⟨by rfl, ?_⟩) (by assumption) ?_
          rotate_left
          · (intro w hSw; (try dsimp only at hSw); go_simp; try with_reducible rfl)
          try simp only [Act.put, List.setIfInBounds_toArray, List.set_cons_zero, List.set_cons_succ]
          refine wpAnyH_ready (rs := [1]) (by kernel_rfl) (by simp) ?_
          refine AllReadyH.cons (o := { dst := some 37, op := Op.call { callee := Callee.value (Operand.func 116), args := #[Operand.tmp 36], argTypes := #[40] }, type := 4, pos := "book.go:45", after := #[gD 0], guard := none }) rfl (fun K hK => ?_) AllReadyH.nil
          go_simp
          refine (km (HX2.out.2.2.then hHeld.1)).mono ?_; rintro e x7 ⟨rfl, m7⟩; have m8 := hHeld.1.then m7
          refine hK.out _ _ ?_ (fun hHeld => ?_)
          · exact vs_of HX2.out.1 HX2.out.2.1 m8
          clear hK K
          try simp only [Act.put, List.setIfInBounds_toArray, List.set_cons_zero, List.set_cons_succ]
          refine wpAnyH_take (i := 2) (oi := { dst := some 38, op := Op.unOp UnOp.not 4 (Operand.tmp 37), type := 4, pos := "book.go:45", after := #[gD 1], guard := none }) (v := ?_) rfl (by kernel_rfl) (by kernel_rfl) (by kernel_rfl) (fun _ _ _ h => h) (Or.inl ⟨by rfl, ?_⟩) (by assumption) ?_
          rotate_left
          · (intro w hSw; (try dsimp only at hSw); go_simp; try with_reducible rfl)
          try simp only [Act.put, List.setIfInBounds_toArray, List.set_cons_zero, List.set_cons_succ]
          refine wpAnyH_take (i := 3) (oi := { dst := some 39, op := Op.move (Operand.tmp 38), type := 4, pos := "book.go:45", after := #[gD 2, gC 1], guard := none }) (v := ?_) rfl (by kernel_rfl) (by kernel_rfl) (by kernel_rfl) (fun _ _ _ h => h) (Or.inl ⟨by rfl, ?_⟩) (by assumption) ?_
          rotate_left
          · (intro w hSw; (try dsimp only at hSw); go_simp; try with_reducible rfl)
          try simp only [Act.put, List.setIfInBounds_toArray, List.set_cons_zero, List.set_cons_succ]
          refine wpAnyH_take (i := 4) (oi := { dst := some 40, op := Op.fieldAddr 40 (Operand.tmp 5) 4, type := 0, pos := "book.go:45", after := #[{ on := 3, ground := Ground.guard }], guard := some (3, false) }) rfl (by kernel_rfl) (by kernel_rfl) (by kernel_rfl) (fun _ _ _ h => h) (Or.inr ⟨by rfl, rfl⟩) (by assumption) ?_
          try simp only [Act.put, List.setIfInBounds_toArray, List.set_cons_zero, List.set_cons_succ]
          refine wpAnyH_take (i := 5) (oi := { dst := some 41, op := Op.load 38 (Operand.tmp 40), type := 38, pos := "book.go:45", after := #[gD 4, { on := 3, ground := Ground.guard }], guard := some (3, false) }) rfl (by kernel_rfl) (by kernel_rfl) (by kernel_rfl) (fun _ _ _ h => h) (Or.inr ⟨by rfl, rfl⟩) (by assumption) ?_
          try simp only [Act.put, List.setIfInBounds_toArray, List.set_cons_zero, List.set_cons_succ]
          refine wpAnyH_take (i := 6) (oi := { dst := some 42, op := Op.call { callee := Callee.value (Operand.func 117), args := #[Operand.tmp 41], argTypes := #[38] }, type := 3, pos := "book.go:45", after := #[gD 5, gC 3, { on := 3, ground := Ground.guard }], guard := some (3, false) }) rfl (by kernel_rfl) (by kernel_rfl) (by kernel_rfl) (fun _ _ _ h => h) (Or.inr ⟨by rfl, rfl⟩) (by assumption) ?_
          try simp only [Act.put, List.setIfInBounds_toArray, List.set_cons_zero, List.set_cons_succ]
          refine wpAnyH_take (i := 7) (oi := { dst := some 43, op := Op.fieldAddr 34 (Operand.tmp 1) 0, type := 0, pos := "book.go:45", after := #[{ on := 3, ground := Ground.guard }], guard := some (3, false) }) rfl (by kernel_rfl) (by kernel_rfl) (by kernel_rfl) (fun _ _ _ h => h) (Or.inr ⟨by rfl, rfl⟩) (by assumption) ?_
          try simp only [Act.put, List.setIfInBounds_toArray, List.set_cons_zero, List.set_cons_succ]
          refine wpAnyH_take (i := 8) (oi := { dst := some 44, op := Op.load 3 (Operand.tmp 43), type := 3, pos := "book.go:45", after := #[gD 7, { on := 3, ground := Ground.guard }], guard := some (3, false) }) rfl (by kernel_rfl) (by kernel_rfl) (by kernel_rfl) (fun _ _ _ h => h) (Or.inr ⟨by rfl, rfl⟩) (by assumption) ?_
          try simp only [Act.put, List.setIfInBounds_toArray, List.set_cons_zero, List.set_cons_succ]
          refine wpAnyH_take (i := 9) (oi := { dst := some 45, op := Op.binOp BinOp.geq 3 (Operand.tmp 42) (Operand.tmp 44) 3, type := 4, pos := "book.go:45", after := #[gD 6, gD 8, { on := 3, ground := Ground.guard }], guard := some (3, false) }) rfl (by kernel_rfl) (by kernel_rfl) (by kernel_rfl) (fun _ _ _ h => h) (Or.inr ⟨by rfl, rfl⟩) (by assumption) ?_
          try simp only [Act.put, List.setIfInBounds_toArray, List.set_cons_zero, List.set_cons_succ]
          refine wpAnyH_take (i := 10) (oi := { dst := some 46, op := Op.pick (Operand.tmp 39) (Operand.const (Value.bool true)) (Operand.tmp 45), type := 4, pos := "book.go:45", after := #[gD 3, gD 9], guard := none }) (v := ?_) rfl (by kernel_rfl) (by kernel_rfl) (by kernel_rfl) (fun _ _ _ h => h) (Or.inl ⟨by rfl, ?_⟩) (by assumption) ?_
          rotate_left
          · (intro w hSw; (try dsimp only at hSw); go_simp; try with_reducible rfl)
          try simp only [Act.put, List.setIfInBounds_toArray, List.set_cons_zero, List.set_cons_succ]
          refine wpAnyH_take (i := 11) (oi := { dst := some 47, op := Op.move (Operand.tmp 46), type := 4, pos := "book.go:45", after := #[gD 10, gC 6], guard := none }) (v := ?_) rfl (by kernel_rfl) (by kernel_rfl) (by kernel_rfl) (fun _ _ _ h => h) (Or.inl ⟨by rfl, ?_⟩) (by assumption) ?_
          rotate_left
          · (intro w hSw; (try dsimp only at hSw); go_simp; try with_reducible rfl)
          try simp only [Act.put, List.setIfInBounds_toArray, List.set_cons_zero, List.set_cons_succ]
          refine wpAnyH_take (i := 12) (oi := { dst := some 48, op := Op.fieldAddr 40 (Operand.tmp 5) 0, type := 0, pos := "book.go:45", after := #[{ on := 11, ground := Ground.guard }], guard := some (11, false) }) rfl (by kernel_rfl) (by kernel_rfl) (by kernel_rfl) (fun _ _ _ h => h) (Or.inr ⟨by rfl, rfl⟩) (by assumption) ?_
          try simp only [Act.put, List.setIfInBounds_toArray, List.set_cons_zero, List.set_cons_succ]
          refine wpAnyH_take (i := 13) (oi := { dst := some 49, op := Op.load 3 (Operand.tmp 48), type := 3, pos := "book.go:45", after := #[gD 12, { on := 11, ground := Ground.guard }], guard := some (11, false) }) rfl (by kernel_rfl) (by kernel_rfl) (by kernel_rfl) (fun _ _ _ h => h) (Or.inr ⟨by rfl, rfl⟩) (by assumption) ?_
          try simp only [Act.put, List.setIfInBounds_toArray, List.set_cons_zero, List.set_cons_succ]
          refine wpAnyH_take (i := 14) (oi := { dst := some 50, op := Op.move (Operand.tmp 3), type := 3, pos := "book.go:45", after := #[{ on := 11, ground := Ground.guard }], guard := some (11, false) }) rfl (by kernel_rfl) (by kernel_rfl) (by kernel_rfl) (fun _ _ _ h => h) (Or.inr ⟨by rfl, rfl⟩) (by assumption) ?_
          try simp only [Act.put, List.setIfInBounds_toArray, List.set_cons_zero, List.set_cons_succ]
          refine wpAnyH_take (i := 15) (oi := { dst := some 51, op := Op.binOp BinOp.leq 3 (Operand.tmp 49) (Operand.tmp 50) 3, type := 4, pos := "book.go:45", after := #[gD 13, gD 14, { on := 11, ground := Ground.guard }], guard := some (11, false) }) rfl (by kernel_rfl) (by kernel_rfl) (by kernel_rfl) (fun _ _ _ h => h) (Or.inr ⟨by rfl, rfl⟩) (by assumption) ?_
          try simp only [Act.put, List.setIfInBounds_toArray, List.set_cons_zero, List.set_cons_succ]
          refine wpAnyH_take (i := 16) (oi := { dst := some 52, op := Op.pick (Operand.tmp 47) (Operand.const (Value.bool true)) (Operand.tmp 51), type := 4, pos := "book.go:45", after := #[gD 11, gD 15], guard := none }) (v := ?_) rfl (by kernel_rfl) (by kernel_rfl) (by kernel_rfl) (fun _ _ _ h => h) (Or.inl ⟨by rfl, ?_⟩) (by assumption) ?_
          rotate_left
          · (intro w hSw; (try dsimp only at hSw); go_simp; try with_reducible rfl)
          try simp only [Act.put, List.setIfInBounds_toArray, List.set_cons_zero, List.set_cons_succ]
          refine wpAnyH_done (by kernel_rfl) ?_ _
          go_wp2_with fail
          go_ret
          exact ⟨by rw [← HV2.out, okFrom_bad (k := k) (by omega) hat0 (by rw [HG.out]; exact .inl HGN.out.1)]; rfl, (((hgr.mod []).then hm).then HX2.out.2.2).then m8⟩
        | true =>
          by_cases hn : nx ≤ n
          · have dn : decide (nx ≤ n) = true := decide_eq_true hn
            refine wp_region_held_drew (S := fun w' => Mod [] X w' ∧ w'.cell? ⟨wr.heap.size, 0, none⟩ = some (.int .i64 id) ∧ w'.cell? ⟨wr.heap.size, 1, none⟩ = some (.int .i64 ho) ∧ w'.cell? ⟨wr.heap.size, 2, none⟩ = some (.string pa) ∧ w'.cell? ⟨wr.heap.size, 3, none⟩ = some (.int .i64 mo) ∧ w'.cell? ⟨wr.heap.size, 4, none⟩ = some (.slice qs st.length cs) ∧ w'.cell? ⟨wr.heap.size, 5, none⟩ = some (.int .i64 te) ∧ w'.cell? ⟨w.heap.size, 0, none⟩ = some (.int .i64 nx)) (by kernel_rfl) ?_ (fun hHeld => ?_)
            · exact vs_of HX2.out.1 HX2.out.2.1 ((Mod.refl [] X).drew)
            refine wpAnyH_take (i := 0) (oi := { dst := some 36, op := Op.load 40 (Operand.tmp 5), type := 40, pos := "book.go:45", after := #[], guard := none }) (v := ?_) rfl (by kernel_rfl) (by kernel_rfl) (by kernel_rfl) (fun _ _ _ h => h) (Or.inl ⟨by rfl, ?_⟩) (by assumption) ?_
            rotate_left
            · (intro w hSw; (try dsimp only at hSw); go_simp; try with_reducible rfl)
            try simp only [Act.put, List.setIfInBounds_toArray, List.set_cons_zero, List.set_cons_succ]
            refine wpAnyH_ready (rs := [1]) (by kernel_rfl) (by simp) ?_
            refine AllReadyH.cons (o := { dst := some 37, op := Op.call { callee := Callee.value (Operand.func 116), args := #[Operand.tmp 36], argTypes := #[40] }, type := 4, pos := "book.go:45", after := #[gD 0], guard := none }) rfl (fun K hK => ?_) AllReadyH.nil
            go_simp
            refine (km (HX2.out.2.2.then hHeld.1)).mono ?_; rintro e x7 ⟨rfl, m7⟩; have m8 := hHeld.1.then m7
            refine hK.out _ _ ?_ (fun hHeld => ?_)
            · exact vs_of HX2.out.1 HX2.out.2.1 m8
            clear hK K
            try simp only [Act.put, List.setIfInBounds_toArray, List.set_cons_zero, List.set_cons_succ]
            refine wpAnyH_take (i := 2) (oi := { dst := some 38, op := Op.unOp UnOp.not 4 (Operand.tmp 37), type := 4, pos := "book.go:45", after := #[gD 1], guard := none }) (v := ?_) rfl (by kernel_rfl) (by kernel_rfl) (by kernel_rfl) (fun _ _ _ h => h) (Or.inl ⟨by rfl, ?_⟩) (by assumption) ?_
            rotate_left
            · (intro w hSw; (try dsimp only at hSw); go_simp; try with_reducible rfl)
            try simp only [Act.put, List.setIfInBounds_toArray, List.set_cons_zero, List.set_cons_succ]
            refine wpAnyH_take (i := 3) (oi := { dst := some 39, op := Op.move (Operand.tmp 38), type := 4, pos := "book.go:45", after := #[gD 2, gC 1], guard := none }) (v := ?_) rfl (by kernel_rfl) (by kernel_rfl) (by kernel_rfl) (fun _ _ _ h => h) (Or.inl ⟨by rfl, ?_⟩) (by assumption) ?_
            rotate_left
            · (intro w hSw; (try dsimp only at hSw); go_simp; try with_reducible rfl)
            try simp only [Act.put, List.setIfInBounds_toArray, List.set_cons_zero, List.set_cons_succ]
            refine wpAnyH_take (i := 4) (oi := { dst := some 40, op := Op.fieldAddr 40 (Operand.tmp 5) 4, type := 0, pos := "book.go:45", after := #[{ on := 3, ground := Ground.guard }], guard := some (3, false) }) (v := ?_) rfl (by kernel_rfl) (by kernel_rfl) (by kernel_rfl) (fun _ _ _ h => h) (Or.inl ⟨by rfl, ?_⟩) (by assumption) ?_
            rotate_left
            · (intro w hSw; (try dsimp only at hSw); go_simp; try with_reducible rfl)
            try simp only [Act.put, List.setIfInBounds_toArray, List.set_cons_zero, List.set_cons_succ]
            refine wpAnyH_take (i := 5) (oi := { dst := some 41, op := Op.load 38 (Operand.tmp 40), type := 38, pos := "book.go:45", after := #[gD 4, { on := 3, ground := Ground.guard }], guard := some (3, false) }) (v := ?_) rfl (by kernel_rfl) (by kernel_rfl) (by kernel_rfl) (fun _ _ _ h => h) (Or.inl ⟨by rfl, ?_⟩) (by assumption) ?_
            rotate_left
            · (intro w hSw; (try dsimp only at hSw); go_simp; try with_reducible rfl)
            try simp only [Act.put, List.setIfInBounds_toArray, List.set_cons_zero, List.set_cons_succ]
            refine wpAnyH_take (i := 7) (oi := { dst := some 43, op := Op.fieldAddr 34 (Operand.tmp 1) 0, type := 0, pos := "book.go:45", after := #[{ on := 3, ground := Ground.guard }], guard := some (3, false) }) (v := ?_) rfl (by kernel_rfl) (by kernel_rfl) (by kernel_rfl) (fun _ _ _ h => h) (Or.inl ⟨by rfl, ?_⟩) (by assumption) ?_
            rotate_left
            · (intro w hSw; (try dsimp only at hSw); go_simp; try with_reducible rfl)
            try simp only [Act.put, List.setIfInBounds_toArray, List.set_cons_zero, List.set_cons_succ]
            refine wpAnyH_take (i := 8) (oi := { dst := some 44, op := Op.load 3 (Operand.tmp 43), type := 3, pos := "book.go:45", after := #[gD 7, { on := 3, ground := Ground.guard }], guard := some (3, false) }) (v := ?_) rfl (by kernel_rfl) (by kernel_rfl) (by kernel_rfl) (fun _ _ _ h => h) (Or.inl ⟨by rfl, ?_⟩) (by assumption) ?_
            rotate_left
            · (intro w hSw; (try dsimp only at hSw); go_simp; try with_reducible rfl)
            try simp only [Act.put, List.setIfInBounds_toArray, List.set_cons_zero, List.set_cons_succ]
            refine wpAnyH_ready (rs := [6]) (by kernel_rfl) (by simp) ?_
            refine AllReadyH.cons (o := { dst := some 42, op := Op.call { callee := Callee.value (Operand.func 117), args := #[Operand.tmp 41], argTypes := #[38] }, type := 3, pos := "book.go:45", after := #[gD 5, gC 3, { on := 3, ground := Ground.guard }], guard := some (3, false) }) rfl (fun K hK => ?_) AllReadyH.nil
            go_simp
            refine (kn (HX2.out.2.2.then hHeld.1)).mono ?_; rintro e x8 ⟨rfl, rfl⟩; have m9 := hHeld.1
            refine hK.out _ _ ?_ (fun hHeld => ?_)
            · exact vs_of HX2.out.1 HX2.out.2.1 m9
            clear hK K
            try simp only [Act.put, List.setIfInBounds_toArray, List.set_cons_zero, List.set_cons_succ]
            refine wpAnyH_take (i := 9) (oi := { dst := some 45, op := Op.binOp BinOp.geq 3 (Operand.tmp 42) (Operand.tmp 44) 3, type := 4, pos := "book.go:45", after := #[gD 6, gD 8, { on := 3, ground := Ground.guard }], guard := some (3, false) }) (v := ?_) rfl (by kernel_rfl) (by kernel_rfl) (by kernel_rfl) (fun _ _ _ h => h) (Or.inl ⟨by rfl, ?_⟩) (by assumption) ?_
            rotate_left
            · (intro w hSw; (try dsimp only at hSw); go_simp; try with_reducible rfl)
            try simp only [Act.put, List.setIfInBounds_toArray, List.set_cons_zero, List.set_cons_succ]
            refine wpAnyH_take (i := 10) (oi := { dst := some 46, op := Op.pick (Operand.tmp 39) (Operand.const (Value.bool true)) (Operand.tmp 45), type := 4, pos := "book.go:45", after := #[gD 3, gD 9], guard := none }) (v := ?_) rfl (by kernel_rfl) (by kernel_rfl) (by kernel_rfl) (fun _ _ _ h => h) (Or.inl ⟨by rfl, ?_⟩) (by assumption) ?_
            rotate_left
            · (intro w hSw; (try dsimp only at hSw); go_simp; try with_reducible rfl)
            try simp only [Act.put, List.setIfInBounds_toArray, List.set_cons_zero, List.set_cons_succ]
            refine wpAnyH_take (i := 11) (oi := { dst := some 47, op := Op.move (Operand.tmp 46), type := 4, pos := "book.go:45", after := #[gD 10, gC 6], guard := none }) (v := ?_) rfl (by kernel_rfl) (by kernel_rfl) (by kernel_rfl) (fun _ _ _ h => h) (Or.inl ⟨by rfl, ?_⟩) (by assumption) ?_
            rotate_left
            · (intro w hSw; (try dsimp only at hSw); go_simp; try with_reducible rfl)
            try simp only [Act.put, List.setIfInBounds_toArray, List.set_cons_zero, List.set_cons_succ]
            refine wpAnyH_take (i := 12) (oi := { dst := some 48, op := Op.fieldAddr 40 (Operand.tmp 5) 0, type := 0, pos := "book.go:45", after := #[{ on := 11, ground := Ground.guard }], guard := some (11, false) }) rfl (by kernel_rfl) (by kernel_rfl) (by kernel_rfl) (fun _ _ _ h => h) (Or.inr ⟨by rfl, rfl⟩) (by assumption) ?_
            try simp only [Act.put, List.setIfInBounds_toArray, List.set_cons_zero, List.set_cons_succ]
            refine wpAnyH_take (i := 13) (oi := { dst := some 49, op := Op.load 3 (Operand.tmp 48), type := 3, pos := "book.go:45", after := #[gD 12, { on := 11, ground := Ground.guard }], guard := some (11, false) }) rfl (by kernel_rfl) (by kernel_rfl) (by kernel_rfl) (fun _ _ _ h => h) (Or.inr ⟨by rfl, rfl⟩) (by assumption) ?_
            try simp only [Act.put, List.setIfInBounds_toArray, List.set_cons_zero, List.set_cons_succ]
            refine wpAnyH_take (i := 14) (oi := { dst := some 50, op := Op.move (Operand.tmp 3), type := 3, pos := "book.go:45", after := #[{ on := 11, ground := Ground.guard }], guard := some (11, false) }) rfl (by kernel_rfl) (by kernel_rfl) (by kernel_rfl) (fun _ _ _ h => h) (Or.inr ⟨by rfl, rfl⟩) (by assumption) ?_
            try simp only [Act.put, List.setIfInBounds_toArray, List.set_cons_zero, List.set_cons_succ]
            refine wpAnyH_take (i := 15) (oi := { dst := some 51, op := Op.binOp BinOp.leq 3 (Operand.tmp 49) (Operand.tmp 50) 3, type := 4, pos := "book.go:45", after := #[gD 13, gD 14, { on := 11, ground := Ground.guard }], guard := some (11, false) }) rfl (by kernel_rfl) (by kernel_rfl) (by kernel_rfl) (fun _ _ _ h => h) (Or.inr ⟨by rfl, rfl⟩) (by assumption) ?_
            try simp only [Act.put, List.setIfInBounds_toArray, List.set_cons_zero, List.set_cons_succ]
            refine wpAnyH_take (i := 16) (oi := { dst := some 52, op := Op.pick (Operand.tmp 47) (Operand.const (Value.bool true)) (Operand.tmp 51), type := 4, pos := "book.go:45", after := #[gD 11, gD 15], guard := none }) (v := ?_) rfl (by kernel_rfl) (by kernel_rfl) (by kernel_rfl) (fun _ _ _ h => h) (Or.inl ⟨by rfl, ?_⟩) (by assumption) ?_
            rotate_left
            · (intro w hSw; (try dsimp only at hSw); go_simp; try with_reducible rfl)
            try simp only [Act.put, List.setIfInBounds_toArray, List.set_cons_zero, List.set_cons_succ]
            refine wpAnyH_done (by kernel_rfl) ?_ _
            go_wp2_with fail
            go_ret
            exact ⟨by rw [← HV2.out, okFrom_bad (k := k) (by omega) hat0 (by rw [HG.out]; exact .inr (.inl (by rw [HGN.out.2]; exact hn)))]; rfl, (((hgr.mod []).then hm).then HX2.out.2.2).then m9⟩
          · have dn : decide (nx ≤ n) = false := decide_eq_false hn
            by_cases hi : id ≤ idp
            · have di : decide (id ≤ idp) = true := decide_eq_true hi
              refine wp_region_held_drew (S := fun w' => Mod [] X w' ∧ w'.cell? ⟨wr.heap.size, 0, none⟩ = some (.int .i64 id) ∧ w'.cell? ⟨wr.heap.size, 1, none⟩ = some (.int .i64 ho) ∧ w'.cell? ⟨wr.heap.size, 2, none⟩ = some (.string pa) ∧ w'.cell? ⟨wr.heap.size, 3, none⟩ = some (.int .i64 mo) ∧ w'.cell? ⟨wr.heap.size, 4, none⟩ = some (.slice qs st.length cs) ∧ w'.cell? ⟨wr.heap.size, 5, none⟩ = some (.int .i64 te) ∧ w'.cell? ⟨w.heap.size, 0, none⟩ = some (.int .i64 nx)) (by kernel_rfl) ?_ (fun hHeld => ?_)
              · exact vs_of HX2.out.1 HX2.out.2.1 ((Mod.refl [] X).drew)
              refine wpAnyH_take (i := 0) (oi := { dst := some 36, op := Op.load 40 (Operand.tmp 5), type := 40, pos := "book.go:45", after := #[], guard := none }) (v := ?_) rfl (by kernel_rfl) (by kernel_rfl) (by kernel_rfl) (fun _ _ _ h => h) (Or.inl ⟨by rfl, ?_⟩) (by assumption) ?_
              rotate_left
              · (intro w hSw; (try dsimp only at hSw); go_simp; try with_reducible rfl)
              try simp only [Act.put, List.setIfInBounds_toArray, List.set_cons_zero, List.set_cons_succ]
              refine wpAnyH_ready (rs := [1]) (by kernel_rfl) (by simp) ?_
              refine AllReadyH.cons (o := { dst := some 37, op := Op.call { callee := Callee.value (Operand.func 116), args := #[Operand.tmp 36], argTypes := #[40] }, type := 4, pos := "book.go:45", after := #[gD 0], guard := none }) rfl (fun K hK => ?_) AllReadyH.nil
              go_simp
              refine (km (HX2.out.2.2.then hHeld.1)).mono ?_; rintro e x7 ⟨rfl, m7⟩; have m8 := hHeld.1.then m7
              refine hK.out _ _ ?_ (fun hHeld => ?_)
              · exact vs_of HX2.out.1 HX2.out.2.1 m8
              clear hK K
              try simp only [Act.put, List.setIfInBounds_toArray, List.set_cons_zero, List.set_cons_succ]
              refine wpAnyH_take (i := 2) (oi := { dst := some 38, op := Op.unOp UnOp.not 4 (Operand.tmp 37), type := 4, pos := "book.go:45", after := #[gD 1], guard := none }) (v := ?_) rfl (by kernel_rfl) (by kernel_rfl) (by kernel_rfl) (fun _ _ _ h => h) (Or.inl ⟨by rfl, ?_⟩) (by assumption) ?_
              rotate_left
              · (intro w hSw; (try dsimp only at hSw); go_simp; try with_reducible rfl)
              try simp only [Act.put, List.setIfInBounds_toArray, List.set_cons_zero, List.set_cons_succ]
              refine wpAnyH_take (i := 3) (oi := { dst := some 39, op := Op.move (Operand.tmp 38), type := 4, pos := "book.go:45", after := #[gD 2, gC 1], guard := none }) (v := ?_) rfl (by kernel_rfl) (by kernel_rfl) (by kernel_rfl) (fun _ _ _ h => h) (Or.inl ⟨by rfl, ?_⟩) (by assumption) ?_
              rotate_left
              · (intro w hSw; (try dsimp only at hSw); go_simp; try with_reducible rfl)
              try simp only [Act.put, List.setIfInBounds_toArray, List.set_cons_zero, List.set_cons_succ]
              refine wpAnyH_take (i := 4) (oi := { dst := some 40, op := Op.fieldAddr 40 (Operand.tmp 5) 4, type := 0, pos := "book.go:45", after := #[{ on := 3, ground := Ground.guard }], guard := some (3, false) }) (v := ?_) rfl (by kernel_rfl) (by kernel_rfl) (by kernel_rfl) (fun _ _ _ h => h) (Or.inl ⟨by rfl, ?_⟩) (by assumption) ?_
              rotate_left
              · (intro w hSw; (try dsimp only at hSw); go_simp; try with_reducible rfl)
              try simp only [Act.put, List.setIfInBounds_toArray, List.set_cons_zero, List.set_cons_succ]
              refine wpAnyH_take (i := 5) (oi := { dst := some 41, op := Op.load 38 (Operand.tmp 40), type := 38, pos := "book.go:45", after := #[gD 4, { on := 3, ground := Ground.guard }], guard := some (3, false) }) (v := ?_) rfl (by kernel_rfl) (by kernel_rfl) (by kernel_rfl) (fun _ _ _ h => h) (Or.inl ⟨by rfl, ?_⟩) (by assumption) ?_
              rotate_left
              · (intro w hSw; (try dsimp only at hSw); go_simp; try with_reducible rfl)
              try simp only [Act.put, List.setIfInBounds_toArray, List.set_cons_zero, List.set_cons_succ]
              refine wpAnyH_take (i := 7) (oi := { dst := some 43, op := Op.fieldAddr 34 (Operand.tmp 1) 0, type := 0, pos := "book.go:45", after := #[{ on := 3, ground := Ground.guard }], guard := some (3, false) }) (v := ?_) rfl (by kernel_rfl) (by kernel_rfl) (by kernel_rfl) (fun _ _ _ h => h) (Or.inl ⟨by rfl, ?_⟩) (by assumption) ?_
              rotate_left
              · (intro w hSw; (try dsimp only at hSw); go_simp; try with_reducible rfl)
              try simp only [Act.put, List.setIfInBounds_toArray, List.set_cons_zero, List.set_cons_succ]
              refine wpAnyH_take (i := 8) (oi := { dst := some 44, op := Op.load 3 (Operand.tmp 43), type := 3, pos := "book.go:45", after := #[gD 7, { on := 3, ground := Ground.guard }], guard := some (3, false) }) (v := ?_) rfl (by kernel_rfl) (by kernel_rfl) (by kernel_rfl) (fun _ _ _ h => h) (Or.inl ⟨by rfl, ?_⟩) (by assumption) ?_
              rotate_left
              · (intro w hSw; (try dsimp only at hSw); go_simp; try with_reducible rfl)
              try simp only [Act.put, List.setIfInBounds_toArray, List.set_cons_zero, List.set_cons_succ]
              refine wpAnyH_ready (rs := [6]) (by kernel_rfl) (by simp) ?_
              refine AllReadyH.cons (o := { dst := some 42, op := Op.call { callee := Callee.value (Operand.func 117), args := #[Operand.tmp 41], argTypes := #[38] }, type := 3, pos := "book.go:45", after := #[gD 5, gC 3, { on := 3, ground := Ground.guard }], guard := some (3, false) }) rfl (fun K hK => ?_) AllReadyH.nil
              go_simp
              refine (kn (HX2.out.2.2.then hHeld.1)).mono ?_; rintro e x8 ⟨rfl, rfl⟩; have m9 := hHeld.1
              refine hK.out _ _ ?_ (fun hHeld => ?_)
              · exact vs_of HX2.out.1 HX2.out.2.1 m9
              clear hK K
              try simp only [Act.put, List.setIfInBounds_toArray, List.set_cons_zero, List.set_cons_succ]
              refine wpAnyH_take (i := 9) (oi := { dst := some 45, op := Op.binOp BinOp.geq 3 (Operand.tmp 42) (Operand.tmp 44) 3, type := 4, pos := "book.go:45", after := #[gD 6, gD 8, { on := 3, ground := Ground.guard }], guard := some (3, false) }) (v := ?_) rfl (by kernel_rfl) (by kernel_rfl) (by kernel_rfl) (fun _ _ _ h => h) (Or.inl ⟨by rfl, ?_⟩) (by assumption) ?_
              rotate_left
              · (intro w hSw; (try dsimp only at hSw); go_simp; try with_reducible rfl)
              try simp only [Act.put, List.setIfInBounds_toArray, List.set_cons_zero, List.set_cons_succ]
              refine wpAnyH_take (i := 10) (oi := { dst := some 46, op := Op.pick (Operand.tmp 39) (Operand.const (Value.bool true)) (Operand.tmp 45), type := 4, pos := "book.go:45", after := #[gD 3, gD 9], guard := none }) (v := ?_) rfl (by kernel_rfl) (by kernel_rfl) (by kernel_rfl) (fun _ _ _ h => h) (Or.inl ⟨by rfl, ?_⟩) (by assumption) ?_
              rotate_left
              · (intro w hSw; (try dsimp only at hSw); go_simp; try with_reducible rfl)
              try simp only [Act.put, List.setIfInBounds_toArray, List.set_cons_zero, List.set_cons_succ]
              refine wpAnyH_take (i := 11) (oi := { dst := some 47, op := Op.move (Operand.tmp 46), type := 4, pos := "book.go:45", after := #[gD 10, gC 6], guard := none }) (v := ?_) rfl (by kernel_rfl) (by kernel_rfl) (by kernel_rfl) (fun _ _ _ h => h) (Or.inl ⟨by rfl, ?_⟩) (by assumption) ?_
              rotate_left
              · (intro w hSw; (try dsimp only at hSw); go_simp; try with_reducible rfl)
              try simp only [Act.put, List.setIfInBounds_toArray, List.set_cons_zero, List.set_cons_succ]
              refine wpAnyH_take (i := 12) (oi := { dst := some 48, op := Op.fieldAddr 40 (Operand.tmp 5) 0, type := 0, pos := "book.go:45", after := #[{ on := 11, ground := Ground.guard }], guard := some (11, false) }) (v := ?_) rfl (by kernel_rfl) (by kernel_rfl) (by kernel_rfl) (fun _ _ _ h => h) (Or.inl ⟨by rfl, ?_⟩) (by assumption) ?_
              rotate_left
              · (intro w hSw; (try dsimp only at hSw); go_simp; try with_reducible rfl)
              try simp only [Act.put, List.setIfInBounds_toArray, List.set_cons_zero, List.set_cons_succ]
              refine wpAnyH_take (i := 13) (oi := { dst := some 49, op := Op.load 3 (Operand.tmp 48), type := 3, pos := "book.go:45", after := #[gD 12, { on := 11, ground := Ground.guard }], guard := some (11, false) }) (v := ?_) rfl (by kernel_rfl) (by kernel_rfl) (by kernel_rfl) (fun _ _ _ h => h) (Or.inl ⟨by rfl, ?_⟩) (by assumption) ?_
              rotate_left
              · (intro w hSw; (try dsimp only at hSw); go_simp; try with_reducible rfl)
              try simp only [Act.put, List.setIfInBounds_toArray, List.set_cons_zero, List.set_cons_succ]
              refine wpAnyH_take (i := 14) (oi := { dst := some 50, op := Op.move (Operand.tmp 3), type := 3, pos := "book.go:45", after := #[{ on := 11, ground := Ground.guard }], guard := some (11, false) }) (v := ?_) rfl (by kernel_rfl) (by kernel_rfl) (by kernel_rfl) (fun _ _ _ h => h) (Or.inl ⟨by rfl, ?_⟩) (by assumption) ?_
              rotate_left
              · (intro w hSw; (try dsimp only at hSw); go_simp; try with_reducible rfl)
              try simp only [Act.put, List.setIfInBounds_toArray, List.set_cons_zero, List.set_cons_succ]
              refine wpAnyH_take (i := 15) (oi := { dst := some 51, op := Op.binOp BinOp.leq 3 (Operand.tmp 49) (Operand.tmp 50) 3, type := 4, pos := "book.go:45", after := #[gD 13, gD 14, { on := 11, ground := Ground.guard }], guard := some (11, false) }) (v := ?_) rfl (by kernel_rfl) (by kernel_rfl) (by kernel_rfl) (fun _ _ _ h => h) (Or.inl ⟨by rfl, ?_⟩) (by assumption) ?_
              rotate_left
              · (intro w hSw; (try dsimp only at hSw); go_simp; try with_reducible rfl)
              try simp only [Act.put, List.setIfInBounds_toArray, List.set_cons_zero, List.set_cons_succ]
              refine wpAnyH_take (i := 16) (oi := { dst := some 52, op := Op.pick (Operand.tmp 47) (Operand.const (Value.bool true)) (Operand.tmp 51), type := 4, pos := "book.go:45", after := #[gD 11, gD 15], guard := none }) (v := ?_) rfl (by kernel_rfl) (by kernel_rfl) (by kernel_rfl) (fun _ _ _ h => h) (Or.inl ⟨by rfl, ?_⟩) (by assumption) ?_
              rotate_left
              · (intro w hSw; (try dsimp only at hSw); go_simp; try with_reducible rfl)
              try simp only [Act.put, List.setIfInBounds_toArray, List.set_cons_zero, List.set_cons_succ]
              refine wpAnyH_done (by kernel_rfl) ?_ _
              go_wp2_with fail
              go_ret
              exact ⟨by rw [← HV2.out, okFrom_bad (k := k) (by omega) hat0 (by rw [HG.out]; exact .inr (.inr hi))]; rfl, (((hgr.mod []).then hm).then HX2.out.2.2).then m9⟩
            · have di : decide (id ≤ idp) = false := decide_eq_false hi
              refine wp_region_held_drew (S := fun w' => Mod [] X w' ∧ w'.cell? ⟨wr.heap.size, 0, none⟩ = some (.int .i64 id) ∧ w'.cell? ⟨wr.heap.size, 1, none⟩ = some (.int .i64 ho) ∧ w'.cell? ⟨wr.heap.size, 2, none⟩ = some (.string pa) ∧ w'.cell? ⟨wr.heap.size, 3, none⟩ = some (.int .i64 mo) ∧ w'.cell? ⟨wr.heap.size, 4, none⟩ = some (.slice qs st.length cs) ∧ w'.cell? ⟨wr.heap.size, 5, none⟩ = some (.int .i64 te) ∧ w'.cell? ⟨w.heap.size, 0, none⟩ = some (.int .i64 nx)) (by kernel_rfl) ?_ (fun hHeld => ?_)
              · exact vs_of HX2.out.1 HX2.out.2.1 ((Mod.refl [] X).drew)
              refine wpAnyH_take (i := 0) (oi := { dst := some 36, op := Op.load 40 (Operand.tmp 5), type := 40, pos := "book.go:45", after := #[], guard := none }) (v := ?_) rfl (by kernel_rfl) (by kernel_rfl) (by kernel_rfl) (fun _ _ _ h => h) (Or.inl ⟨by rfl, ?_⟩) (by assumption) ?_
              rotate_left
              · (intro w hSw; (try dsimp only at hSw); go_simp; try with_reducible rfl)
              try simp only [Act.put, List.setIfInBounds_toArray, List.set_cons_zero, List.set_cons_succ]
              refine wpAnyH_ready (rs := [1]) (by kernel_rfl) (by simp) ?_
              refine AllReadyH.cons (o := { dst := some 37, op := Op.call { callee := Callee.value (Operand.func 116), args := #[Operand.tmp 36], argTypes := #[40] }, type := 4, pos := "book.go:45", after := #[gD 0], guard := none }) rfl (fun K hK => ?_) AllReadyH.nil
              go_simp
              refine (km (HX2.out.2.2.then hHeld.1)).mono ?_; rintro e x7 ⟨rfl, m7⟩; have m8 := hHeld.1.then m7
              refine hK.out _ _ ?_ (fun hHeld => ?_)
              · exact vs_of HX2.out.1 HX2.out.2.1 m8
              clear hK K
              try simp only [Act.put, List.setIfInBounds_toArray, List.set_cons_zero, List.set_cons_succ]
              refine wpAnyH_take (i := 2) (oi := { dst := some 38, op := Op.unOp UnOp.not 4 (Operand.tmp 37), type := 4, pos := "book.go:45", after := #[gD 1], guard := none }) (v := ?_) rfl (by kernel_rfl) (by kernel_rfl) (by kernel_rfl) (fun _ _ _ h => h) (Or.inl ⟨by rfl, ?_⟩) (by assumption) ?_
              rotate_left
              · (intro w hSw; (try dsimp only at hSw); go_simp; try with_reducible rfl)
              try simp only [Act.put, List.setIfInBounds_toArray, List.set_cons_zero, List.set_cons_succ]
              refine wpAnyH_take (i := 3) (oi := { dst := some 39, op := Op.move (Operand.tmp 38), type := 4, pos := "book.go:45", after := #[gD 2, gC 1], guard := none }) (v := ?_) rfl (by kernel_rfl) (by kernel_rfl) (by kernel_rfl) (fun _ _ _ h => h) (Or.inl ⟨by rfl, ?_⟩) (by assumption) ?_
              rotate_left
              · (intro w hSw; (try dsimp only at hSw); go_simp; try with_reducible rfl)
              try simp only [Act.put, List.setIfInBounds_toArray, List.set_cons_zero, List.set_cons_succ]
              refine wpAnyH_take (i := 4) (oi := { dst := some 40, op := Op.fieldAddr 40 (Operand.tmp 5) 4, type := 0, pos := "book.go:45", after := #[{ on := 3, ground := Ground.guard }], guard := some (3, false) }) (v := ?_) rfl (by kernel_rfl) (by kernel_rfl) (by kernel_rfl) (fun _ _ _ h => h) (Or.inl ⟨by rfl, ?_⟩) (by assumption) ?_
              rotate_left
              · (intro w hSw; (try dsimp only at hSw); go_simp; try with_reducible rfl)
              try simp only [Act.put, List.setIfInBounds_toArray, List.set_cons_zero, List.set_cons_succ]
              refine wpAnyH_take (i := 5) (oi := { dst := some 41, op := Op.load 38 (Operand.tmp 40), type := 38, pos := "book.go:45", after := #[gD 4, { on := 3, ground := Ground.guard }], guard := some (3, false) }) (v := ?_) rfl (by kernel_rfl) (by kernel_rfl) (by kernel_rfl) (fun _ _ _ h => h) (Or.inl ⟨by rfl, ?_⟩) (by assumption) ?_
              rotate_left
              · (intro w hSw; (try dsimp only at hSw); go_simp; try with_reducible rfl)
              try simp only [Act.put, List.setIfInBounds_toArray, List.set_cons_zero, List.set_cons_succ]
              refine wpAnyH_take (i := 7) (oi := { dst := some 43, op := Op.fieldAddr 34 (Operand.tmp 1) 0, type := 0, pos := "book.go:45", after := #[{ on := 3, ground := Ground.guard }], guard := some (3, false) }) (v := ?_) rfl (by kernel_rfl) (by kernel_rfl) (by kernel_rfl) (fun _ _ _ h => h) (Or.inl ⟨by rfl, ?_⟩) (by assumption) ?_
              rotate_left
              · (intro w hSw; (try dsimp only at hSw); go_simp; try with_reducible rfl)
              try simp only [Act.put, List.setIfInBounds_toArray, List.set_cons_zero, List.set_cons_succ]
              refine wpAnyH_take (i := 8) (oi := { dst := some 44, op := Op.load 3 (Operand.tmp 43), type := 3, pos := "book.go:45", after := #[gD 7, { on := 3, ground := Ground.guard }], guard := some (3, false) }) (v := ?_) rfl (by kernel_rfl) (by kernel_rfl) (by kernel_rfl) (fun _ _ _ h => h) (Or.inl ⟨by rfl, ?_⟩) (by assumption) ?_
              rotate_left
              · (intro w hSw; (try dsimp only at hSw); go_simp; try with_reducible rfl)
              try simp only [Act.put, List.setIfInBounds_toArray, List.set_cons_zero, List.set_cons_succ]
              refine wpAnyH_ready (rs := [6]) (by kernel_rfl) (by simp) ?_
              refine AllReadyH.cons (o := { dst := some 42, op := Op.call { callee := Callee.value (Operand.func 117), args := #[Operand.tmp 41], argTypes := #[38] }, type := 3, pos := "book.go:45", after := #[gD 5, gC 3, { on := 3, ground := Ground.guard }], guard := some (3, false) }) rfl (fun K hK => ?_) AllReadyH.nil
              go_simp
              refine (kn (HX2.out.2.2.then hHeld.1)).mono ?_; rintro e x8 ⟨rfl, rfl⟩; have m9 := hHeld.1
              refine hK.out _ _ ?_ (fun hHeld => ?_)
              · exact vs_of HX2.out.1 HX2.out.2.1 m9
              clear hK K
              try simp only [Act.put, List.setIfInBounds_toArray, List.set_cons_zero, List.set_cons_succ]
              refine wpAnyH_take (i := 9) (oi := { dst := some 45, op := Op.binOp BinOp.geq 3 (Operand.tmp 42) (Operand.tmp 44) 3, type := 4, pos := "book.go:45", after := #[gD 6, gD 8, { on := 3, ground := Ground.guard }], guard := some (3, false) }) (v := ?_) rfl (by kernel_rfl) (by kernel_rfl) (by kernel_rfl) (fun _ _ _ h => h) (Or.inl ⟨by rfl, ?_⟩) (by assumption) ?_
              rotate_left
              · (intro w hSw; (try dsimp only at hSw); go_simp; try with_reducible rfl)
              try simp only [Act.put, List.setIfInBounds_toArray, List.set_cons_zero, List.set_cons_succ]
              refine wpAnyH_take (i := 10) (oi := { dst := some 46, op := Op.pick (Operand.tmp 39) (Operand.const (Value.bool true)) (Operand.tmp 45), type := 4, pos := "book.go:45", after := #[gD 3, gD 9], guard := none }) (v := ?_) rfl (by kernel_rfl) (by kernel_rfl) (by kernel_rfl) (fun _ _ _ h => h) (Or.inl ⟨by rfl, ?_⟩) (by assumption) ?_
              rotate_left
              · (intro w hSw; (try dsimp only at hSw); go_simp; try with_reducible rfl)
              try simp only [Act.put, List.setIfInBounds_toArray, List.set_cons_zero, List.set_cons_succ]
              refine wpAnyH_take (i := 11) (oi := { dst := some 47, op := Op.move (Operand.tmp 46), type := 4, pos := "book.go:45", after := #[gD 10, gC 6], guard := none }) (v := ?_) rfl (by kernel_rfl) (by kernel_rfl) (by kernel_rfl) (fun _ _ _ h => h) (Or.inl ⟨by rfl, ?_⟩) (by assumption) ?_
              rotate_left
              · (intro w hSw; (try dsimp only at hSw); go_simp; try with_reducible rfl)
              try simp only [Act.put, List.setIfInBounds_toArray, List.set_cons_zero, List.set_cons_succ]
              refine wpAnyH_take (i := 12) (oi := { dst := some 48, op := Op.fieldAddr 40 (Operand.tmp 5) 0, type := 0, pos := "book.go:45", after := #[{ on := 11, ground := Ground.guard }], guard := some (11, false) }) (v := ?_) rfl (by kernel_rfl) (by kernel_rfl) (by kernel_rfl) (fun _ _ _ h => h) (Or.inl ⟨by rfl, ?_⟩) (by assumption) ?_
              rotate_left
              · (intro w hSw; (try dsimp only at hSw); go_simp; try with_reducible rfl)
              try simp only [Act.put, List.setIfInBounds_toArray, List.set_cons_zero, List.set_cons_succ]
              refine wpAnyH_take (i := 13) (oi := { dst := some 49, op := Op.load 3 (Operand.tmp 48), type := 3, pos := "book.go:45", after := #[gD 12, { on := 11, ground := Ground.guard }], guard := some (11, false) }) (v := ?_) rfl (by kernel_rfl) (by kernel_rfl) (by kernel_rfl) (fun _ _ _ h => h) (Or.inl ⟨by rfl, ?_⟩) (by assumption) ?_
              rotate_left
              · (intro w hSw; (try dsimp only at hSw); go_simp; try with_reducible rfl)
              try simp only [Act.put, List.setIfInBounds_toArray, List.set_cons_zero, List.set_cons_succ]
              refine wpAnyH_take (i := 14) (oi := { dst := some 50, op := Op.move (Operand.tmp 3), type := 3, pos := "book.go:45", after := #[{ on := 11, ground := Ground.guard }], guard := some (11, false) }) (v := ?_) rfl (by kernel_rfl) (by kernel_rfl) (by kernel_rfl) (fun _ _ _ h => h) (Or.inl ⟨by rfl, ?_⟩) (by assumption) ?_
              rotate_left
              · (intro w hSw; (try dsimp only at hSw); go_simp; try with_reducible rfl)
              try simp only [Act.put, List.setIfInBounds_toArray, List.set_cons_zero, List.set_cons_succ]
              refine wpAnyH_take (i := 15) (oi := { dst := some 51, op := Op.binOp BinOp.leq 3 (Operand.tmp 49) (Operand.tmp 50) 3, type := 4, pos := "book.go:45", after := #[gD 13, gD 14, { on := 11, ground := Ground.guard }], guard := some (11, false) }) (v := ?_) rfl (by kernel_rfl) (by kernel_rfl) (by kernel_rfl) (fun _ _ _ h => h) (Or.inl ⟨by rfl, ?_⟩) (by assumption) ?_
              rotate_left
              · (intro w hSw; (try dsimp only at hSw); go_simp; try with_reducible rfl)
              try simp only [Act.put, List.setIfInBounds_toArray, List.set_cons_zero, List.set_cons_succ]
              refine wpAnyH_take (i := 16) (oi := { dst := some 52, op := Op.pick (Operand.tmp 47) (Operand.const (Value.bool true)) (Operand.tmp 51), type := 4, pos := "book.go:45", after := #[gD 11, gD 15], guard := none }) (v := ?_) rfl (by kernel_rfl) (by kernel_rfl) (by kernel_rfl) (fun _ _ _ h => h) (Or.inl ⟨by rfl, ?_⟩) (by assumption) ?_
              rotate_left
              · (intro w hSw; (try dsimp only at hSw); go_simp; try with_reducible rfl)
              try simp only [Act.put, List.setIfInBounds_toArray, List.set_cons_zero, List.set_cons_succ]
              refine wpAnyH_done (by kernel_rfl) ?_ _
              go_wp2_with fail
              have hx1 := HG.out
              have htk : gs.take (k + 1) = gs.take k ++ [gs.getD k default] := by rw [List.take_add_one]; simp [show k < gs.length by omega]
              refine ⟨⟨k + 1, id, rfl, by simp, by omega, ?_, ?_, by omega, .inr ⟨⟨id, ho, pa, mo, st, te⟩, by rw [htk, hx1]; simp, rfl⟩, (hm.then HX2.out.2.2).then m9⟩, by simp [intOf]; omega⟩
              · refine okFrom_take hok (by omega) ⟨by rw [hx1]; exact HGN.out.1, by rw [hx1, HGN.out.2]; omega, fun x hx => ?_, ?_⟩
                · have := hall x hx
                  rw [hx1]
                  show x.id < id
                  omega
                · rw [hx1]
                  show 0 < id
                  omega
              · intro x hx
                rw [htk, hx1] at hx
                rcases List.mem_append.1 hx with hx | hx
                · have := hall x hx
                  omega
                · obtain rfl := List.mem_singleton.1 hx
                  exact Int.le_refl _
      · obtain rfl : k = lv.length := by omega
        rw [← hgl, List.take_length] at hok
        clear h hps hall hat0
        go_wp2_with fail
        go_ret
        exact ⟨by rw [← HV2.out, hok]; rfl, (hgr.mod []).then hm⟩
  · skip
    go_enter Tryz.func79, Tryz.ntmps79
    go_wp2_with (first
      | (go_at_call 114; refine (kh _).mono ?_; rintro e w1 ⟨rfl, rfl⟩)
      | (go_at_call 115; refine (kl _).mono ?_; rintro e w1 ⟨rfl, rfl⟩)
      | fail)
    any_goals (go_ret; exact ⟨by rw [← HV.out]; first | (simp [*]; done) | (simp [*]; intros; omega), (Mod.refl _ _).alloc _⟩)
    have hV2 : okFrom nx 0 gs = V := by
      rw [← HV.out]
      have h6 : lv.length ≤ 6 := by omega
      simp [*]
    obtain ⟨W0, hW0⟩ : ∃ W0, W0 = w.alloc (.cells #[.int .i64 nx, .int .i64 bo, .int .i64 lo, .slice q lv.length c] 34 (0, 0)) := ⟨_, rfl⟩
    have hb0 : W0.heap[w.heap.size]? = some (.cells #[.int .i64 nx, .int .i64 bo, .int .i64 lo, .slice q lv.length c] 34 (0, 0)) := by rw [hW0]; exact heap_alloc_new w _
    have hgr : Gr w W0 := by rw [hW0]; exact (Gr.refl w).alloc _
    rw [← hW0]
    clear hW0
    have HV2 := hide hV2
    clear hV2
    go_loopw [3, 32] (fun u i wr => ValRel W0 nx gs u i wr) (fun _ i _ => lv.length - (intOf i).toNat)
    case atStart => exact ⟨0, 0, rfl, rfl, Nat.zero_le _, rfl, by simp, Int.le_refl _, .inl rfl, Mod.refl _ _⟩
    case round =>
      obtain ⟨k, idp, rfl, rfl, hk, hok, hall, hid0, hat0, hm⟩ := hrel
      obtain ⟨h, hps, heq⟩ := HH.out
      have hgl : gs.length = lv.length := by rw [heq]; simp
      by_cases hlt : k < lv.length
      · obtain ⟨b, rfl, hbb, hb1, hc, hf, hrd⟩ := ((h.gr.gr hgr).mod hm (by simp)).at_ k hlt
        have hpa := hps _ (show lv.getD k default ∈ lv by simp [hlt])
        have hgk : gs.getD k default = (lv.getD k default).1 := by rw [heq]; simp [hlt]
        have hbk := hm.at_ hb0 (by simp)
        generalize lv.getD k default = pr at hc hrd hpa hgk
        obtain ⟨g, sv⟩ := pr
        simp only at hrd hpa hgk
        have c0 := hc 0 (by decide)
        have c1 := hc 1 (by decide)
        have c2 := hc 2 (by decide)
        have c3 := hc 3 (by decide)
        have c4 := hc 4 (by decide)
        have c5 := hc 5 (by decide)
        simp [encG, cellsG] at c0 c1 c2 c3 c4 c5
        have km := fun {W : World} (m : Mod [] wr W) => mayGrant_any (g := g) (hrd.mod m (by simp)) hpa
        have kn := fun {W : World} (m : Mod [] wr W) => newest_any (hrd.mod m (by simp))
        obtain ⟨qs, cs, rfl⟩ := hrd.len
        have HG := hide hgk
        have hbx := heap_alloc_new wr (.cells (cellsG g (.slice qs g.stamp.length cs)).toArray 40 (0, 0))
        have hmX : Mod [] wr (wr.alloc (.cells (cellsG g (.slice qs g.stamp.length cs)).toArray 40 (0, 0))) := (Mod.refl _ _).alloc _
        have HX := hide (And.intro hbx (And.intro (blk_alloc hbk (.cells (cellsG g (.slice qs g.stamp.length cs)).toArray 40 (0, 0))) hmX))
        clear hc hgk hps h hbx hmX
        obtain ⟨id, ho, pa, mo, st, te⟩ := g
        simp only at c0 c1 c2 c3 c4 c5 hpa hrd kn
        generalize hG : grantB ⟨id, ho, pa, mo, st, te⟩ = G at km
        generalize hN : lastI st = n at kn
        unfold aggG cellsG at km
        simp only at km
        have HGN := hide (And.intro hG hN)
        clear hG hN
        unfold cellsG at HX
        simp only at HX
        obtain ⟨X, hX⟩ : ∃ X, X = wr.alloc (.cells #[.int .i64 id, .int .i64 ho, .string pa, .int .i64 mo, .slice qs st.length cs, .int .i64 te] 40 (0, 0)) := ⟨_, rfl⟩
        have HX2 : Hid (X.heap[wr.heap.size]? = some (.cells #[.int .i64 id, .int .i64 ho, .string pa, .int .i64 mo, .slice qs st.length cs, .int .i64 te] 40 (0, 0)) ∧ X.heap[w.heap.size]? = some (.cells #[.int .i64 nx, .int .i64 bo, .int .i64 lo, .slice (some ⟨b, 0, none⟩) lv.length c] 34 (0, 0)) ∧ Mod [] wr X) := by rw [hX]; exact HX
        clear HX
        have t7 := hide trivial
        have t8 := hide trivial
        go_upto_region 7 with fail
        rw [← hX]
        clear hX c0 c1 c2 c3 c4 c5
        cases G with
        | false =>
          refine wp_region_held_drew (S := fun w' => Mod [] X w' ∧ w'.cell? ⟨wr.heap.size, 0, none⟩ = some (.int .i64 id) ∧ w'.cell? ⟨wr.heap.size, 1, none⟩ = some (.int .i64 ho) ∧ w'.cell? ⟨wr.heap.size, 2, none⟩ = some (.string pa) ∧ w'.cell? ⟨wr.heap.size, 3, none⟩ = some (.int .i64 mo) ∧ w'.cell? ⟨wr.heap.size, 4, none⟩ = some (.slice qs st.length cs) ∧ w'.cell? ⟨wr.heap.size, 5, none⟩ = some (.int .i64 te) ∧ w'.cell? ⟨w.heap.size, 0, none⟩ = some (.int .i64 nx)) (by kernel_rfl) ?_ (fun hHeld => ?_)
          · exact vs_of HX2.out.1 HX2.out.2.1 ((Mod.refl [] X).drew)
          refine wpAnyH_take (i := 0) (oi := { dst := some 36, op := Op.load 40 (Operand.tmp 5), type := 40, pos := "book.go:45", after := #[], guard := none }) (v := ?_) rfl (by kernel_rfl) (by kernel_rfl) (by kernel_rfl) (fun _ _ _ h => h) (Or.inl ⟨by rfl, ?_⟩) (by assumption) ?_
          rotate_left
          · (intro w hSw; (try dsimp only at hSw); go_simp; try with_reducible rfl)
          try simp only [Act.put, List.setIfInBounds_toArray, List.set_cons_zero, List.set_cons_succ]
          refine wpAnyH_ready (rs := [1]) (by kernel_rfl) (by simp) ?_
          refine AllReadyH.cons (o := { dst := some 37, op := Op.call { callee := Callee.value (Operand.func 116), args := #[Operand.tmp 36], argTypes := #[40] }, type := 4, pos := "book.go:45", after := #[gD 0], guard := none }) rfl (fun K hK => ?_) AllReadyH.nil
          go_simp
          refine (km (HX2.out.2.2.then hHeld.1)).mono ?_; rintro e x7 ⟨rfl, m7⟩; have m8 := hHeld.1.then m7
          refine hK.out _ _ ?_ (fun hHeld => ?_)
          · exact vs_of HX2.out.1 HX2.out.2.1 m8
          clear hK K
          try simp only [Act.put, List.setIfInBounds_toArray, List.set_cons_zero, List.set_cons_succ]
          refine wpAnyH_take (i := 2) (oi := { dst := some 38, op := Op.unOp UnOp.not 4 (Operand.tmp 37), type := 4, pos := "book.go:45", after := #[gD 1], guard := none }) (v := ?_) rfl (by kernel_rfl) (by kernel_rfl) (by kernel_rfl) (fun _ _ _ h => h) (Or.inl ⟨by rfl, ?_⟩) (by assumption) ?_
          rotate_left
          · (intro w hSw; (try dsimp only at hSw); go_simp; try with_reducible rfl)
          try simp only [Act.put, List.setIfInBounds_toArray, List.set_cons_zero, List.set_cons_succ]
          refine wpAnyH_take (i := 3) (oi := { dst := some 39, op := Op.move (Operand.tmp 38), type := 4, pos := "book.go:45", after := #[gD 2, gC 1], guard := none }) (v := ?_) rfl (by kernel_rfl) (by kernel_rfl) (by kernel_rfl) (fun _ _ _ h => h) (Or.inl ⟨by rfl, ?_⟩) (by assumption) ?_
          rotate_left
          · (intro w hSw; (try dsimp only at hSw); go_simp; try with_reducible rfl)
          try simp only [Act.put, List.setIfInBounds_toArray, List.set_cons_zero, List.set_cons_succ]
          refine wpAnyH_take (i := 4) (oi := { dst := some 40, op := Op.fieldAddr 40 (Operand.tmp 5) 4, type := 0, pos := "book.go:45", after := #[{ on := 3, ground := Ground.guard }], guard := some (3, false) }) rfl (by kernel_rfl) (by kernel_rfl) (by kernel_rfl) (fun _ _ _ h => h) (Or.inr ⟨by rfl, rfl⟩) (by assumption) ?_
          try simp only [Act.put, List.setIfInBounds_toArray, List.set_cons_zero, List.set_cons_succ]
          refine wpAnyH_take (i := 5) (oi := { dst := some 41, op := Op.load 38 (Operand.tmp 40), type := 38, pos := "book.go:45", after := #[gD 4, { on := 3, ground := Ground.guard }], guard := some (3, false) }) rfl (by kernel_rfl) (by kernel_rfl) (by kernel_rfl) (fun _ _ _ h => h) (Or.inr ⟨by rfl, rfl⟩) (by assumption) ?_
          try simp only [Act.put, List.setIfInBounds_toArray, List.set_cons_zero, List.set_cons_succ]
          refine wpAnyH_take (i := 6) (oi := { dst := some 42, op := Op.call { callee := Callee.value (Operand.func 117), args := #[Operand.tmp 41], argTypes := #[38] }, type := 3, pos := "book.go:45", after := #[gD 5, gC 3, { on := 3, ground := Ground.guard }], guard := some (3, false) }) rfl (by kernel_rfl) (by kernel_rfl) (by kernel_rfl) (fun _ _ _ h => h) (Or.inr ⟨by rfl, rfl⟩) (by assumption) ?_
          try simp only [Act.put, List.setIfInBounds_toArray, List.set_cons_zero, List.set_cons_succ]
          refine wpAnyH_take (i := 7) (oi := { dst := some 43, op := Op.fieldAddr 34 (Operand.tmp 1) 0, type := 0, pos := "book.go:45", after := #[{ on := 3, ground := Ground.guard }], guard := some (3, false) }) rfl (by kernel_rfl) (by kernel_rfl) (by kernel_rfl) (fun _ _ _ h => h) (Or.inr ⟨by rfl, rfl⟩) (by assumption) ?_
          try simp only [Act.put, List.setIfInBounds_toArray, List.set_cons_zero, List.set_cons_succ]
          refine wpAnyH_take (i := 8) (oi := { dst := some 44, op := Op.load 3 (Operand.tmp 43), type := 3, pos := "book.go:45", after := #[gD 7, { on := 3, ground := Ground.guard }], guard := some (3, false) }) rfl (by kernel_rfl) (by kernel_rfl) (by kernel_rfl) (fun _ _ _ h => h) (Or.inr ⟨by rfl, rfl⟩) (by assumption) ?_
          try simp only [Act.put, List.setIfInBounds_toArray, List.set_cons_zero, List.set_cons_succ]
          refine wpAnyH_take (i := 9) (oi := { dst := some 45, op := Op.binOp BinOp.geq 3 (Operand.tmp 42) (Operand.tmp 44) 3, type := 4, pos := "book.go:45", after := #[gD 6, gD 8, { on := 3, ground := Ground.guard }], guard := some (3, false) }) rfl (by kernel_rfl) (by kernel_rfl) (by kernel_rfl) (fun _ _ _ h => h) (Or.inr ⟨by rfl, rfl⟩) (by assumption) ?_
          try simp only [Act.put, List.setIfInBounds_toArray, List.set_cons_zero, List.set_cons_succ]
          refine wpAnyH_take (i := 10) (oi := { dst := some 46, op := Op.pick (Operand.tmp 39) (Operand.const (Value.bool true)) (Operand.tmp 45), type := 4, pos := "book.go:45", after := #[gD 3, gD 9], guard := none }) (v := ?_) rfl (by kernel_rfl) (by kernel_rfl) (by kernel_rfl) (fun _ _ _ h => h) (Or.inl ⟨by rfl, ?_⟩) (by assumption) ?_
          rotate_left
          · (intro w hSw; (try dsimp only at hSw); go_simp; try with_reducible rfl)
          try simp only [Act.put, List.setIfInBounds_toArray, List.set_cons_zero, List.set_cons_succ]
          refine wpAnyH_take (i := 11) (oi := { dst := some 47, op := Op.move (Operand.tmp 46), type := 4, pos := "book.go:45", after := #[gD 10, gC 6], guard := none }) (v := ?_) rfl (by kernel_rfl) (by kernel_rfl) (by kernel_rfl) (fun _ _ _ h => h) (Or.inl ⟨by rfl, ?_⟩) (by assumption) ?_
          rotate_left
          · (intro w hSw; (try dsimp only at hSw); go_simp; try with_reducible rfl)
          try simp only [Act.put, List.setIfInBounds_toArray, List.set_cons_zero, List.set_cons_succ]
          refine wpAnyH_take (i := 12) (oi := { dst := some 48, op := Op.fieldAddr 40 (Operand.tmp 5) 0, type := 0, pos := "book.go:45", after := #[{ on := 11, ground := Ground.guard }], guard := some (11, false) }) rfl (by kernel_rfl) (by kernel_rfl) (by kernel_rfl) (fun _ _ _ h => h) (Or.inr ⟨by rfl, rfl⟩) (by assumption) ?_
          try simp only [Act.put, List.setIfInBounds_toArray, List.set_cons_zero, List.set_cons_succ]
          refine wpAnyH_take (i := 13) (oi := { dst := some 49, op := Op.load 3 (Operand.tmp 48), type := 3, pos := "book.go:45", after := #[gD 12, { on := 11, ground := Ground.guard }], guard := some (11, false) }) rfl (by kernel_rfl) (by kernel_rfl) (by kernel_rfl) (fun _ _ _ h => h) (Or.inr ⟨by rfl, rfl⟩) (by assumption) ?_
          try simp only [Act.put, List.setIfInBounds_toArray, List.set_cons_zero, List.set_cons_succ]
          refine wpAnyH_take (i := 14) (oi := { dst := some 50, op := Op.move (Operand.tmp 3), type := 3, pos := "book.go:45", after := #[{ on := 11, ground := Ground.guard }], guard := some (11, false) }) rfl (by kernel_rfl) (by kernel_rfl) (by kernel_rfl) (fun _ _ _ h => h) (Or.inr ⟨by rfl, rfl⟩) (by assumption) ?_
          try simp only [Act.put, List.setIfInBounds_toArray, List.set_cons_zero, List.set_cons_succ]
          refine wpAnyH_take (i := 15) (oi := { dst := some 51, op := Op.binOp BinOp.leq 3 (Operand.tmp 49) (Operand.tmp 50) 3, type := 4, pos := "book.go:45", after := #[gD 13, gD 14, { on := 11, ground := Ground.guard }], guard := some (11, false) }) rfl (by kernel_rfl) (by kernel_rfl) (by kernel_rfl) (fun _ _ _ h => h) (Or.inr ⟨by rfl, rfl⟩) (by assumption) ?_
          try simp only [Act.put, List.setIfInBounds_toArray, List.set_cons_zero, List.set_cons_succ]
          refine wpAnyH_take (i := 16) (oi := { dst := some 52, op := Op.pick (Operand.tmp 47) (Operand.const (Value.bool true)) (Operand.tmp 51), type := 4, pos := "book.go:45", after := #[gD 11, gD 15], guard := none }) (v := ?_) rfl (by kernel_rfl) (by kernel_rfl) (by kernel_rfl) (fun _ _ _ h => h) (Or.inl ⟨by rfl, ?_⟩) (by assumption) ?_
          rotate_left
          · (intro w hSw; (try dsimp only at hSw); go_simp; try with_reducible rfl)
          try simp only [Act.put, List.setIfInBounds_toArray, List.set_cons_zero, List.set_cons_succ]
          refine wpAnyH_done (by kernel_rfl) ?_ _
          go_wp2_with fail
          go_ret
          exact ⟨by rw [← HV2.out, okFrom_bad (k := k) (by omega) hat0 (by rw [HG.out]; exact .inl HGN.out.1)]; rfl, (((hgr.mod []).then hm).then HX2.out.2.2).then m8⟩
        | true =>
          by_cases hn : nx ≤ n
          · have dn : decide (nx ≤ n) = true := decide_eq_true hn
            refine wp_region_held_drew (S := fun w' => Mod [] X w' ∧ w'.cell? ⟨wr.heap.size, 0, none⟩ = some (.int .i64 id) ∧ w'.cell? ⟨wr.heap.size, 1, none⟩ = some (.int .i64 ho) ∧ w'.cell? ⟨wr.heap.size, 2, none⟩ = some (.string pa) ∧ w'.cell? ⟨wr.heap.size, 3, none⟩ = some (.int .i64 mo) ∧ w'.cell? ⟨wr.heap.size, 4, none⟩ = some (.slice qs st.length cs) ∧ w'.cell? ⟨wr.heap.size, 5, none⟩ = some (.int .i64 te) ∧ w'.cell? ⟨w.heap.size, 0, none⟩ = some (.int .i64 nx)) (by kernel_rfl) ?_ (fun hHeld => ?_)
            · exact vs_of HX2.out.1 HX2.out.2.1 ((Mod.refl [] X).drew)
            refine wpAnyH_take (i := 0) (oi := { dst := some 36, op := Op.load 40 (Operand.tmp 5), type := 40, pos := "book.go:45", after := #[], guard := none }) (v := ?_) rfl (by kernel_rfl) (by kernel_rfl) (by kernel_rfl) (fun _ _ _ h => h) (Or.inl ⟨by rfl, ?_⟩) (by assumption) ?_
            rotate_left
            · (intro w hSw; (try dsimp only at hSw); go_simp; try with_reducible rfl)
            try simp only [Act.put, List.setIfInBounds_toArray, List.set_cons_zero, List.set_cons_succ]
            refine wpAnyH_ready (rs := [1]) (by kernel_rfl) (by simp) ?_
            refine AllReadyH.cons (o := { dst := some 37, op := Op.call { callee := Callee.value (Operand.func 116), args := #[Operand.tmp 36], argTypes := #[40] }, type := 4, pos := "book.go:45", after := #[gD 0], guard := none }) rfl (fun K hK => ?_) AllReadyH.nil
            go_simp
            refine (km (HX2.out.2.2.then hHeld.1)).mono ?_; rintro e x7 ⟨rfl, m7⟩; have m8 := hHeld.1.then m7
            refine hK.out _ _ ?_ (fun hHeld => ?_)
            · exact vs_of HX2.out.1 HX2.out.2.1 m8
            clear hK K
            try simp only [Act.put, List.setIfInBounds_toArray, List.set_cons_zero, List.set_cons_succ]
            refine wpAnyH_take (i := 2) (oi := { dst := some 38, op := Op.unOp UnOp.not 4 (Operand.tmp 37), type := 4, pos := "book.go:45", after := #[gD 1], guard := none }) (v := ?_) rfl (by kernel_rfl) (by kernel_rfl) (by kernel_rfl) (fun _ _ _ h => h) (Or.inl ⟨by rfl, ?_⟩) (by assumption) ?_
            rotate_left
            · (intro w hSw; (try dsimp only at hSw); go_simp; try with_reducible rfl)
            try simp only [Act.put, List.setIfInBounds_toArray, List.set_cons_zero, List.set_cons_succ]
            refine wpAnyH_take (i := 3) (oi := { dst := some 39, op := Op.move (Operand.tmp 38), type := 4, pos := "book.go:45", after := #[gD 2, gC 1], guard := none }) (v := ?_) rfl (by kernel_rfl) (by kernel_rfl) (by kernel_rfl) (fun _ _ _ h => h) (Or.inl ⟨by rfl, ?_⟩) (by assumption) ?_
            rotate_left
            · (intro w hSw; (try dsimp only at hSw); go_simp; try with_reducible rfl)
            try simp only [Act.put, List.setIfInBounds_toArray, List.set_cons_zero, List.set_cons_succ]
            refine wpAnyH_take (i := 4) (oi := { dst := some 40, op := Op.fieldAddr 40 (Operand.tmp 5) 4, type := 0, pos := "book.go:45", after := #[{ on := 3, ground := Ground.guard }], guard := some (3, false) }) (v := ?_) rfl (by kernel_rfl) (by kernel_rfl) (by kernel_rfl) (fun _ _ _ h => h) (Or.inl ⟨by rfl, ?_⟩) (by assumption) ?_
            rotate_left
            · (intro w hSw; (try dsimp only at hSw); go_simp; try with_reducible rfl)
            try simp only [Act.put, List.setIfInBounds_toArray, List.set_cons_zero, List.set_cons_succ]
            refine wpAnyH_take (i := 5) (oi := { dst := some 41, op := Op.load 38 (Operand.tmp 40), type := 38, pos := "book.go:45", after := #[gD 4, { on := 3, ground := Ground.guard }], guard := some (3, false) }) (v := ?_) rfl (by kernel_rfl) (by kernel_rfl) (by kernel_rfl) (fun _ _ _ h => h) (Or.inl ⟨by rfl, ?_⟩) (by assumption) ?_
            rotate_left
            · (intro w hSw; (try dsimp only at hSw); go_simp; try with_reducible rfl)
            try simp only [Act.put, List.setIfInBounds_toArray, List.set_cons_zero, List.set_cons_succ]
            refine wpAnyH_take (i := 7) (oi := { dst := some 43, op := Op.fieldAddr 34 (Operand.tmp 1) 0, type := 0, pos := "book.go:45", after := #[{ on := 3, ground := Ground.guard }], guard := some (3, false) }) (v := ?_) rfl (by kernel_rfl) (by kernel_rfl) (by kernel_rfl) (fun _ _ _ h => h) (Or.inl ⟨by rfl, ?_⟩) (by assumption) ?_
            rotate_left
            · (intro w hSw; (try dsimp only at hSw); go_simp; try with_reducible rfl)
            try simp only [Act.put, List.setIfInBounds_toArray, List.set_cons_zero, List.set_cons_succ]
            refine wpAnyH_take (i := 8) (oi := { dst := some 44, op := Op.load 3 (Operand.tmp 43), type := 3, pos := "book.go:45", after := #[gD 7, { on := 3, ground := Ground.guard }], guard := some (3, false) }) (v := ?_) rfl (by kernel_rfl) (by kernel_rfl) (by kernel_rfl) (fun _ _ _ h => h) (Or.inl ⟨by rfl, ?_⟩) (by assumption) ?_
            rotate_left
            · (intro w hSw; (try dsimp only at hSw); go_simp; try with_reducible rfl)
            try simp only [Act.put, List.setIfInBounds_toArray, List.set_cons_zero, List.set_cons_succ]
            refine wpAnyH_ready (rs := [6]) (by kernel_rfl) (by simp) ?_
            refine AllReadyH.cons (o := { dst := some 42, op := Op.call { callee := Callee.value (Operand.func 117), args := #[Operand.tmp 41], argTypes := #[38] }, type := 3, pos := "book.go:45", after := #[gD 5, gC 3, { on := 3, ground := Ground.guard }], guard := some (3, false) }) rfl (fun K hK => ?_) AllReadyH.nil
            go_simp
            refine (kn (HX2.out.2.2.then hHeld.1)).mono ?_; rintro e x8 ⟨rfl, rfl⟩; have m9 := hHeld.1
            refine hK.out _ _ ?_ (fun hHeld => ?_)
            · exact vs_of HX2.out.1 HX2.out.2.1 m9
            clear hK K
            try simp only [Act.put, List.setIfInBounds_toArray, List.set_cons_zero, List.set_cons_succ]
            refine wpAnyH_take (i := 9) (oi := { dst := some 45, op := Op.binOp BinOp.geq 3 (Operand.tmp 42) (Operand.tmp 44) 3, type := 4, pos := "book.go:45", after := #[gD 6, gD 8, { on := 3, ground := Ground.guard }], guard := some (3, false) }) (v := ?_) rfl (by kernel_rfl) (by kernel_rfl) (by kernel_rfl) (fun _ _ _ h => h) (Or.inl ⟨by rfl, ?_⟩) (by assumption) ?_
            rotate_left
            · (intro w hSw; (try dsimp only at hSw); go_simp; try with_reducible rfl)
            try simp only [Act.put, List.setIfInBounds_toArray, List.set_cons_zero, List.set_cons_succ]
            refine wpAnyH_take (i := 10) (oi := { dst := some 46, op := Op.pick (Operand.tmp 39) (Operand.const (Value.bool true)) (Operand.tmp 45), type := 4, pos := "book.go:45", after := #[gD 3, gD 9], guard := none }) (v := ?_) rfl (by kernel_rfl) (by kernel_rfl) (by kernel_rfl) (fun _ _ _ h => h) (Or.inl ⟨by rfl, ?_⟩) (by assumption) ?_
            rotate_left
            · (intro w hSw; (try dsimp only at hSw); go_simp; try with_reducible rfl)
            try simp only [Act.put, List.setIfInBounds_toArray, List.set_cons_zero, List.set_cons_succ]
            refine wpAnyH_take (i := 11) (oi := { dst := some 47, op := Op.move (Operand.tmp 46), type := 4, pos := "book.go:45", after := #[gD 10, gC 6], guard := none }) (v := ?_) rfl (by kernel_rfl) (by kernel_rfl) (by kernel_rfl) (fun _ _ _ h => h) (Or.inl ⟨by rfl, ?_⟩) (by assumption) ?_
            rotate_left
            · (intro w hSw; (try dsimp only at hSw); go_simp; try with_reducible rfl)
            try simp only [Act.put, List.setIfInBounds_toArray, List.set_cons_zero, List.set_cons_succ]
            refine wpAnyH_take (i := 12) (oi := { dst := some 48, op := Op.fieldAddr 40 (Operand.tmp 5) 0, type := 0, pos := "book.go:45", after := #[{ on := 11, ground := Ground.guard }], guard := some (11, false) }) rfl (by kernel_rfl) (by kernel_rfl) (by kernel_rfl) (fun _ _ _ h => h) (Or.inr ⟨by rfl, rfl⟩) (by assumption) ?_
            try simp only [Act.put, List.setIfInBounds_toArray, List.set_cons_zero, List.set_cons_succ]
            refine wpAnyH_take (i := 13) (oi := { dst := some 49, op := Op.load 3 (Operand.tmp 48), type := 3, pos := "book.go:45", after := #[gD 12, { on := 11, ground := Ground.guard }], guard := some (11, false) }) rfl (by kernel_rfl) (by kernel_rfl) (by kernel_rfl) (fun _ _ _ h => h) (Or.inr ⟨by rfl, rfl⟩) (by assumption) ?_
            try simp only [Act.put, List.setIfInBounds_toArray, List.set_cons_zero, List.set_cons_succ]
            refine wpAnyH_take (i := 14) (oi := { dst := some 50, op := Op.move (Operand.tmp 3), type := 3, pos := "book.go:45", after := #[{ on := 11, ground := Ground.guard }], guard := some (11, false) }) rfl (by kernel_rfl) (by kernel_rfl) (by kernel_rfl) (fun _ _ _ h => h) (Or.inr ⟨by rfl, rfl⟩) (by assumption) ?_
            try simp only [Act.put, List.setIfInBounds_toArray, List.set_cons_zero, List.set_cons_succ]
            refine wpAnyH_take (i := 15) (oi := { dst := some 51, op := Op.binOp BinOp.leq 3 (Operand.tmp 49) (Operand.tmp 50) 3, type := 4, pos := "book.go:45", after := #[gD 13, gD 14, { on := 11, ground := Ground.guard }], guard := some (11, false) }) rfl (by kernel_rfl) (by kernel_rfl) (by kernel_rfl) (fun _ _ _ h => h) (Or.inr ⟨by rfl, rfl⟩) (by assumption) ?_
            try simp only [Act.put, List.setIfInBounds_toArray, List.set_cons_zero, List.set_cons_succ]
            refine wpAnyH_take (i := 16) (oi := { dst := some 52, op := Op.pick (Operand.tmp 47) (Operand.const (Value.bool true)) (Operand.tmp 51), type := 4, pos := "book.go:45", after := #[gD 11, gD 15], guard := none }) (v := ?_) rfl (by kernel_rfl) (by kernel_rfl) (by kernel_rfl) (fun _ _ _ h => h) (Or.inl ⟨by rfl, ?_⟩) (by assumption) ?_
            rotate_left
            · (intro w hSw; (try dsimp only at hSw); go_simp; try with_reducible rfl)
            try simp only [Act.put, List.setIfInBounds_toArray, List.set_cons_zero, List.set_cons_succ]
            refine wpAnyH_done (by kernel_rfl) ?_ _
            go_wp2_with fail
            go_ret
            exact ⟨by rw [← HV2.out, okFrom_bad (k := k) (by omega) hat0 (by rw [HG.out]; exact .inr (.inl (by rw [HGN.out.2]; exact hn)))]; rfl, (((hgr.mod []).then hm).then HX2.out.2.2).then m9⟩
          · have dn : decide (nx ≤ n) = false := decide_eq_false hn
            by_cases hi : id ≤ idp
            · have di : decide (id ≤ idp) = true := decide_eq_true hi
              refine wp_region_held_drew (S := fun w' => Mod [] X w' ∧ w'.cell? ⟨wr.heap.size, 0, none⟩ = some (.int .i64 id) ∧ w'.cell? ⟨wr.heap.size, 1, none⟩ = some (.int .i64 ho) ∧ w'.cell? ⟨wr.heap.size, 2, none⟩ = some (.string pa) ∧ w'.cell? ⟨wr.heap.size, 3, none⟩ = some (.int .i64 mo) ∧ w'.cell? ⟨wr.heap.size, 4, none⟩ = some (.slice qs st.length cs) ∧ w'.cell? ⟨wr.heap.size, 5, none⟩ = some (.int .i64 te) ∧ w'.cell? ⟨w.heap.size, 0, none⟩ = some (.int .i64 nx)) (by kernel_rfl) ?_ (fun hHeld => ?_)
              · exact vs_of HX2.out.1 HX2.out.2.1 ((Mod.refl [] X).drew)
              refine wpAnyH_take (i := 0) (oi := { dst := some 36, op := Op.load 40 (Operand.tmp 5), type := 40, pos := "book.go:45", after := #[], guard := none }) (v := ?_) rfl (by kernel_rfl) (by kernel_rfl) (by kernel_rfl) (fun _ _ _ h => h) (Or.inl ⟨by rfl, ?_⟩) (by assumption) ?_
              rotate_left
              · (intro w hSw; (try dsimp only at hSw); go_simp; try with_reducible rfl)
              try simp only [Act.put, List.setIfInBounds_toArray, List.set_cons_zero, List.set_cons_succ]
              refine wpAnyH_ready (rs := [1]) (by kernel_rfl) (by simp) ?_
              refine AllReadyH.cons (o := { dst := some 37, op := Op.call { callee := Callee.value (Operand.func 116), args := #[Operand.tmp 36], argTypes := #[40] }, type := 4, pos := "book.go:45", after := #[gD 0], guard := none }) rfl (fun K hK => ?_) AllReadyH.nil
              go_simp
              refine (km (HX2.out.2.2.then hHeld.1)).mono ?_; rintro e x7 ⟨rfl, m7⟩; have m8 := hHeld.1.then m7
              refine hK.out _ _ ?_ (fun hHeld => ?_)
              · exact vs_of HX2.out.1 HX2.out.2.1 m8
              clear hK K
              try simp only [Act.put, List.setIfInBounds_toArray, List.set_cons_zero, List.set_cons_succ]
              refine wpAnyH_take (i := 2) (oi := { dst := some 38, op := Op.unOp UnOp.not 4 (Operand.tmp 37), type := 4, pos := "book.go:45", after := #[gD 1], guard := none }) (v := ?_) rfl (by kernel_rfl) (by kernel_rfl) (by kernel_rfl) (fun _ _ _ h => h) (Or.inl ⟨by rfl, ?_⟩) (by assumption) ?_
              rotate_left
              · (intro w hSw; (try dsimp only at hSw); go_simp; try with_reducible rfl)
              try simp only [Act.put, List.setIfInBounds_toArray, List.set_cons_zero, List.set_cons_succ]
              refine wpAnyH_take (i := 3) (oi := { dst := some 39, op := Op.move (Operand.tmp 38), type := 4, pos := "book.go:45", after := #[gD 2, gC 1], guard := none }) (v := ?_) rfl (by kernel_rfl) (by kernel_rfl) (by kernel_rfl) (fun _ _ _ h => h) (Or.inl ⟨by rfl, ?_⟩) (by assumption) ?_
              rotate_left
              · (intro w hSw; (try dsimp only at hSw); go_simp; try with_reducible rfl)
              try simp only [Act.put, List.setIfInBounds_toArray, List.set_cons_zero, List.set_cons_succ]
              refine wpAnyH_take (i := 4) (oi := { dst := some 40, op := Op.fieldAddr 40 (Operand.tmp 5) 4, type := 0, pos := "book.go:45", after := #[{ on := 3, ground := Ground.guard }], guard := some (3, false) }) (v := ?_) rfl (by kernel_rfl) (by kernel_rfl) (by kernel_rfl) (fun _ _ _ h => h) (Or.inl ⟨by rfl, ?_⟩) (by assumption) ?_
              rotate_left
              · (intro w hSw; (try dsimp only at hSw); go_simp; try with_reducible rfl)
              try simp only [Act.put, List.setIfInBounds_toArray, List.set_cons_zero, List.set_cons_succ]
              refine wpAnyH_take (i := 5) (oi := { dst := some 41, op := Op.load 38 (Operand.tmp 40), type := 38, pos := "book.go:45", after := #[gD 4, { on := 3, ground := Ground.guard }], guard := some (3, false) }) (v := ?_) rfl (by kernel_rfl) (by kernel_rfl) (by kernel_rfl) (fun _ _ _ h => h) (Or.inl ⟨by rfl, ?_⟩) (by assumption) ?_
              rotate_left
              · (intro w hSw; (try dsimp only at hSw); go_simp; try with_reducible rfl)
              try simp only [Act.put, List.setIfInBounds_toArray, List.set_cons_zero, List.set_cons_succ]
              refine wpAnyH_take (i := 7) (oi := { dst := some 43, op := Op.fieldAddr 34 (Operand.tmp 1) 0, type := 0, pos := "book.go:45", after := #[{ on := 3, ground := Ground.guard }], guard := some (3, false) }) (v := ?_) rfl (by kernel_rfl) (by kernel_rfl) (by kernel_rfl) (fun _ _ _ h => h) (Or.inl ⟨by rfl, ?_⟩) (by assumption) ?_
              rotate_left
              · (intro w hSw; (try dsimp only at hSw); go_simp; try with_reducible rfl)
              try simp only [Act.put, List.setIfInBounds_toArray, List.set_cons_zero, List.set_cons_succ]
              refine wpAnyH_take (i := 8) (oi := { dst := some 44, op := Op.load 3 (Operand.tmp 43), type := 3, pos := "book.go:45", after := #[gD 7, { on := 3, ground := Ground.guard }], guard := some (3, false) }) (v := ?_) rfl (by kernel_rfl) (by kernel_rfl) (by kernel_rfl) (fun _ _ _ h => h) (Or.inl ⟨by rfl, ?_⟩) (by assumption) ?_
              rotate_left
              · (intro w hSw; (try dsimp only at hSw); go_simp; try with_reducible rfl)
              try simp only [Act.put, List.setIfInBounds_toArray, List.set_cons_zero, List.set_cons_succ]
              refine wpAnyH_ready (rs := [6]) (by kernel_rfl) (by simp) ?_
              refine AllReadyH.cons (o := { dst := some 42, op := Op.call { callee := Callee.value (Operand.func 117), args := #[Operand.tmp 41], argTypes := #[38] }, type := 3, pos := "book.go:45", after := #[gD 5, gC 3, { on := 3, ground := Ground.guard }], guard := some (3, false) }) rfl (fun K hK => ?_) AllReadyH.nil
              go_simp
              refine (kn (HX2.out.2.2.then hHeld.1)).mono ?_; rintro e x8 ⟨rfl, rfl⟩; have m9 := hHeld.1
              refine hK.out _ _ ?_ (fun hHeld => ?_)
              · exact vs_of HX2.out.1 HX2.out.2.1 m9
              clear hK K
              try simp only [Act.put, List.setIfInBounds_toArray, List.set_cons_zero, List.set_cons_succ]
              refine wpAnyH_take (i := 9) (oi := { dst := some 45, op := Op.binOp BinOp.geq 3 (Operand.tmp 42) (Operand.tmp 44) 3, type := 4, pos := "book.go:45", after := #[gD 6, gD 8, { on := 3, ground := Ground.guard }], guard := some (3, false) }) (v := ?_) rfl (by kernel_rfl) (by kernel_rfl) (by kernel_rfl) (fun _ _ _ h => h) (Or.inl ⟨by rfl, ?_⟩) (by assumption) ?_
              rotate_left
              · (intro w hSw; (try dsimp only at hSw); go_simp; try with_reducible rfl)
              try simp only [Act.put, List.setIfInBounds_toArray, List.set_cons_zero, List.set_cons_succ]
              refine wpAnyH_take (i := 10) (oi := { dst := some 46, op := Op.pick (Operand.tmp 39) (Operand.const (Value.bool true)) (Operand.tmp 45), type := 4, pos := "book.go:45", after := #[gD 3, gD 9], guard := none }) (v := ?_) rfl (by kernel_rfl) (by kernel_rfl) (by kernel_rfl) (fun _ _ _ h => h) (Or.inl ⟨by rfl, ?_⟩) (by assumption) ?_
              rotate_left
              · (intro w hSw; (try dsimp only at hSw); go_simp; try with_reducible rfl)
              try simp only [Act.put, List.setIfInBounds_toArray, List.set_cons_zero, List.set_cons_succ]
              refine wpAnyH_take (i := 11) (oi := { dst := some 47, op := Op.move (Operand.tmp 46), type := 4, pos := "book.go:45", after := #[gD 10, gC 6], guard := none }) (v := ?_) rfl (by kernel_rfl) (by kernel_rfl) (by kernel_rfl) (fun _ _ _ h => h) (Or.inl ⟨by rfl, ?_⟩) (by assumption) ?_
              rotate_left
              · (intro w hSw; (try dsimp only at hSw); go_simp; try with_reducible rfl)
              try simp only [Act.put, List.setIfInBounds_toArray, List.set_cons_zero, List.set_cons_succ]
              refine wpAnyH_take (i := 12) (oi := { dst := some 48, op := Op.fieldAddr 40 (Operand.tmp 5) 0, type := 0, pos := "book.go:45", after := #[{ on := 11, ground := Ground.guard }], guard := some (11, false) }) (v := ?_) rfl (by kernel_rfl) (by kernel_rfl) (by kernel_rfl) (fun _ _ _ h => h) (Or.inl ⟨by rfl, ?_⟩) (by assumption) ?_
              rotate_left
              · (intro w hSw; (try dsimp only at hSw); go_simp; try with_reducible rfl)
              try simp only [Act.put, List.setIfInBounds_toArray, List.set_cons_zero, List.set_cons_succ]
              refine wpAnyH_take (i := 13) (oi := { dst := some 49, op := Op.load 3 (Operand.tmp 48), type := 3, pos := "book.go:45", after := #[gD 12, { on := 11, ground := Ground.guard }], guard := some (11, false) }) (v := ?_) rfl (by kernel_rfl) (by kernel_rfl) (by kernel_rfl) (fun _ _ _ h => h) (Or.inl ⟨by rfl, ?_⟩) (by assumption) ?_
              rotate_left
              · (intro w hSw; (try dsimp only at hSw); go_simp; try with_reducible rfl)
              try simp only [Act.put, List.setIfInBounds_toArray, List.set_cons_zero, List.set_cons_succ]
              refine wpAnyH_take (i := 14) (oi := { dst := some 50, op := Op.move (Operand.tmp 3), type := 3, pos := "book.go:45", after := #[{ on := 11, ground := Ground.guard }], guard := some (11, false) }) (v := ?_) rfl (by kernel_rfl) (by kernel_rfl) (by kernel_rfl) (fun _ _ _ h => h) (Or.inl ⟨by rfl, ?_⟩) (by assumption) ?_
              rotate_left
              · (intro w hSw; (try dsimp only at hSw); go_simp; try with_reducible rfl)
              try simp only [Act.put, List.setIfInBounds_toArray, List.set_cons_zero, List.set_cons_succ]
              refine wpAnyH_take (i := 15) (oi := { dst := some 51, op := Op.binOp BinOp.leq 3 (Operand.tmp 49) (Operand.tmp 50) 3, type := 4, pos := "book.go:45", after := #[gD 13, gD 14, { on := 11, ground := Ground.guard }], guard := some (11, false) }) (v := ?_) rfl (by kernel_rfl) (by kernel_rfl) (by kernel_rfl) (fun _ _ _ h => h) (Or.inl ⟨by rfl, ?_⟩) (by assumption) ?_
              rotate_left
              · (intro w hSw; (try dsimp only at hSw); go_simp; try with_reducible rfl)
              try simp only [Act.put, List.setIfInBounds_toArray, List.set_cons_zero, List.set_cons_succ]
              refine wpAnyH_take (i := 16) (oi := { dst := some 52, op := Op.pick (Operand.tmp 47) (Operand.const (Value.bool true)) (Operand.tmp 51), type := 4, pos := "book.go:45", after := #[gD 11, gD 15], guard := none }) (v := ?_) rfl (by kernel_rfl) (by kernel_rfl) (by kernel_rfl) (fun _ _ _ h => h) (Or.inl ⟨by rfl, ?_⟩) (by assumption) ?_
              rotate_left
              · (intro w hSw; (try dsimp only at hSw); go_simp; try with_reducible rfl)
              try simp only [Act.put, List.setIfInBounds_toArray, List.set_cons_zero, List.set_cons_succ]
              refine wpAnyH_done (by kernel_rfl) ?_ _
              go_wp2_with fail
              go_ret
              exact ⟨by rw [← HV2.out, okFrom_bad (k := k) (by omega) hat0 (by rw [HG.out]; exact .inr (.inr hi))]; rfl, (((hgr.mod []).then hm).then HX2.out.2.2).then m9⟩
            · have di : decide (id ≤ idp) = false := decide_eq_false hi
              refine wp_region_held_drew (S := fun w' => Mod [] X w' ∧ w'.cell? ⟨wr.heap.size, 0, none⟩ = some (.int .i64 id) ∧ w'.cell? ⟨wr.heap.size, 1, none⟩ = some (.int .i64 ho) ∧ w'.cell? ⟨wr.heap.size, 2, none⟩ = some (.string pa) ∧ w'.cell? ⟨wr.heap.size, 3, none⟩ = some (.int .i64 mo) ∧ w'.cell? ⟨wr.heap.size, 4, none⟩ = some (.slice qs st.length cs) ∧ w'.cell? ⟨wr.heap.size, 5, none⟩ = some (.int .i64 te) ∧ w'.cell? ⟨w.heap.size, 0, none⟩ = some (.int .i64 nx)) (by kernel_rfl) ?_ (fun hHeld => ?_)
              · exact vs_of HX2.out.1 HX2.out.2.1 ((Mod.refl [] X).drew)
              refine wpAnyH_take (i := 0) (oi := { dst := some 36, op := Op.load 40 (Operand.tmp 5), type := 40, pos := "book.go:45", after := #[], guard := none }) (v := ?_) rfl (by kernel_rfl) (by kernel_rfl) (by kernel_rfl) (fun _ _ _ h => h) (Or.inl ⟨by rfl, ?_⟩) (by assumption) ?_
              rotate_left
              · (intro w hSw; (try dsimp only at hSw); go_simp; try with_reducible rfl)
              try simp only [Act.put, List.setIfInBounds_toArray, List.set_cons_zero, List.set_cons_succ]
              refine wpAnyH_ready (rs := [1]) (by kernel_rfl) (by simp) ?_
              refine AllReadyH.cons (o := { dst := some 37, op := Op.call { callee := Callee.value (Operand.func 116), args := #[Operand.tmp 36], argTypes := #[40] }, type := 4, pos := "book.go:45", after := #[gD 0], guard := none }) rfl (fun K hK => ?_) AllReadyH.nil
              go_simp
              refine (km (HX2.out.2.2.then hHeld.1)).mono ?_; rintro e x7 ⟨rfl, m7⟩; have m8 := hHeld.1.then m7
              refine hK.out _ _ ?_ (fun hHeld => ?_)
              · exact vs_of HX2.out.1 HX2.out.2.1 m8
              clear hK K
              try simp only [Act.put, List.setIfInBounds_toArray, List.set_cons_zero, List.set_cons_succ]
              refine wpAnyH_take (i := 2) (oi := { dst := some 38, op := Op.unOp UnOp.not 4 (Operand.tmp 37), type := 4, pos := "book.go:45", after := #[gD 1], guard := none }) (v := ?_) rfl (by kernel_rfl) (by kernel_rfl) (by kernel_rfl) (fun _ _ _ h => h) (Or.inl ⟨by rfl, ?_⟩) (by assumption) ?_
              rotate_left
              · (intro w hSw; (try dsimp only at hSw); go_simp; try with_reducible rfl)
              try simp only [Act.put, List.setIfInBounds_toArray, List.set_cons_zero, List.set_cons_succ]
              refine wpAnyH_take (i := 3) (oi := { dst := some 39, op := Op.move (Operand.tmp 38), type := 4, pos := "book.go:45", after := #[gD 2, gC 1], guard := none }) (v := ?_) rfl (by kernel_rfl) (by kernel_rfl) (by kernel_rfl) (fun _ _ _ h => h) (Or.inl ⟨by rfl, ?_⟩) (by assumption) ?_
              rotate_left
              · (intro w hSw; (try dsimp only at hSw); go_simp; try with_reducible rfl)
              try simp only [Act.put, List.setIfInBounds_toArray, List.set_cons_zero, List.set_cons_succ]
              refine wpAnyH_take (i := 4) (oi := { dst := some 40, op := Op.fieldAddr 40 (Operand.tmp 5) 4, type := 0, pos := "book.go:45", after := #[{ on := 3, ground := Ground.guard }], guard := some (3, false) }) (v := ?_) rfl (by kernel_rfl) (by kernel_rfl) (by kernel_rfl) (fun _ _ _ h => h) (Or.inl ⟨by rfl, ?_⟩) (by assumption) ?_
              rotate_left
              · (intro w hSw; (try dsimp only at hSw); go_simp; try with_reducible rfl)
              try simp only [Act.put, List.setIfInBounds_toArray, List.set_cons_zero, List.set_cons_succ]
              refine wpAnyH_take (i := 5) (oi := { dst := some 41, op := Op.load 38 (Operand.tmp 40), type := 38, pos := "book.go:45", after := #[gD 4, { on := 3, ground := Ground.guard }], guard := some (3, false) }) (v := ?_) rfl (by kernel_rfl) (by kernel_rfl) (by kernel_rfl) (fun _ _ _ h => h) (Or.inl ⟨by rfl, ?_⟩) (by assumption) ?_
              rotate_left
              · (intro w hSw; (try dsimp only at hSw); go_simp; try with_reducible rfl)
              try simp only [Act.put, List.setIfInBounds_toArray, List.set_cons_zero, List.set_cons_succ]
              refine wpAnyH_take (i := 7) (oi := { dst := some 43, op := Op.fieldAddr 34 (Operand.tmp 1) 0, type := 0, pos := "book.go:45", after := #[{ on := 3, ground := Ground.guard }], guard := some (3, false) }) (v := ?_) rfl (by kernel_rfl) (by kernel_rfl) (by kernel_rfl) (fun _ _ _ h => h) (Or.inl ⟨by rfl, ?_⟩) (by assumption) ?_
              rotate_left
              · (intro w hSw; (try dsimp only at hSw); go_simp; try with_reducible rfl)
              try simp only [Act.put, List.setIfInBounds_toArray, List.set_cons_zero, List.set_cons_succ]
              refine wpAnyH_take (i := 8) (oi := { dst := some 44, op := Op.load 3 (Operand.tmp 43), type := 3, pos := "book.go:45", after := #[gD 7, { on := 3, ground := Ground.guard }], guard := some (3, false) }) (v := ?_) rfl (by kernel_rfl) (by kernel_rfl) (by kernel_rfl) (fun _ _ _ h => h) (Or.inl ⟨by rfl, ?_⟩) (by assumption) ?_
              rotate_left
              · (intro w hSw; (try dsimp only at hSw); go_simp; try with_reducible rfl)
              try simp only [Act.put, List.setIfInBounds_toArray, List.set_cons_zero, List.set_cons_succ]
              refine wpAnyH_ready (rs := [6]) (by kernel_rfl) (by simp) ?_
              refine AllReadyH.cons (o := { dst := some 42, op := Op.call { callee := Callee.value (Operand.func 117), args := #[Operand.tmp 41], argTypes := #[38] }, type := 3, pos := "book.go:45", after := #[gD 5, gC 3, { on := 3, ground := Ground.guard }], guard := some (3, false) }) rfl (fun K hK => ?_) AllReadyH.nil
              go_simp
              refine (kn (HX2.out.2.2.then hHeld.1)).mono ?_; rintro e x8 ⟨rfl, rfl⟩; have m9 := hHeld.1
              refine hK.out _ _ ?_ (fun hHeld => ?_)
              · exact vs_of HX2.out.1 HX2.out.2.1 m9
              clear hK K
              try simp only [Act.put, List.setIfInBounds_toArray, List.set_cons_zero, List.set_cons_succ]
              refine wpAnyH_take (i := 9) (oi := { dst := some 45, op := Op.binOp BinOp.geq 3 (Operand.tmp 42) (Operand.tmp 44) 3, type := 4, pos := "book.go:45", after := #[gD 6, gD 8, { on := 3, ground := Ground.guard }], guard := some (3, false) }) (v := ?_) rfl (by kernel_rfl) (by kernel_rfl) (by kernel_rfl) (fun _ _ _ h => h) (Or.inl ⟨by rfl, ?_⟩) (by assumption) ?_
              rotate_left
              · (intro w hSw; (try dsimp only at hSw); go_simp; try with_reducible rfl)
              try simp only [Act.put, List.setIfInBounds_toArray, List.set_cons_zero, List.set_cons_succ]
              refine wpAnyH_take (i := 10) (oi := { dst := some 46, op := Op.pick (Operand.tmp 39) (Operand.const (Value.bool true)) (Operand.tmp 45), type := 4, pos := "book.go:45", after := #[gD 3, gD 9], guard := none }) (v := ?_) rfl (by kernel_rfl) (by kernel_rfl) (by kernel_rfl) (fun _ _ _ h => h) (Or.inl ⟨by rfl, ?_⟩) (by assumption) ?_
              rotate_left
              · (intro w hSw; (try dsimp only at hSw); go_simp; try with_reducible rfl)
              try simp only [Act.put, List.setIfInBounds_toArray, List.set_cons_zero, List.set_cons_succ]
              refine wpAnyH_take (i := 11) (oi := { dst := some 47, op := Op.move (Operand.tmp 46), type := 4, pos := "book.go:45", after := #[gD 10, gC 6], guard := none }) (v := ?_) rfl (by kernel_rfl) (by kernel_rfl) (by kernel_rfl) (fun _ _ _ h => h) (Or.inl ⟨by rfl, ?_⟩) (by assumption) ?_
              rotate_left
              · (intro w hSw; (try dsimp only at hSw); go_simp; try with_reducible rfl)
              try simp only [Act.put, List.setIfInBounds_toArray, List.set_cons_zero, List.set_cons_succ]
              refine wpAnyH_take (i := 12) (oi := { dst := some 48, op := Op.fieldAddr 40 (Operand.tmp 5) 0, type := 0, pos := "book.go:45", after := #[{ on := 11, ground := Ground.guard }], guard := some (11, false) }) (v := ?_) rfl (by kernel_rfl) (by kernel_rfl) (by kernel_rfl) (fun _ _ _ h => h) (Or.inl ⟨by rfl, ?_⟩) (by assumption) ?_
              rotate_left
              · (intro w hSw; (try dsimp only at hSw); go_simp; try with_reducible rfl)
              try simp only [Act.put, List.setIfInBounds_toArray, List.set_cons_zero, List.set_cons_succ]
              refine wpAnyH_take (i := 13) (oi := { dst := some 49, op := Op.load 3 (Operand.tmp 48), type := 3, pos := "book.go:45", after := #[gD 12, { on := 11, ground := Ground.guard }], guard := some (11, false) }) (v := ?_) rfl (by kernel_rfl) (by kernel_rfl) (by kernel_rfl) (fun _ _ _ h => h) (Or.inl ⟨by rfl, ?_⟩) (by assumption) ?_
              rotate_left
              · (intro w hSw; (try dsimp only at hSw); go_simp; try with_reducible rfl)
              try simp only [Act.put, List.setIfInBounds_toArray, List.set_cons_zero, List.set_cons_succ]
              refine wpAnyH_take (i := 14) (oi := { dst := some 50, op := Op.move (Operand.tmp 3), type := 3, pos := "book.go:45", after := #[{ on := 11, ground := Ground.guard }], guard := some (11, false) }) (v := ?_) rfl (by kernel_rfl) (by kernel_rfl) (by kernel_rfl) (fun _ _ _ h => h) (Or.inl ⟨by rfl, ?_⟩) (by assumption) ?_
              rotate_left
              · (intro w hSw; (try dsimp only at hSw); go_simp; try with_reducible rfl)
              try simp only [Act.put, List.setIfInBounds_toArray, List.set_cons_zero, List.set_cons_succ]
              refine wpAnyH_take (i := 15) (oi := { dst := some 51, op := Op.binOp BinOp.leq 3 (Operand.tmp 49) (Operand.tmp 50) 3, type := 4, pos := "book.go:45", after := #[gD 13, gD 14, { on := 11, ground := Ground.guard }], guard := some (11, false) }) (v := ?_) rfl (by kernel_rfl) (by kernel_rfl) (by kernel_rfl) (fun _ _ _ h => h) (Or.inl ⟨by rfl, ?_⟩) (by assumption) ?_
              rotate_left
              · (intro w hSw; (try dsimp only at hSw); go_simp; try with_reducible rfl)
              try simp only [Act.put, List.setIfInBounds_toArray, List.set_cons_zero, List.set_cons_succ]
              refine wpAnyH_take (i := 16) (oi := { dst := some 52, op := Op.pick (Operand.tmp 47) (Operand.const (Value.bool true)) (Operand.tmp 51), type := 4, pos := "book.go:45", after := #[gD 11, gD 15], guard := none }) (v := ?_) rfl (by kernel_rfl) (by kernel_rfl) (by kernel_rfl) (fun _ _ _ h => h) (Or.inl ⟨by rfl, ?_⟩) (by assumption) ?_
              rotate_left
              · (intro w hSw; (try dsimp only at hSw); go_simp; try with_reducible rfl)
              try simp only [Act.put, List.setIfInBounds_toArray, List.set_cons_zero, List.set_cons_succ]
              refine wpAnyH_done (by kernel_rfl) ?_ _
              go_wp2_with fail
              have hx1 := HG.out
              have htk : gs.take (k + 1) = gs.take k ++ [gs.getD k default] := by rw [List.take_add_one]; simp [show k < gs.length by omega]
              refine ⟨⟨k + 1, id, rfl, by simp, by omega, ?_, ?_, by omega, .inr ⟨⟨id, ho, pa, mo, st, te⟩, by rw [htk, hx1]; simp, rfl⟩, (hm.then HX2.out.2.2).then m9⟩, by simp [intOf]; omega⟩
              · refine okFrom_take hok (by omega) ⟨by rw [hx1]; exact HGN.out.1, by rw [hx1, HGN.out.2]; omega, fun x hx => ?_, ?_⟩
                · have := hall x hx
                  rw [hx1]
                  show x.id < id
                  omega
                · rw [hx1]
                  show 0 < id
                  omega
              · intro x hx
                rw [htk, hx1] at hx
                rcases List.mem_append.1 hx with hx | hx
                · have := hall x hx
                  omega
                · obtain rfl := List.mem_singleton.1 hx
                  exact Int.le_refl _
      · obtain rfl : k = lv.length := by omega
        rw [← hgl, List.take_length] at hok
        clear h hps hall hat0
        go_wp2_with fail
        go_ret
        exact ⟨by rw [← HV2.out, hok]; rfl, (hgr.mod []).then hm⟩
end Go.Proofs.YtpphoeimakjjdaaGreatDoor
