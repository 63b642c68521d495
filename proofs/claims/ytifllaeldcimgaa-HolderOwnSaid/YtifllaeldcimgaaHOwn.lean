/-
  WALK: the law HolderOwn, its first part: the calls on a nil holder.
-/
import Derived.Test.YtifllaeldcimgaaHPlay
import Derived.Test.YtifllaeldcimgaaHoldE
import Derived.Deep.DeepCutAuto
namespace Go.Proofs.Ytifllaeldcimgaa
open Go.RowKit

/-- the law's argument, boxed, as it was -/
structure LiveO (W : World) (ab : Nat) (o : Obj) (q : Option Addr) (a : List Int) (c : Nat) (w : World) : Prop where
  at_ : w.heap[ab]? = some o
  rd : RdN w (.slice q a.length c) a
  mod : Mod [] W w
theorem LiveO.mod' {W : World} {ab : Nat} {o : Obj} {q : Option Addr} {a : List Int} {c : Nat} {w w' : World} (h : LiveO W ab o q a c w) (m : Mod [] w w') : LiveO W ab o q a c w' := ⟨m.at_ h.at_ (by simp), h.rd.mod m (by simp), h.mod.then m⟩
theorem so_of {W : World} {ab : Nat} {kd nw st f i m t s e : Int} {p : ByteArray} {a : List Int} {r : Bool} {q : Option Addr} {c : Nat} {w' : World} (h : LiveO W ab (objO kd nw st f i p m (.slice q a.length c) t s e r) q a c w') :
    LiveO W ab (objO kd nw st f i p m (.slice q a.length c) t s e r) q a c w' ∧ w'.cell? ⟨ab, 1, none⟩ = some (.int .i64 nw) ∧ w'.cell? ⟨ab, 2, none⟩ = some (.int .i64 st) ∧ w'.cell? ⟨ab, 3, none⟩ = some (.int .i64 f) ∧ w'.cell? ⟨ab, 4, none⟩ = some (.int .i64 i) ∧ w'.cell? ⟨ab, 5, none⟩ = some (.string p) ∧
      w'.cell? ⟨ab, 6, none⟩ = some (.int .i64 m) ∧ w'.cell? ⟨ab, 7, none⟩ = some (.slice q a.length c) ∧ w'.cell? ⟨ab, 8, none⟩ = some (.int .i64 t) ∧ w'.cell? ⟨ab, 9, none⟩ = some (.int .i64 s) ∧ w'.cell? ⟨ab, 10, none⟩ = some (.int .i64 e) ∧ w'.cell? ⟨ab, 11, none⟩ = some (.bool r) :=
  ⟨h, blk_cell h.at_ 1, blk_cell h.at_ 2, blk_cell h.at_ 3, blk_cell h.at_ 4, blk_cell h.at_ 5, blk_cell h.at_ 6, blk_cell h.at_ 7, blk_cell h.at_ 8, blk_cell h.at_ 9, blk_cell h.at_ 10, blk_cell h.at_ 11⟩
def ops25 : Array Oper := #[
  { dst := some 214, op := Op.move (Operand.tmp 13), type := 33, pos := "law.go:277", after := #[], guard := none },
  { dst := some 215, op := Op.move (Operand.tmp 13), type := 33, pos := "law.go:277", after := #[], guard := none },
  { dst := some 216, op := Op.indexAddr 33 (Operand.tmp 215) (Operand.const (Value.int IntKind.i64 0)), type := 0, pos := "law.go:277", after := #[{ on := 1, ground := Ground.data }], guard := none },
  { dst := some 217, op := Op.fieldAddr 30 (Operand.tmp 216) 4, type := 0, pos := "law.go:277", after := #[{ on := 2, ground := Ground.data }], guard := none },
  { dst := some 218, op := Op.load 28 (Operand.tmp 217), type := 28, pos := "law.go:277", after := #[{ on := 3, ground := Ground.data }], guard := none },
  { dst := some 219, op := Op.buildSlice 28 1 #[(0, Operand.const (Value.int IntKind.i64 1))], type := 28, pos := "law.go:277", after := #[], guard := none },
  { dst := some 220, op := Op.call { callee := Callee.builtin Builtin.append, args := #[Operand.tmp 218, Operand.tmp 219], argTypes := #[28, 28] }, type := 28, pos := "law.go:277", after := #[{ on := 4, ground := Ground.data }, { on := 5, ground := Ground.data }], guard := none },
  { dst := some 221, op := Op.fieldAddr 30 (Operand.tmp 15) 4, type := 0, pos := "law.go:277", after := #[], guard := none },
  { dst := some 222, op := Op.load 28 (Operand.tmp 221), type := 28, pos := "law.go:277", after := #[{ on := 7, ground := Ground.data }], guard := none },
  { dst := some 223, op := Op.buildSlice 28 1 #[(0, Operand.const (Value.int IntKind.i64 2))], type := 28, pos := "law.go:277", after := #[], guard := none },
  { dst := some 224, op := Op.call { callee := Callee.builtin Builtin.append, args := #[Operand.tmp 222, Operand.tmp 223], argTypes := #[28, 28] }, type := 28, pos := "law.go:277", after := #[{ on := 8, ground := Ground.data }, { on := 9, ground := Ground.data }, { on := 6, ground := Ground.chain }], guard := none },
  { dst := some 225, op := Op.fieldAddr 30 (Operand.tmp 17) 4, type := 0, pos := "law.go:277", after := #[], guard := none },
  { dst := some 226, op := Op.load 28 (Operand.tmp 225), type := 28, pos := "law.go:277", after := #[{ on := 11, ground := Ground.data }], guard := none },
  { dst := some 227, op := Op.buildSlice 28 1 #[(0, Operand.const (Value.int IntKind.i64 3))], type := 28, pos := "law.go:277", after := #[], guard := none },
  { dst := some 228, op := Op.call { callee := Callee.builtin Builtin.append, args := #[Operand.tmp 226, Operand.tmp 227], argTypes := #[28, 28] }, type := 28, pos := "law.go:277", after := #[{ on := 12, ground := Ground.data }, { on := 13, ground := Ground.data }, { on := 10, ground := Ground.chain }], guard := none },
  { dst := some 229, op := Op.indexAddr 33 (Operand.tmp 214) (Operand.const (Value.int IntKind.i64 0)), type := 0, pos := "law.go:277", after := #[{ on := 0, ground := Ground.data }, { on := 0, ground := Ground.phase }, { on := 1, ground := Ground.phase }, { on := 2, ground := Ground.phase }, { on := 3, ground := Ground.phase }, { on := 4, ground := Ground.phase }, { on := 5, ground := Ground.phase }, { on := 6, ground := Ground.phase }, { on := 7, ground := Ground.textOnly Departure.lateStores }, { on := 8, ground := Ground.textOnly Departure.lateStores }, { on := 9, ground := Ground.textOnly Departure.lateStoresUnsure }, { on := 10, ground := Ground.phase }, { on := 11, ground := Ground.textOnly Departure.lateStores }, { on := 12, ground := Ground.textOnly Departure.lateStores }, { on := 13, ground := Ground.textOnly Departure.lateStoresUnsure }, { on := 14, ground := Ground.phase }], guard := none },
  { dst := some 230, op := Op.fieldAddr 30 (Operand.tmp 229) 4, type := 0, pos := "law.go:277", after := #[{ on := 15, ground := Ground.data }, { on := 0, ground := Ground.phase }, { on := 1, ground := Ground.phase }, { on := 2, ground := Ground.phase }, { on := 3, ground := Ground.phase }, { on := 4, ground := Ground.phase }, { on := 5, ground := Ground.phase }, { on := 6, ground := Ground.phase }, { on := 7, ground := Ground.textOnly Departure.lateStores }, { on := 8, ground := Ground.textOnly Departure.lateStores }, { on := 9, ground := Ground.textOnly Departure.lateStoresUnsure }, { on := 10, ground := Ground.phase }, { on := 11, ground := Ground.textOnly Departure.lateStores }, { on := 12, ground := Ground.textOnly Departure.lateStores }, { on := 13, ground := Ground.textOnly Departure.lateStoresUnsure }, { on := 14, ground := Ground.phase }], guard := none },
  { dst := none, op := Op.store 28 (Operand.tmp 230) (Operand.tmp 220), type := 0, pos := "law.go:277", after := #[{ on := 16, ground := Ground.data }, { on := 6, ground := Ground.data }, { on := 14, ground := Ground.chain }, { on := 0, ground := Ground.phase }, { on := 1, ground := Ground.phase }, { on := 2, ground := Ground.phase }, { on := 3, ground := Ground.phase }, { on := 4, ground := Ground.phase }, { on := 5, ground := Ground.phase }, { on := 6, ground := Ground.phase }, { on := 7, ground := Ground.textOnly Departure.lateStores }, { on := 8, ground := Ground.textOnly Departure.lateStores }, { on := 9, ground := Ground.textOnly Departure.lateStoresUnsure }, { on := 10, ground := Ground.phase }, { on := 11, ground := Ground.textOnly Departure.lateStores }, { on := 12, ground := Ground.textOnly Departure.lateStores }, { on := 13, ground := Ground.textOnly Departure.lateStoresUnsure }, { on := 14, ground := Ground.phase }], guard := none },
  { dst := some 231, op := Op.fieldAddr 30 (Operand.tmp 15) 4, type := 0, pos := "law.go:277", after := #[{ on := 0, ground := Ground.phase }, { on := 1, ground := Ground.phase }, { on := 2, ground := Ground.phase }, { on := 3, ground := Ground.phase }, { on := 4, ground := Ground.phase }, { on := 5, ground := Ground.phase }, { on := 6, ground := Ground.phase }, { on := 7, ground := Ground.phase }, { on := 8, ground := Ground.phase }, { on := 9, ground := Ground.phase }, { on := 10, ground := Ground.phase }, { on := 11, ground := Ground.textOnly Departure.lateStores }, { on := 12, ground := Ground.textOnly Departure.lateStores }, { on := 13, ground := Ground.textOnly Departure.lateStoresUnsure }, { on := 14, ground := Ground.phase }, { on := 15, ground := Ground.phase }, { on := 16, ground := Ground.phase }, { on := 17, ground := Ground.phase }], guard := none },
  { dst := none, op := Op.store 28 (Operand.tmp 231) (Operand.tmp 224), type := 0, pos := "law.go:277", after := #[{ on := 18, ground := Ground.data }, { on := 10, ground := Ground.data }, { on := 17, ground := Ground.chain }, { on := 0, ground := Ground.phase }, { on := 1, ground := Ground.phase }, { on := 2, ground := Ground.phase }, { on := 3, ground := Ground.phase }, { on := 4, ground := Ground.phase }, { on := 5, ground := Ground.phase }, { on := 6, ground := Ground.phase }, { on := 7, ground := Ground.phase }, { on := 8, ground := Ground.phase }, { on := 9, ground := Ground.phase }, { on := 10, ground := Ground.phase }, { on := 11, ground := Ground.textOnly Departure.lateStores }, { on := 12, ground := Ground.textOnly Departure.lateStores }, { on := 13, ground := Ground.textOnly Departure.lateStoresUnsure }, { on := 14, ground := Ground.phase }, { on := 15, ground := Ground.phase }, { on := 16, ground := Ground.phase }, { on := 17, ground := Ground.phase }], guard := none },
  { dst := some 232, op := Op.fieldAddr 30 (Operand.tmp 17) 4, type := 0, pos := "law.go:277", after := #[{ on := 0, ground := Ground.phase }, { on := 1, ground := Ground.phase }, { on := 2, ground := Ground.phase }, { on := 3, ground := Ground.phase }, { on := 4, ground := Ground.phase }, { on := 5, ground := Ground.phase }, { on := 6, ground := Ground.phase }, { on := 7, ground := Ground.phase }, { on := 8, ground := Ground.phase }, { on := 9, ground := Ground.phase }, { on := 10, ground := Ground.phase }, { on := 11, ground := Ground.phase }, { on := 12, ground := Ground.phase }, { on := 13, ground := Ground.phase }, { on := 14, ground := Ground.phase }, { on := 15, ground := Ground.phase }, { on := 16, ground := Ground.phase }, { on := 17, ground := Ground.phase }, { on := 18, ground := Ground.phase }, { on := 19, ground := Ground.phase }], guard := none },
  { dst := none, op := Op.store 28 (Operand.tmp 232) (Operand.tmp 228), type := 0, pos := "law.go:277", after := #[{ on := 20, ground := Ground.data }, { on := 14, ground := Ground.data }, { on := 19, ground := Ground.chain }, { on := 0, ground := Ground.phase }, { on := 1, ground := Ground.phase }, { on := 2, ground := Ground.phase }, { on := 3, ground := Ground.phase }, { on := 4, ground := Ground.phase }, { on := 5, ground := Ground.phase }, { on := 6, ground := Ground.phase }, { on := 7, ground := Ground.phase }, { on := 8, ground := Ground.phase }, { on := 9, ground := Ground.phase }, { on := 10, ground := Ground.phase }, { on := 11, ground := Ground.phase }, { on := 12, ground := Ground.phase }, { on := 13, ground := Ground.phase }, { on := 14, ground := Ground.phase }, { on := 15, ground := Ground.phase }, { on := 16, ground := Ground.phase }, { on := 17, ground := Ground.phase }, { on := 18, ground := Ground.phase }, { on := 19, ground := Ground.phase }], guard := none }]
theorem reach25 {l : Array Bool} (hc : Cl .any ops25 l) {i : Nat} (hi : i = 4 ∨ i = 8 ∨ i = 12) (hu : l.getD i true = false) : l.getD 17 true = false := by
  cases h : l.getD 17 false with
  | false => exact getD_in (by rw [hc.size]; decide) h
  | true =>
    have a := hc.step (k := 14) (by kernel_rfl) h
    have b := hc.step (k := 10) (by kernel_rfl) a
    have c := hc.step (k := 6) (by kernel_rfl) b
    rcases hi with rfl | rfl | rfl
    · have := hc.step (k := 4) (by kernel_rfl) c
      rw [getD_tf hu] at this
      cases this
    · have := hc.step (k := 8) (by kernel_rfl) b
      rw [getD_tf hu] at this
      cases this
    · have := hc.step (k := 12) (by kernel_rfl) a
      rw [getD_tf hu] at this
      cases this
theorem ow1 : addS 0 [] 0 0 ⟨0, 1, { data := #[97] }, 2, [4, 5], 30, 0, 0, false⟩ = ([⟨0, 1, { data := #[97] }, 2, [4, 5], 30, 0, 30, false⟩], 0) := by decide +kernel
theorem ow2 : renewedS 0 [⟨0, 1, { data := #[97] }, 2, [4, 5], 30, 0, 30, false⟩] 1 1 (0, 1) [4, 6] 30 = ([⟨0, 1, { data := #[97] }, 2, [4, 6], 30, 1, 31, false⟩], true) := by decide +kernel
theorem ow3 : getL [⟨0, 1, { data := #[97] }, 2, [4, 6], 30, 1, 31, false⟩] (0, 1) = some ⟨0, 1, { data := #[97] }, 2, [4, 6], 30, 1, 31, false⟩ := by decide +kernel
theorem ow4 : useS [⟨0, 1, { data := #[97] }, 2, [4, 6], 30, 1, 31, false⟩] 1 ({ data := #[97] } : ByteArray).data.toList 1 = (some ⟨0, 1, { data := #[97] }, 2, [4, 6], 30, 1, 31, false⟩, 0) := by decide +kernel
set_option maxHeartbeats 100000000 in
set_option maxRecDepth 100000 in
theorem hown_any {W : World} (kd nw st f i m t s e : Int) (p : ByteArray) (a : List Int) (r : Bool) (q : Option Addr) (c : Nat) (hv : RdN W (.slice q a.length c) a) (hs : a.length * 8 ≤ 140737488355328) :
    Calls Try.prog 7 #[.agg #[.int .i64 kd, .int .i64 nw, .int .i64 st, .int .i64 f, .int .i64 i, .string p, .int .i64 m, .slice q a.length c, .int .i64 t, .int .i64 s, .int .i64 e, .bool r]] W fun e w' => e = .returned (.bool true) ∧ Mod [] W w' := by
  go_enter Try.func7, Try.ntmps7
  go_wp2_with fail
  refine (awake_any _).mono ?_
  rintro en w1 ⟨rfl, hm1⟩
  have hB1 := hm1.at_ (heap_alloc_new W (objO kd nw st f i p m (.slice q a.length c) t s e r)) (by simp)
  have hm1 := (((Gr.refl W).alloc (objO kd nw st f i p m (.slice q a.length c) t s e r)).mod []).then hm1
  have hR1 := hv.mod hm1 (by simp)
  clear hv
  generalize W.heap.size = ab at hB1 ⊢
  have HB := hide hB1
  have C := blk_cell hB1
  have H1 := hide (And.intro hm1 hR1)
  clear hm1 hR1 hB1
  go_wp2_with fail
  refine (use_nil2 nw p m _).mono ?_
  rintro en w2 ⟨q2, c2, rfl, hm2⟩
  clear C
  have H2 := hide (And.intro ((H1.out.1.then hm2).alloc (objL 0 0 ByteArray.empty 0 (.slice q2 0 c2) 0 0 0 false)) (And.intro ((H1.out.2.mod hm2 (by simp)).gr ((Gr.refl w2).alloc (objL 0 0 ByteArray.empty 0 (.slice q2 0 c2) 0 0 0 false))) (blk_alloc (hm2.at_ HB.out (by simp)) (objL 0 0 ByteArray.empty 0 (.slice q2 0 c2) 0 0 0 false))))
  have C := blk_cell H2.out.2.2
  clear hm2 HB H1
  go_wp2_with fail
  refine (get_nil2 f i _).mono ?_
  rintro en w3 ⟨q3, c3, rfl, hm3⟩
  clear C
  have H3 := hide (And.intro ((H2.out.1.then hm3).alloc (objL 0 0 ByteArray.empty 0 (.slice q3 0 c3) 0 0 0 false)) (And.intro ((H2.out.2.1.mod hm3 (by simp)).gr ((Gr.refl w3).alloc (objL 0 0 ByteArray.empty 0 (.slice q3 0 c3) 0 0 0 false))) (blk_alloc (hm3.at_ H2.out.2.2 (by simp)) (objL 0 0 ByteArray.empty 0 (.slice q3 0 c3) 0 0 0 false))))
  clear hm3 H2
  go_upto_region 7 with fail
  generalize w3.alloc (objL 0 0 ByteArray.empty 0 (.slice q3 0 c3) 0 0 0 false) = w4 at H3 ⊢
  have HLive : LiveO W ab (objO kd nw st f i p m (.slice q a.length c) t s e r) q a c w4 := ⟨H3.out.2.2, H3.out.2.1, H3.out.1⟩
  have hfl : ∀ (q5 : Option Addr) (c5 : Nat) (X : World), (Instr.field 30 (.agg #[.int .i64 f, .int .i64 i, .string p, .int .i64 m, .slice q5 a.length c5, .int .i64 t, .int .i64 s, .int .i64 e, .bool r]) 4).run Try.prog X = .ok (.slice q5 a.length c5) X := fun _ _ _ => by kernel_rfl
  clear H3
  go_cut [117] (fun s117 wx => s117 = .bool false ∧ Mod [] W wx)
  case first =>
    as_aux_lemma =>
      simp only [List.append_eq, List.cons_append, List.nil_append]
      go_region_held3 (fun w' => LiveO W ab (objO kd nw st f i p m (.slice q a.length c) t s e r) q a c w' ∧ w'.cell? ⟨ab, 1, none⟩ = some (.int .i64 nw) ∧ w'.cell? ⟨ab, 2, none⟩ = some (.int .i64 st) ∧ w'.cell? ⟨ab, 3, none⟩ = some (.int .i64 f) ∧ w'.cell? ⟨ab, 4, none⟩ = some (.int .i64 i) ∧ w'.cell? ⟨ab, 5, none⟩ = some (.string p) ∧
          w'.cell? ⟨ab, 6, none⟩ = some (.int .i64 m) ∧ w'.cell? ⟨ab, 7, none⟩ = some (.slice q a.length c) ∧ w'.cell? ⟨ab, 8, none⟩ = some (.int .i64 t) ∧ w'.cell? ⟨ab, 9, none⟩ = some (.int .i64 s) ∧ w'.cell? ⟨ab, 10, none⟩ = some (.int .i64 e) ∧ w'.cell? ⟨ab, 11, none⟩ = some (.bool r))
        (first | (exact so_of (LiveO.mod' HLive (((Gr.refl _).drew).mod []))) | (go_split_ands; exact so_of (LiveO.mod' (by assumption) hmX)))
        (first | (go_at_call 16; go_split_ands; refine (own_any (LiveO.rd (by assumption)) hs _ _ _ _ _ _ _ _).mono ?_; rintro en wX ⟨q5, c5, rfl, hr5, ho5, hmX⟩) | (go_at_call 11; refine (hadd_nil _ _ _ _ _ _ _ _ _ _ _ _ ⟨_, _, _, rfl⟩).mono ?_; rintro en wX ⟨rfl, hgX⟩; have hmX := hgX.mod []) | (go_at_call 21; refine (hrenewed_nil _ _ _ _ _ _ _).mono ?_; rintro en wX ⟨rfl, hmX⟩) | (go_at_call 20; refine (hrecall_nil _ _ _).mono ?_; rintro en wX ⟨rfl, hmX⟩) | (go_at_call 22; refine (hdrop_nil _ _ _).mono ?_; rintro en wX ⟨rfl, hmX⟩) | (go_at_call 23; refine (hsweep_nil _ _).mono ?_; rintro en wX ⟨rfl, hgX⟩; have hmX := hgX.mod []) | (go_at_call 12; refine (list_nil2 _).mono ?_; rintro en wX ⟨rfl, hmX⟩))
      go_wp2_with fail
      have hmW : Mod [] W wX := by rename_i hHH; exact hHH.1.mod
      go_meet
      case rel => exact ⟨rfl, hmW⟩
  case rest =>
    obtain ⟨rfl, hmW⟩ := hcut
    obtain ⟨w0, rfl⟩ : ∃ w0 : World, w0 = wc := ⟨_, rfl⟩
    have HW := hide hmW
    clear hmW hm1 HLive hfl hs
    go_wp2_with fail
    refine (hnew_ok 0 (by omega) w0).mono ?_
    rintro en y1 ⟨rfl, hd1, hg1⟩
    have s1 : HS w0 y1 (w0.heap.size + 1) w0.heap.size [] 0 [] := ⟨hd1, hg1.mod [], by omega, by omega⟩
    clear hd1 hg1
    generalize w0.heap.size + 1 = ph at s1 ⊢
    generalize hP : w0.heap.size = pm at s1
    clear hP
    go_wp2_with fail
    refine (one_any _).mono ?_
    rintro en y3 ⟨q3, c3, rfl, hv3, hob3, hm3⟩
    have lt1 := s1.hd.lt
    have sz1 := s1.mod.size
    have b2 := heap_alloc_new y1 (.cells #[.int .i64 4, .int .i64 5, .int .i64 (-91)] 3)
    have s2 := s1.gr ((Gr.refl y1).alloc (.cells #[.int .i64 4, .int .i64 5, .int .i64 (-91)] 3))
    have sz2 := hm3.size
    simp only [World.size_alloc] at sz2
    generalize hfbE : y1.heap.size = fb at lt1 sz1 b2 sz2 ⊢
    clear hfbE
    have s3 := (s2.same hm3).gr ((Gr.refl y3).alloc (objL 0 1 pathA 2 (.slice (some ⟨fb, 0, none⟩) 2 3) 30 0 0 false))
    have b3 := blk_alloc (hm3.at_ b2 (by simp)) (objL 0 1 pathA 2 (.slice (some ⟨fb, 0, none⟩) 2 3) 30 0 0 false)
    have H3 := hide (And.intro s3 (And.intro b3 (And.intro lt1 (And.intro sz1 sz2))))
    clear s1 s2 s3 b2 b3 hv3 hob3 hm3 lt1 sz1 sz2
    simp only [aggL, cellsL, oneL]
    go_wp2_with fail
    obtain ⟨s3, b3, lt1, sz1, sz2⟩ := H3.out
    have hv4 := rd_two b3
    refine (add_eq s3.hd 0 1 2 30 0 0 { data := #[97] } [4, 5] false (some ⟨fb, 0, none⟩) 3 0 0 (by decide) hv4 (by simp [ob, Value.ownBlock]; omega) ow1).mono ?_
    rintro en y5 ⟨rfl, fs5, hd5, ht5⟩
    have s5 := s3.to hd5 ht5
    have b5 := ht5.mod.at_ b3 (by simp; omega)
    have hfs5 : fb ∉ fs5 := fun e => by
      rcases ht5.own _ e with e | e
      · cases e
      · simp at e; omega
    have sz5 := ht5.mod.size
    simp only [World.size_alloc] at sz5
    have C5 := blk_cell b5
    have F5 := blk_free b5
    have L5 := lt_of_block b5
    have H5 := hide (And.intro s5 (And.intro b5 (And.intro hfs5 (And.intro lt1 (And.intro sz1 L5)))))
    clear s3 b3 hv4 hd5 ht5 s5 b5 hfs5 lt1 sz1 sz2 sz5 H3
    go_wp2_with fail
    obtain ⟨s5, b5, hfs5, lt1, sz1, -⟩ := H5.out
    have m6 := (Mod.refl [fb] y5).setCell (p := ⟨fb, 0, none⟩) (fun _ => by simp) (.int .i64 40)
    have s6 := s5.put m6 (fun k hk => by
      obtain rfl : k = fb := by simpa using hk
      exact ⟨sz1, by omega, by omega, hfs5⟩)
    have e6 : (y5.setCell ⟨fb, 0, none⟩ (.int .i64 40)).heap.size = y5.heap.size := by simp
    generalize y5.setCell ⟨fb, 0, none⟩ (.int .i64 40) = y6 at m6 s6 e6 ⊢
    have b7 := heap_alloc_new y6 (.cells #[.int .i64 4, .int .i64 6, .int .i64 (-92)] 3)
    have s7 := s6.gr ((Gr.refl y6).alloc (.cells #[.int .i64 4, .int .i64 6, .int .i64 (-92)] 3))
    have lt6 := s6.hd.lt
    have sz6 := s6.mod.size
    have hfs6 := s6.hd.lts
    simp only [e6] at b7 lt6 sz6 hfs6
    generalize hubE : y5.heap.size = ub at b7 lt6 sz6 hfs6 e6 ⊢
    refine (renewed_eq s7.hd 1 1 0 1 30 [4, 6] (some ⟨ub, 0, none⟩) 3 i64_0 i64_1 (rd_two b7) ow2).mono ?_
    rintro en y8 ⟨rfl, fs8, hd8, ht8⟩
    have s8 := s7.to hd8 ht8
    have b8 := ht8.mod.at_ b7 (by simp; omega)
    have hfs8 : ub ∉ fs8 := fun e => by
      rcases ht8.own _ e with e | e
      · have := hfs6 _ e; omega
      · simp at e; omega
    have C8 := blk_cell b8
    have F8 := blk_free b8
    have L8 := lt_of_block b8
    have H8 := hide (And.intro s8 (And.intro b8 (And.intro hfs8 (And.intro lt6 sz6))))
    clear s5 b5 hfs5 lt1 sz1 m6 s6 e6 b7 s7 lt6 sz6 hfs6 hd8 ht8 s8 b8 hfs8 C5 F5 L5 H5 hubE
    go_wp2_with fail
    obtain ⟨s8, b8, hfs8, lt6, sz6⟩ := H8.out
    have m9 := (Mod.refl [ub] y8).setCell (p := ⟨ub, 0, none⟩) (fun _ => by simp) (.int .i64 41)
    have s9 := s8.put m9 (fun k hk => by
      obtain rfl : k = ub := by simpa using hk
      exact ⟨sz6, by omega, by omega, hfs8⟩)
    generalize y8.setCell ⟨ub, 0, none⟩ (.int .i64 41) = y9 at m9 s9 ⊢
    have H9 := hide (And.intro s9.hd.lt (And.intro s9.mod.size s9.hd.lts))
    clear s8 b8 hfs8 lt6 sz6 m9 H8 C8 F8 L8
    refine (list_one s9.hd).mono ?_
    rintro en y10 ⟨pb, pc, sp, sc, rfl, hp10, hs10, lt10, hm10⟩
    have s10 := s9.same hm10
    have H10 := hide (And.intro s10 (And.intro hp10 (And.intro hs10 lt10)))
    clear s9 s10 hp10 hs10 lt10 hm10
    go_wp2_with fail
    obtain ⟨s10, hp10, hs10, lt10⟩ := H10.out
    refine (list_one s10.hd).mono ?_
    rintro en y11 ⟨qb, qc, tq, tc, rfl, hq11, ht11, lt11, hm11⟩
    have s11 := s10.same hm11
    have H11 := hide (And.intro s11 (And.intro (hm11.row hp10 (by simp)) (And.intro (hs10.mod hm11 (by simp)) (And.intro hq11 (And.intro ht11 (And.intro lt10 lt11))))))
    clear s10 hp10 hs10 lt10 s11 hq11 ht11 lt11 hm11 H10
    go_wp2_with fail
    obtain ⟨s11, hp11, hs11, hq11, ht11, lt10, lt11⟩ := H11.out
    refine (get_one s11.hd 0 1 i64_0 i64_1 ow3).mono ?_
    rintro en y12 ⟨sx, xc, rfl, hx12, lt12, hm12⟩
    have g13 := (Gr.refl y12).alloc (objL 0 1 { data := #[97] } 2 (.slice (some ⟨sx, 0, none⟩) 2 xc) 30 1 31 false)
    have m13 := hm12.gr g13
    have s13 := s11.same m13
    have b13 := heap_alloc_new y12 (objL 0 1 { data := #[97] } 2 (.slice (some ⟨sx, 0, none⟩) 2 xc) 30 1 31 false)
    have sz13 := m13.size
    have H13 := hide (And.intro s13 (And.intro (m13.row hp11 (by simp)) (And.intro (hs11.mod m13 (by simp)) (And.intro (m13.row hq11 (by simp)) (And.intro (ht11.mod m13 (by simp)) (And.intro (hx12.gr g13) (And.intro b13 (And.intro lt10 (And.intro lt11 (And.intro lt12 (And.intro sz13 hm12.size)))))))))))
    clear s11 hp11 hs11 hq11 ht11 lt10 lt11 H11 hx12 lt12 hm12 g13 m13 s13 b13 sz13
    go_wp2_with fail
    obtain ⟨s13, hp13, hs13, hq13, ht13, hx13, b13, lt10, lt11, lt12, sz13, sz12⟩ := H13.out
    refine (use_one s13.hd 1 { data := #[97] } 1 (by decide) ow4).mono ?_
    rintro en y14 ⟨sy, yc, rfl, hy14, lt14, hm14⟩
    have g15 := (Gr.refl y14).alloc (objL 0 1 { data := #[97] } 2 (.slice (some ⟨sy, 0, none⟩) 2 yc) 30 1 31 false)
    have m15 := hm14.gr g15
    have b15 := heap_alloc_new y14 (objL 0 1 { data := #[97] } 2 (.slice (some ⟨sy, 0, none⟩) 2 yc) 30 1 31 false)
    have b15x := m15.at_ b13 (by simp)
    have sz14 := hm14.size
    simp only [World.size_alloc] at lt14 sz14 sz13
    have H15 := hide (And.intro (s13.same m15) (And.intro (m15.row hp13 (by simp)) (And.intro (hs13.mod m15 (by simp)) (And.intro (m15.row hq13 (by simp)) (And.intro (ht13.mod m15 (by simp)) (And.intro (hx13.mod m15 (by simp)) (And.intro b15x (And.intro (hy14.gr g15) b15))))))))
    have CX := blk_cell b15x
    have CY := blk_cell b15
    have HLT := hide (And.intro lt10 (And.intro lt11 (And.intro lt12 (And.intro sz13 (And.intro sz12 (And.intro lt14 sz14))))))
    clear s13 hp13 hs13 hq13 ht13 hx13 b13 lt10 lt11 lt12 sz13 sz12 hy14 lt14 hm14 g15 m15 b15 b15x sz14 H13
    go_wp2_with fail
    obtain ⟨s15, hp15, hs15, hq15, ht15, hx15, bx15, hy15, by15⟩ := H15.out
    obtain ⟨lt9, sz9, fs9⟩ := H9.out
    obtain ⟨⟨a1, a2, a3, a4, a5⟩, ⟨a6, a7, a8, a9, a10⟩, ⟨a11, a12⟩, a13, a14, ⟨a15, a16⟩, a17⟩ := HLT.out
    have hA : Apart ⟨w0, ph, pm, fs8, pb, pc, sp, sc, qb, qc, tq, tc, y12.heap.size, sx, xc, y14.heap.size, sy, yc⟩ := ⟨by simp only [List.nodup_cons, List.mem_cons, List.mem_nil_iff, not_or, or_false, List.nodup_nil, and_true, not_false_eq_true]; omega, fun k hk => by
      have hk9 : y9.heap.size ≤ k := by
        simp only [List.mem_cons, List.mem_nil_iff, or_false] at hk
        omega
      refine ⟨show w0.heap.size ≤ k by omega, show k ≠ ph by omega, show k ≠ pm by omega, fun e => by have := fs9 k e; omega⟩⟩
    have hst : StO ⟨w0, ph, pm, fs8, pb, pc, sp, sc, qb, qc, tq, tc, y12.heap.size, sx, xc, y14.heap.size, sy, yc⟩ 4 4 4 (y14.alloc (objL 0 1 { data := #[97] } 2 (.slice (some ⟨sy, 0, none⟩) 2 yc) 30 1 31 false)) := ⟨s15, hp15, hs15, hq15, ht15, bx15, hx15, by15, hy15⟩
    clear s15 hp15 hs15 hq15 ht15 hx15 bx15 hy15 by15 lt9 sz9 fs9 a1 a2 a3 a4 a5 a6 a7 a8 a9 a10 a11 a12 a13 a14 a15 a16 a17 H15 HLT H9 CX CY
    generalize y14.alloc (objL 0 1 { data := #[97] } 2 (.slice (some ⟨sy, 0, none⟩) 2 yc) 30 1 31 false) = y at hst ⊢
    generalize y12.heap.size = xb at hst hA ⊢
    generalize y14.heap.size = yb at hst hA ⊢
    have HA := hide hA
    have HST := hide hst
    clear hst hA
    go_cut [] (fun wx => StO ⟨w0, ph, pm, fs8, pb, pc, sp, sc, qb, qc, tq, tc, xb, sx, xc, yb, sy, yc⟩ 81 82 83 wx)
    case first =>
      have hst := HST.out
      have P4 : y.cell? ⟨pb, 4, none⟩ = some (.slice (some ⟨sp, 0, none⟩) 2 sc) := World.ownsRow.cellAt hst.p 4 (by decide)
      have X4 : y.cell? ⟨xb, 4, none⟩ = some (.slice (some ⟨sx, 0, none⟩) 2 xc) := blk_cell hst.x 4
      have Y4 : y.cell? ⟨yb, 4, none⟩ = some (.slice (some ⟨sy, 0, none⟩) 2 yc) := blk_cell hst.y 4
      have S0 : y.cell? ⟨sp, 0, none⟩ = some (.int .i64 4) := hst.ps.at0
      have T0 : y.cell? ⟨sx, 0, none⟩ = some (.int .i64 4) := hst.xs.at0
      have U0 : y.cell? ⟨sy, 0, none⟩ = some (.int .i64 4) := hst.ys.at0
      have S1 : y.frozen? ⟨sp, 0, none⟩ = false := hst.ps.free 0
      have T1 : y.frozen? ⟨sx, 0, none⟩ = false := hst.xs.free 0
      have U1 : y.frozen? ⟨sy, 0, none⟩ = false := hst.ys.free 0
      have hn := HA.out.n
      simp only [List.nodup_cons, List.mem_cons, not_or] at hn
      obtain ⟨⟨h1, -, -, h4, h5, h6, h7, -⟩, ⟨-, -, k4, k5, k6, k7, -⟩, -, -, ⟨n5, n6, n7, -⟩, ⟨o6, o7, -⟩, ⟨q7, -⟩, -⟩ := hn
      have h1' := Ne.symm h1
      have h5' := Ne.symm h5
      have h7' := Ne.symm h7
      have k4' := Ne.symm k4
      have k5' := Ne.symm k5
      have k6' := Ne.symm k6
      have k7' := Ne.symm k7
      have n5' := Ne.symm n5
      have n7' := Ne.symm n7
      have o6' := Ne.symm o6
      have o7' := Ne.symm o7
      have q7' := Ne.symm q7
      clear hst h4 h6 n6
      go_region
      all_goals
        go_wp2_with fail
        go_meet
        case rel => exact (((HST.out.putp HA.out 81).putx HA.out 82).puty HA.out 83).gr (Gr.refl _).drew
    case rest =>
      have HST2 := hide hcut
      clear hcut HST
      go_wp2_with fail
      go_cut [] (fun wx => End25 ⟨w0, ph, pm, fs8, pb, pc, sp, sc, qb, qc, tq, tc, xb, sx, xc, yb, sy, yc⟩ wx)
      case first =>
        have h0 := (StO.start HST2.out).gr HA.out (Gr.refl wc).drew
        clear HST2
        refine wpL_start (ops := ops25) (s := 17) (T := T25 ⟨w0, ph, pm, fs8, pb, pc, sp, sc, qb, qc, tq, tc, xb, sx, xc, yb, sy, yc⟩) (by kernel_rfl) (fun hc => ?_)
        generalize wc.heap.size = N at h0
        generalize wc.drew = X0 at h0 ⊢
        --BEGIN25
        refine wpL_pure (i := 0) (oi := { dst := some 214, op := Op.move (Operand.tmp 13), type := 33, pos := "law.go:277", after := #[], guard := none }) (v := ?_) rfl (by kernel_rfl) (by kernel_rfl) (by kernel_rfl) (fun _ _ _ h => h) (by decide) hc (Or.inl ⟨by rfl, ?_⟩) (fun _ => R25.T h0) (fun hc2 => ?_)
        rotate_left
        · (intro w _; go_simp; try with_reducible rfl)
        clear hc; have hc := hc2; clear hc2
        try simp only [Act.put, List.setIfInBounds_toArray, List.set_cons_zero, List.set_cons_succ]
        refine wpL_pure (i := 1) (oi := { dst := some 215, op := Op.move (Operand.tmp 13), type := 33, pos := "law.go:277", after := #[], guard := none }) (v := ?_) rfl (by kernel_rfl) (by kernel_rfl) (by kernel_rfl) (fun _ _ _ h => h) (by decide) hc (Or.inl ⟨by rfl, ?_⟩) (fun _ => R25.T h0) (fun hc2 => ?_)
        rotate_left
        · (intro w _; go_simp; try with_reducible rfl)
        clear hc; have hc := hc2; clear hc2
        try simp only [Act.put, List.setIfInBounds_toArray, List.set_cons_zero, List.set_cons_succ]
        refine wpL_pure (i := 2) (oi := { dst := some 216, op := Op.indexAddr 33 (Operand.tmp 215) (Operand.const (Value.int IntKind.i64 0)), type := 0, pos := "law.go:277", after := #[{ on := 1, ground := Ground.data }], guard := none }) (v := ?_) rfl (by kernel_rfl) (by kernel_rfl) (by kernel_rfl) (fun _ _ _ h => h) (by decide) hc (Or.inl ⟨by rfl, ?_⟩) (fun _ => R25.T h0) (fun hc2 => ?_)
        rotate_left
        · (intro w _; go_simp; try with_reducible rfl)
        clear hc; have hc := hc2; clear hc2
        try simp only [Act.put, List.setIfInBounds_toArray, List.set_cons_zero, List.set_cons_succ]
        refine wpL_pure (i := 3) (oi := { dst := some 217, op := Op.fieldAddr 30 (Operand.tmp 216) 4, type := 0, pos := "law.go:277", after := #[{ on := 2, ground := Ground.data }], guard := none }) (v := ?_) rfl (by kernel_rfl) (by kernel_rfl) (by kernel_rfl) (fun _ _ _ h => h) (by decide) hc (Or.inl ⟨by rfl, ?_⟩) (fun _ => R25.T h0) (fun hc2 => ?_)
        rotate_left
        · (intro w _; go_simp; try with_reducible rfl)
        clear hc; have hc := hc2; clear hc2
        try simp only [Act.put, List.setIfInBounds_toArray, List.set_cons_zero, List.set_cons_succ]
        refine wpL_take (T' := T25 ⟨w0, ph, pm, fs8, pb, pc, sp, sc, qb, qc, tq, tc, xb, sx, xc, yb, sy, yc⟩) (i := 4) (oi := { dst := some 218, op := Op.load 28 (Operand.tmp 217), type := 28, pos := "law.go:277", after := #[{ on := 3, ground := Ground.data }], guard := none }) (v := ?_) rfl (by kernel_rfl) (by kernel_rfl) (by kernel_rfl) (fun _ _ _ h => h) (by decide) (fun l w hc hu hs => hs (reach25 hc (by decide) hu)) hc (Or.inl ⟨by rfl, ?_⟩) (fun _ => R25.T h0) (fun hc2 => ?_)
        rotate_left
        · (intro w hSw; obtain ⟨hs1, hs2, hs3⟩ := hSw; dsimp only at hs1 hs2 hs3; go_simp; try with_reducible rfl)
        clear hc; have hc := hc2; clear hc2
        try simp only [Act.put, List.setIfInBounds_toArray, List.set_cons_zero, List.set_cons_succ]
        refine wpL_pure (i := 7) (oi := { dst := some 221, op := Op.fieldAddr 30 (Operand.tmp 15) 4, type := 0, pos := "law.go:277", after := #[], guard := none }) (v := ?_) rfl (by kernel_rfl) (by kernel_rfl) (by kernel_rfl) (fun _ _ _ h => h) (by decide) hc (Or.inl ⟨by rfl, ?_⟩) (fun _ => R25.T h0) (fun hc2 => ?_)
        rotate_left
        · (intro w _; go_simp; try with_reducible rfl)
        clear hc; have hc := hc2; clear hc2
        try simp only [Act.put, List.setIfInBounds_toArray, List.set_cons_zero, List.set_cons_succ]
        refine wpL_take (T' := T25 ⟨w0, ph, pm, fs8, pb, pc, sp, sc, qb, qc, tq, tc, xb, sx, xc, yb, sy, yc⟩) (i := 8) (oi := { dst := some 222, op := Op.load 28 (Operand.tmp 221), type := 28, pos := "law.go:277", after := #[{ on := 7, ground := Ground.data }], guard := none }) (v := ?_) rfl (by kernel_rfl) (by kernel_rfl) (by kernel_rfl) (fun _ _ _ h => h) (by decide) (fun l w hc hu hs => hs (reach25 hc (by decide) hu)) hc (Or.inl ⟨by rfl, ?_⟩) (fun _ => R25.T h0) (fun hc2 => ?_)
        rotate_left
        · (intro w hSw; obtain ⟨hs1, hs2, hs3⟩ := hSw; dsimp only at hs1 hs2 hs3; go_simp; try with_reducible rfl)
        clear hc; have hc := hc2; clear hc2
        try simp only [Act.put, List.setIfInBounds_toArray, List.set_cons_zero, List.set_cons_succ]
        refine wpL_pure (i := 11) (oi := { dst := some 225, op := Op.fieldAddr 30 (Operand.tmp 17) 4, type := 0, pos := "law.go:277", after := #[], guard := none }) (v := ?_) rfl (by kernel_rfl) (by kernel_rfl) (by kernel_rfl) (fun _ _ _ h => h) (by decide) hc (Or.inl ⟨by rfl, ?_⟩) (fun _ => R25.T h0) (fun hc2 => ?_)
        rotate_left
        · (intro w _; go_simp; try with_reducible rfl)
        clear hc; have hc := hc2; clear hc2
        try simp only [Act.put, List.setIfInBounds_toArray, List.set_cons_zero, List.set_cons_succ]
        refine wpL_take (T' := T25 ⟨w0, ph, pm, fs8, pb, pc, sp, sc, qb, qc, tq, tc, xb, sx, xc, yb, sy, yc⟩) (i := 12) (oi := { dst := some 226, op := Op.load 28 (Operand.tmp 225), type := 28, pos := "law.go:277", after := #[{ on := 11, ground := Ground.data }], guard := none }) (v := ?_) rfl (by kernel_rfl) (by kernel_rfl) (by kernel_rfl) (fun _ _ _ h => h) (by decide) (fun l w hc hu hs => hs (reach25 hc (by decide) hu)) hc (Or.inl ⟨by rfl, ?_⟩) (fun _ => R25.T h0) (fun hc2 => ?_)
        rotate_left
        · (intro w hSw; obtain ⟨hs1, hs2, hs3⟩ := hSw; dsimp only at hs1 hs2 hs3; go_simp; try with_reducible rfl)
        clear hc; have hc := hc2; clear hc2
        try simp only [Act.put, List.setIfInBounds_toArray, List.set_cons_zero, List.set_cons_succ]
        refine wpL_ready (rs := [5, 9, 13]) (by kernel_rfl) (by simp) ?_ hc
        intro i hi hc2
        simp only [List.mem_cons, List.mem_nil_iff, or_false] at hi
        rcases hi with rfl | rfl | rfl
        · clear hc; have hc := hc2; clear hc2
          refine wpOp_step (o := { dst := some 219, op := Op.buildSlice 28 1 #[(0, Operand.const (Value.int IntKind.i64 1))], type := 28, pos := "law.go:277", after := #[], guard := none }) rfl (fun K hK => ?_)
          have HK := hide hK
          clear hK
          go_simp
          have h1 := R25.alloc1 HA.out h0
          refine HK.out _ _ ⟨fun _ => R25.T h1, ?_⟩
          clear HK K h0
          try simp only [Act.put, List.setIfInBounds_toArray, List.set_cons_zero, List.set_cons_succ]
          generalize X0.alloc (celO 1) = X1 at h1 ⊢
          generalize X0.heap.size = n1 at h1 ⊢
          as_aux_lemma =>
            refine wpL_ready (rs := [6, 9, 13]) (by kernel_rfl) (by simp) ?_ hc
            intro i hi hc2
            simp only [List.mem_cons, List.mem_nil_iff, or_false] at hi
            rcases hi with rfl | rfl | rfl
            · clear hc; have hc := hc2; clear hc2
              refine wpOp_step (o := { dst := some 220, op := Op.call { callee := Callee.builtin Builtin.append, args := #[Operand.tmp 218, Operand.tmp 219], argTypes := #[28, 28] }, type := 28, pos := "law.go:277", after := #[{ on := 4, ground := Ground.data }, { on := 5, ground := Ground.data }], guard := none }) rfl (fun K hK => ?_)
              have HK := hide hK
              clear hK
              refine step_app1 HA.out h1 rfl _ _ rfl rfl rfl ?_
              intro g2 d2 X2 h2
              refine HK.out _ _ ⟨fun _ => R25.T h2, ?_⟩
              clear HK K h1
              try simp only [Act.put, List.setIfInBounds_toArray, List.set_cons_zero, List.set_cons_succ]
              as_aux_lemma =>
                refine wpL_ready (rs := [9, 13]) (by kernel_rfl) (by simp) ?_ hc
                intro i hi hc2
                simp only [List.mem_cons, List.mem_nil_iff, or_false] at hi
                rcases hi with rfl | rfl
                · clear hc; have hc := hc2; clear hc2
                  refine wpOp_step (o := { dst := some 223, op := Op.buildSlice 28 1 #[(0, Operand.const (Value.int IntKind.i64 2))], type := 28, pos := "law.go:277", after := #[], guard := none }) rfl (fun K hK => ?_)
                  have HK := hide hK
                  clear hK
                  go_simp
                  have h3 := R25.alloc2 HA.out h2
                  refine HK.out _ _ ⟨fun _ => R25.T h3, ?_⟩
                  clear HK K h2
                  try simp only [Act.put, List.setIfInBounds_toArray, List.set_cons_zero, List.set_cons_succ]
                  generalize X2.alloc (celO 2) = X3 at h3 ⊢
                  generalize X2.heap.size = n3 at h3 ⊢
                  as_aux_lemma =>
                    refine wpL_ready (rs := [10, 13]) (by kernel_rfl) (by simp) ?_ hc
                    intro i hi hc2
                    simp only [List.mem_cons, List.mem_nil_iff, or_false] at hi
                    rcases hi with rfl | rfl
                    · clear hc; have hc := hc2; clear hc2
                      refine wpOp_step (o := { dst := some 224, op := Op.call { callee := Callee.builtin Builtin.append, args := #[Operand.tmp 222, Operand.tmp 223], argTypes := #[28, 28] }, type := 28, pos := "law.go:277", after := #[{ on := 8, ground := Ground.data }, { on := 9, ground := Ground.data }, { on := 6, ground := Ground.chain }], guard := none }) rfl (fun K hK => ?_)
                      have HK := hide hK
                      clear hK
                      refine step_app2 HA.out h3 rfl _ _ rfl rfl rfl ?_
                      intro g4 d4 X4 h4
                      refine HK.out _ _ ⟨fun _ => R25.T h4, ?_⟩
                      clear HK K h3
                      try simp only [Act.put, List.setIfInBounds_toArray, List.set_cons_zero, List.set_cons_succ]
                      as_aux_lemma =>
                        refine wpL_ready (rs := [13]) (by kernel_rfl) (by simp) ?_ hc
                        intro i hi hc2
                        simp only [List.mem_cons, List.mem_nil_iff, or_false] at hi
                        subst hi
                        clear hc; have hc := hc2; clear hc2
                        refine wpOp_step (o := { dst := some 227, op := Op.buildSlice 28 1 #[(0, Operand.const (Value.int IntKind.i64 3))], type := 28, pos := "law.go:277", after := #[], guard := none }) rfl (fun K hK => ?_)
                        have HK := hide hK
                        clear hK
                        go_simp
                        have h5 := R25.alloc3 HA.out h4
                        refine HK.out _ _ ⟨fun _ => R25.T h5, ?_⟩
                        clear HK K h4
                        try simp only [Act.put, List.setIfInBounds_toArray, List.set_cons_zero, List.set_cons_succ]
                        generalize X4.alloc (celO 3) = X5 at h5 ⊢
                        generalize X4.heap.size = n5 at h5 ⊢
                        as_aux_lemma =>
                          refine wpL_ready (rs := [14]) (by kernel_rfl) (by simp) ?_ hc
                          intro i hi hc2
                          simp only [List.mem_cons, List.mem_nil_iff, or_false] at hi
                          subst hi
                          clear hc; have hc := hc2; clear hc2
                          refine wpOp_step (o := { dst := some 228, op := Op.call { callee := Callee.builtin Builtin.append, args := #[Operand.tmp 226, Operand.tmp 227], argTypes := #[28, 28] }, type := 28, pos := "law.go:277", after := #[{ on := 12, ground := Ground.data }, { on := 13, ground := Ground.data }, { on := 10, ground := Ground.chain }], guard := none }) rfl (fun K hK => ?_)
                          have HK := hide hK
                          clear hK
                          refine step_app3 HA.out h5 rfl _ _ rfl rfl rfl ?_
                          intro g6 d6 X6 h6
                          refine HK.out _ _ ⟨fun _ => R25.T h6, ?_⟩
                          clear HK K h5
                          try simp only [Act.put, List.setIfInBounds_toArray, List.set_cons_zero, List.set_cons_succ]
                          as_aux_lemma =>
                            refine wpL_pure (i := 15) (oi := { dst := some 229, op := Op.indexAddr 33 (Operand.tmp 214) (Operand.const (Value.int IntKind.i64 0)), type := 0, pos := "law.go:277", after := #[{ on := 0, ground := Ground.data }, { on := 0, ground := Ground.phase }, { on := 1, ground := Ground.phase }, { on := 2, ground := Ground.phase }, { on := 3, ground := Ground.phase }, { on := 4, ground := Ground.phase }, { on := 5, ground := Ground.phase }, { on := 6, ground := Ground.phase }, { on := 7, ground := Ground.textOnly Departure.lateStores }, { on := 8, ground := Ground.textOnly Departure.lateStores }, { on := 9, ground := Ground.textOnly Departure.lateStoresUnsure }, { on := 10, ground := Ground.phase }, { on := 11, ground := Ground.textOnly Departure.lateStores }, { on := 12, ground := Ground.textOnly Departure.lateStores }, { on := 13, ground := Ground.textOnly Departure.lateStoresUnsure }, { on := 14, ground := Ground.phase }], guard := none }) (v := ?_) rfl (by kernel_rfl) (by kernel_rfl) (by kernel_rfl) (fun _ _ _ h => h) (by decide) hc (Or.inl ⟨by rfl, ?_⟩) (fun _ => R25.T h6) (fun hc2 => ?_)
                            rotate_left
                            · (intro w _; go_simp; try with_reducible rfl)
                            clear hc; have hc := hc2; clear hc2
                            try simp only [Act.put, List.setIfInBounds_toArray, List.set_cons_zero, List.set_cons_succ]
                            refine wpL_pure (i := 16) (oi := { dst := some 230, op := Op.fieldAddr 30 (Operand.tmp 229) 4, type := 0, pos := "law.go:277", after := #[{ on := 15, ground := Ground.data }, { on := 0, ground := Ground.phase }, { on := 1, ground := Ground.phase }, { on := 2, ground := Ground.phase }, { on := 3, ground := Ground.phase }, { on := 4, ground := Ground.phase }, { on := 5, ground := Ground.phase }, { on := 6, ground := Ground.phase }, { on := 7, ground := Ground.textOnly Departure.lateStores }, { on := 8, ground := Ground.textOnly Departure.lateStores }, { on := 9, ground := Ground.textOnly Departure.lateStoresUnsure }, { on := 10, ground := Ground.phase }, { on := 11, ground := Ground.textOnly Departure.lateStores }, { on := 12, ground := Ground.textOnly Departure.lateStores }, { on := 13, ground := Ground.textOnly Departure.lateStoresUnsure }, { on := 14, ground := Ground.phase }], guard := none }) (v := ?_) rfl (by kernel_rfl) (by kernel_rfl) (by kernel_rfl) (fun _ _ _ h => h) (by decide) hc (Or.inl ⟨by rfl, ?_⟩) (fun _ => R25.T h6) (fun hc2 => ?_)
                            rotate_left
                            · (intro w _; go_simp; try with_reducible rfl)
                            clear hc; have hc := hc2; clear hc2
                            try simp only [Act.put, List.setIfInBounds_toArray, List.set_cons_zero, List.set_cons_succ]
                            refine wpL_ready (rs := [17]) (by kernel_rfl) (by simp) ?_ hc
                            intro i hi hc2
                            simp only [List.mem_cons, List.mem_nil_iff, or_false] at hi
                            subst hi
                            clear hc; have hc := hc2; clear hc2
                            refine wpOp_step (o := { dst := none, op := Op.store 28 (Operand.tmp 230) (Operand.tmp 220), type := 0, pos := "law.go:277", after := #[{ on := 16, ground := Ground.data }, { on := 6, ground := Ground.data }, { on := 14, ground := Ground.chain }, { on := 0, ground := Ground.phase }, { on := 1, ground := Ground.phase }, { on := 2, ground := Ground.phase }, { on := 3, ground := Ground.phase }, { on := 4, ground := Ground.phase }, { on := 5, ground := Ground.phase }, { on := 6, ground := Ground.phase }, { on := 7, ground := Ground.textOnly Departure.lateStores }, { on := 8, ground := Ground.textOnly Departure.lateStores }, { on := 9, ground := Ground.textOnly Departure.lateStoresUnsure }, { on := 10, ground := Ground.phase }, { on := 11, ground := Ground.textOnly Departure.lateStores }, { on := 12, ground := Ground.textOnly Departure.lateStores }, { on := 13, ground := Ground.textOnly Departure.lateStoresUnsure }, { on := 14, ground := Ground.phase }], guard := none }) rfl (fun K hK => ?_)
                            have HK := hide hK
                            clear hK
                            have hT := R25.T h6
                            have hF1 : X6.frozen? ⟨pb, 4, none⟩ = false := World.ownsRow.frozenAt (R25.rst h6).p 4
                            have hF2 : X6.frozen? ⟨xb, 4, none⟩ = false := blk_free (R25.rst h6).x 4
                            have hF3 : X6.frozen? ⟨yb, 4, none⟩ = false := blk_free (R25.rst h6).y 4
                            obtain ⟨hT1, hT2, hT3⟩ := hT
                            have hq := HA.out.pxy.2.1
                            dsimp only at hT1 hT2 hT3 hq
                            obtain ⟨hq1, hq2, hq3⟩ := hq
                            have hq4 := Ne.symm hq1
                            have hq5 := Ne.symm hq2
                            have hq6 := Ne.symm hq3
                            go_simp
                            refine HK.out _ _ ⟨fun hx => absurd hx (by decide), ?_⟩
                            clear HK K
                            try simp only [Act.put, List.setIfInBounds_toArray, List.set_cons_zero, List.set_cons_succ]
                            as_aux_lemma =>
                              refine wpL_pure (i := 18) (oi := { dst := some 231, op := Op.fieldAddr 30 (Operand.tmp 15) 4, type := 0, pos := "law.go:277", after := #[{ on := 0, ground := Ground.phase }, { on := 1, ground := Ground.phase }, { on := 2, ground := Ground.phase }, { on := 3, ground := Ground.phase }, { on := 4, ground := Ground.phase }, { on := 5, ground := Ground.phase }, { on := 6, ground := Ground.phase }, { on := 7, ground := Ground.phase }, { on := 8, ground := Ground.phase }, { on := 9, ground := Ground.phase }, { on := 10, ground := Ground.phase }, { on := 11, ground := Ground.textOnly Departure.lateStores }, { on := 12, ground := Ground.textOnly Departure.lateStores }, { on := 13, ground := Ground.textOnly Departure.lateStoresUnsure }, { on := 14, ground := Ground.phase }, { on := 15, ground := Ground.phase }, { on := 16, ground := Ground.phase }, { on := 17, ground := Ground.phase }], guard := none }) (v := ?_) rfl (by kernel_rfl) (by kernel_rfl) (by kernel_rfl) (fun _ _ _ h => h) (by decide) hc (Or.inl ⟨by rfl, ?_⟩) (fun hx => absurd hx (by decide)) (fun hc2 => ?_)
                              rotate_left
                              · (intro w _; go_simp; try with_reducible rfl)
                              clear hc; have hc := hc2; clear hc2
                              try simp only [Act.put, List.setIfInBounds_toArray, List.set_cons_zero, List.set_cons_succ]
                              refine wpL_ready (rs := [19]) (by kernel_rfl) (by simp) ?_ hc
                              intro i hi hc2
                              simp only [List.mem_cons, List.mem_nil_iff, or_false] at hi
                              subst hi
                              clear hc; have hc := hc2; clear hc2
                              refine wpOp_step (o := { dst := none, op := Op.store 28 (Operand.tmp 231) (Operand.tmp 224), type := 0, pos := "law.go:277", after := #[{ on := 18, ground := Ground.data }, { on := 10, ground := Ground.data }, { on := 17, ground := Ground.chain }, { on := 0, ground := Ground.phase }, { on := 1, ground := Ground.phase }, { on := 2, ground := Ground.phase }, { on := 3, ground := Ground.phase }, { on := 4, ground := Ground.phase }, { on := 5, ground := Ground.phase }, { on := 6, ground := Ground.phase }, { on := 7, ground := Ground.phase }, { on := 8, ground := Ground.phase }, { on := 9, ground := Ground.phase }, { on := 10, ground := Ground.phase }, { on := 11, ground := Ground.textOnly Departure.lateStores }, { on := 12, ground := Ground.textOnly Departure.lateStores }, { on := 13, ground := Ground.textOnly Departure.lateStoresUnsure }, { on := 14, ground := Ground.phase }, { on := 15, ground := Ground.phase }, { on := 16, ground := Ground.phase }, { on := 17, ground := Ground.phase }], guard := none }) rfl (fun K hK => ?_)
                              have HK := hide hK
                              clear hK
                              go_simp
                              refine HK.out _ _ ⟨fun hx => absurd hx (by decide), ?_⟩
                              clear HK K
                              try simp only [Act.put, List.setIfInBounds_toArray, List.set_cons_zero, List.set_cons_succ]
                              as_aux_lemma =>
                                refine wpL_pure (i := 20) (oi := { dst := some 232, op := Op.fieldAddr 30 (Operand.tmp 17) 4, type := 0, pos := "law.go:277", after := #[{ on := 0, ground := Ground.phase }, { on := 1, ground := Ground.phase }, { on := 2, ground := Ground.phase }, { on := 3, ground := Ground.phase }, { on := 4, ground := Ground.phase }, { on := 5, ground := Ground.phase }, { on := 6, ground := Ground.phase }, { on := 7, ground := Ground.phase }, { on := 8, ground := Ground.phase }, { on := 9, ground := Ground.phase }, { on := 10, ground := Ground.phase }, { on := 11, ground := Ground.phase }, { on := 12, ground := Ground.phase }, { on := 13, ground := Ground.phase }, { on := 14, ground := Ground.phase }, { on := 15, ground := Ground.phase }, { on := 16, ground := Ground.phase }, { on := 17, ground := Ground.phase }, { on := 18, ground := Ground.phase }, { on := 19, ground := Ground.phase }], guard := none }) (v := ?_) rfl (by kernel_rfl) (by kernel_rfl) (by kernel_rfl) (fun _ _ _ h => h) (by decide) hc (Or.inl ⟨by rfl, ?_⟩) (fun hx => absurd hx (by decide)) (fun hc2 => ?_)
                                rotate_left
                                · (intro w _; go_simp; try with_reducible rfl)
                                clear hc; have hc := hc2; clear hc2
                                try simp only [Act.put, List.setIfInBounds_toArray, List.set_cons_zero, List.set_cons_succ]
                                refine wpL_ready (rs := [21]) (by kernel_rfl) (by simp) ?_ hc
                                intro i hi hc2
                                simp only [List.mem_cons, List.mem_nil_iff, or_false] at hi
                                subst hi
                                clear hc; have hc := hc2; clear hc2
                                refine wpOp_step (o := { dst := none, op := Op.store 28 (Operand.tmp 232) (Operand.tmp 228), type := 0, pos := "law.go:277", after := #[{ on := 20, ground := Ground.data }, { on := 14, ground := Ground.data }, { on := 19, ground := Ground.chain }, { on := 0, ground := Ground.phase }, { on := 1, ground := Ground.phase }, { on := 2, ground := Ground.phase }, { on := 3, ground := Ground.phase }, { on := 4, ground := Ground.phase }, { on := 5, ground := Ground.phase }, { on := 6, ground := Ground.phase }, { on := 7, ground := Ground.phase }, { on := 8, ground := Ground.phase }, { on := 9, ground := Ground.phase }, { on := 10, ground := Ground.phase }, { on := 11, ground := Ground.phase }, { on := 12, ground := Ground.phase }, { on := 13, ground := Ground.phase }, { on := 14, ground := Ground.phase }, { on := 15, ground := Ground.phase }, { on := 16, ground := Ground.phase }, { on := 17, ground := Ground.phase }, { on := 18, ground := Ground.phase }, { on := 19, ground := Ground.phase }], guard := none }) rfl (fun K hK => ?_)
                                have HK := hide hK
                                clear hK
                                go_simp
                                refine HK.out _ _ ⟨fun hx => absurd hx (by decide), ?_⟩
                                clear HK K
                                try simp only [Act.put, List.setIfInBounds_toArray, List.set_cons_zero, List.set_cons_succ]
                                refine wpL_done (by kernel_rfl) ?_
                                have hfin := R25.fin HA.out h6 (.slice (some ⟨g6, 0, none⟩) 3 d6)
                                clear h6 hc
                                go_wp2_with fail
                                go_meet
                                case rel => exact ⟨_, _, _, _, hfin⟩
                    · clear hc; have hc := hc2; clear hc2
                      refine wpOp_step (o := { dst := some 227, op := Op.buildSlice 28 1 #[(0, Operand.const (Value.int IntKind.i64 3))], type := 28, pos := "law.go:277", after := #[], guard := none }) rfl (fun K hK => ?_)
                      have HK := hide hK
                      clear hK
                      go_simp
                      have h4 := R25.alloc3 HA.out h3
                      refine HK.out _ _ ⟨fun _ => R25.T h4, ?_⟩
                      clear HK K h3
                      try simp only [Act.put, List.setIfInBounds_toArray, List.set_cons_zero, List.set_cons_succ]
                      generalize X3.alloc (celO 3) = X4 at h4 ⊢
                      generalize X3.heap.size = n4 at h4 ⊢
                      as_aux_lemma =>
                        refine wpL_ready (rs := [10]) (by kernel_rfl) (by simp) ?_ hc
                        intro i hi hc2
                        simp only [List.mem_cons, List.mem_nil_iff, or_false] at hi
                        subst hi
                        clear hc; have hc := hc2; clear hc2
                        refine wpOp_step (o := { dst := some 224, op := Op.call { callee := Callee.builtin Builtin.append, args := #[Operand.tmp 222, Operand.tmp 223], argTypes := #[28, 28] }, type := 28, pos := "law.go:277", after := #[{ on := 8, ground := Ground.data }, { on := 9, ground := Ground.data }, { on := 6, ground := Ground.chain }], guard := none }) rfl (fun K hK => ?_)
                        have HK := hide hK
                        clear hK
                        refine step_app2 HA.out h4 rfl _ _ rfl rfl rfl ?_
                        intro g5 d5 X5 h5
                        refine HK.out _ _ ⟨fun _ => R25.T h5, ?_⟩
                        clear HK K h4
                        try simp only [Act.put, List.setIfInBounds_toArray, List.set_cons_zero, List.set_cons_succ]
                        as_aux_lemma =>
                          refine wpL_ready (rs := [14]) (by kernel_rfl) (by simp) ?_ hc
                          intro i hi hc2
                          simp only [List.mem_cons, List.mem_nil_iff, or_false] at hi
                          subst hi
                          clear hc; have hc := hc2; clear hc2
                          refine wpOp_step (o := { dst := some 228, op := Op.call { callee := Callee.builtin Builtin.append, args := #[Operand.tmp 226, Operand.tmp 227], argTypes := #[28, 28] }, type := 28, pos := "law.go:277", after := #[{ on := 12, ground := Ground.data }, { on := 13, ground := Ground.data }, { on := 10, ground := Ground.chain }], guard := none }) rfl (fun K hK => ?_)
                          have HK := hide hK
                          clear hK
                          refine step_app3 HA.out h5 rfl _ _ rfl rfl rfl ?_
                          intro g6 d6 X6 h6
                          refine HK.out _ _ ⟨fun _ => R25.T h6, ?_⟩
                          clear HK K h5
                          try simp only [Act.put, List.setIfInBounds_toArray, List.set_cons_zero, List.set_cons_succ]
                          as_aux_lemma =>
                            refine wpL_pure (i := 15) (oi := { dst := some 229, op := Op.indexAddr 33 (Operand.tmp 214) (Operand.const (Value.int IntKind.i64 0)), type := 0, pos := "law.go:277", after := #[{ on := 0, ground := Ground.data }, { on := 0, ground := Ground.phase }, { on := 1, ground := Ground.phase }, { on := 2, ground := Ground.phase }, { on := 3, ground := Ground.phase }, { on := 4, ground := Ground.phase }, { on := 5, ground := Ground.phase }, { on := 6, ground := Ground.phase }, { on := 7, ground := Ground.textOnly Departure.lateStores }, { on := 8, ground := Ground.textOnly Departure.lateStores }, { on := 9, ground := Ground.textOnly Departure.lateStoresUnsure }, { on := 10, ground := Ground.phase }, { on := 11, ground := Ground.textOnly Departure.lateStores }, { on := 12, ground := Ground.textOnly Departure.lateStores }, { on := 13, ground := Ground.textOnly Departure.lateStoresUnsure }, { on := 14, ground := Ground.phase }], guard := none }) (v := ?_) rfl (by kernel_rfl) (by kernel_rfl) (by kernel_rfl) (fun _ _ _ h => h) (by decide) hc (Or.inl ⟨by rfl, ?_⟩) (fun _ => R25.T h6) (fun hc2 => ?_)
                            rotate_left
                            · (intro w _; go_simp; try with_reducible rfl)
                            clear hc; have hc := hc2; clear hc2
                            try simp only [Act.put, List.setIfInBounds_toArray, List.set_cons_zero, List.set_cons_succ]
                            refine wpL_pure (i := 16) (oi := { dst := some 230, op := Op.fieldAddr 30 (Operand.tmp 229) 4, type := 0, pos := "law.go:277", after := #[{ on := 15, ground := Ground.data }, { on := 0, ground := Ground.phase }, { on := 1, ground := Ground.phase }, { on := 2, ground := Ground.phase }, { on := 3, ground := Ground.phase }, { on := 4, ground := Ground.phase }, { on := 5, ground := Ground.phase }, { on := 6, ground := Ground.phase }, { on := 7, ground := Ground.textOnly Departure.lateStores }, { on := 8, ground := Ground.textOnly Departure.lateStores }, { on := 9, ground := Ground.textOnly Departure.lateStoresUnsure }, { on := 10, ground := Ground.phase }, { on := 11, ground := Ground.textOnly Departure.lateStores }, { on := 12, ground := Ground.textOnly Departure.lateStores }, { on := 13, ground := Ground.textOnly Departure.lateStoresUnsure }, { on := 14, ground := Ground.phase }], guard := none }) (v := ?_) rfl (by kernel_rfl) (by kernel_rfl) (by kernel_rfl) (fun _ _ _ h => h) (by decide) hc (Or.inl ⟨by rfl, ?_⟩) (fun _ => R25.T h6) (fun hc2 => ?_)
                            rotate_left
                            · (intro w _; go_simp; try with_reducible rfl)
                            clear hc; have hc := hc2; clear hc2
                            try simp only [Act.put, List.setIfInBounds_toArray, List.set_cons_zero, List.set_cons_succ]
                            refine wpL_ready (rs := [17]) (by kernel_rfl) (by simp) ?_ hc
                            intro i hi hc2
                            simp only [List.mem_cons, List.mem_nil_iff, or_false] at hi
                            subst hi
                            clear hc; have hc := hc2; clear hc2
                            refine wpOp_step (o := { dst := none, op := Op.store 28 (Operand.tmp 230) (Operand.tmp 220), type := 0, pos := "law.go:277", after := #[{ on := 16, ground := Ground.data }, { on := 6, ground := Ground.data }, { on := 14, ground := Ground.chain }, { on := 0, ground := Ground.phase }, { on := 1, ground := Ground.phase }, { on := 2, ground := Ground.phase }, { on := 3, ground := Ground.phase }, { on := 4, ground := Ground.phase }, { on := 5, ground := Ground.phase }, { on := 6, ground := Ground.phase }, { on := 7, ground := Ground.textOnly Departure.lateStores }, { on := 8, ground := Ground.textOnly Departure.lateStores }, { on := 9, ground := Ground.textOnly Departure.lateStoresUnsure }, { on := 10, ground := Ground.phase }, { on := 11, ground := Ground.textOnly Departure.lateStores }, { on := 12, ground := Ground.textOnly Departure.lateStores }, { on := 13, ground := Ground.textOnly Departure.lateStoresUnsure }, { on := 14, ground := Ground.phase }], guard := none }) rfl (fun K hK => ?_)
                            have HK := hide hK
                            clear hK
                            have hT := R25.T h6
                            have hF1 : X6.frozen? ⟨pb, 4, none⟩ = false := World.ownsRow.frozenAt (R25.rst h6).p 4
                            have hF2 : X6.frozen? ⟨xb, 4, none⟩ = false := blk_free (R25.rst h6).x 4
                            have hF3 : X6.frozen? ⟨yb, 4, none⟩ = false := blk_free (R25.rst h6).y 4
                            obtain ⟨hT1, hT2, hT3⟩ := hT
                            have hq := HA.out.pxy.2.1
                            dsimp only at hT1 hT2 hT3 hq
                            obtain ⟨hq1, hq2, hq3⟩ := hq
                            have hq4 := Ne.symm hq1
                            have hq5 := Ne.symm hq2
                            have hq6 := Ne.symm hq3
                            go_simp
                            refine HK.out _ _ ⟨fun hx => absurd hx (by decide), ?_⟩
                            clear HK K
                            try simp only [Act.put, List.setIfInBounds_toArray, List.set_cons_zero, List.set_cons_succ]
                            as_aux_lemma =>
                              refine wpL_pure (i := 18) (oi := { dst := some 231, op := Op.fieldAddr 30 (Operand.tmp 15) 4, type := 0, pos := "law.go:277", after := #[{ on := 0, ground := Ground.phase }, { on := 1, ground := Ground.phase }, { on := 2, ground := Ground.phase }, { on := 3, ground := Ground.phase }, { on := 4, ground := Ground.phase }, { on := 5, ground := Ground.phase }, { on := 6, ground := Ground.phase }, { on := 7, ground := Ground.phase }, { on := 8, ground := Ground.phase }, { on := 9, ground := Ground.phase }, { on := 10, ground := Ground.phase }, { on := 11, ground := Ground.textOnly Departure.lateStores }, { on := 12, ground := Ground.textOnly Departure.lateStores }, { on := 13, ground := Ground.textOnly Departure.lateStoresUnsure }, { on := 14, ground := Ground.phase }, { on := 15, ground := Ground.phase }, { on := 16, ground := Ground.phase }, { on := 17, ground := Ground.phase }], guard := none }) (v := ?_) rfl (by kernel_rfl) (by kernel_rfl) (by kernel_rfl) (fun _ _ _ h => h) (by decide) hc (Or.inl ⟨by rfl, ?_⟩) (fun hx => absurd hx (by decide)) (fun hc2 => ?_)
                              rotate_left
                              · (intro w _; go_simp; try with_reducible rfl)
                              clear hc; have hc := hc2; clear hc2
                              try simp only [Act.put, List.setIfInBounds_toArray, List.set_cons_zero, List.set_cons_succ]
                              refine wpL_ready (rs := [19]) (by kernel_rfl) (by simp) ?_ hc
                              intro i hi hc2
                              simp only [List.mem_cons, List.mem_nil_iff, or_false] at hi
                              subst hi
                              clear hc; have hc := hc2; clear hc2
                              refine wpOp_step (o := { dst := none, op := Op.store 28 (Operand.tmp 231) (Operand.tmp 224), type := 0, pos := "law.go:277", after := #[{ on := 18, ground := Ground.data }, { on := 10, ground := Ground.data }, { on := 17, ground := Ground.chain }, { on := 0, ground := Ground.phase }, { on := 1, ground := Ground.phase }, { on := 2, ground := Ground.phase }, { on := 3, ground := Ground.phase }, { on := 4, ground := Ground.phase }, { on := 5, ground := Ground.phase }, { on := 6, ground := Ground.phase }, { on := 7, ground := Ground.phase }, { on := 8, ground := Ground.phase }, { on := 9, ground := Ground.phase }, { on := 10, ground := Ground.phase }, { on := 11, ground := Ground.textOnly Departure.lateStores }, { on := 12, ground := Ground.textOnly Departure.lateStores }, { on := 13, ground := Ground.textOnly Departure.lateStoresUnsure }, { on := 14, ground := Ground.phase }, { on := 15, ground := Ground.phase }, { on := 16, ground := Ground.phase }, { on := 17, ground := Ground.phase }], guard := none }) rfl (fun K hK => ?_)
                              have HK := hide hK
                              clear hK
                              go_simp
                              refine HK.out _ _ ⟨fun hx => absurd hx (by decide), ?_⟩
                              clear HK K
                              try simp only [Act.put, List.setIfInBounds_toArray, List.set_cons_zero, List.set_cons_succ]
                              as_aux_lemma =>
                                refine wpL_pure (i := 20) (oi := { dst := some 232, op := Op.fieldAddr 30 (Operand.tmp 17) 4, type := 0, pos := "law.go:277", after := #[{ on := 0, ground := Ground.phase }, { on := 1, ground := Ground.phase }, { on := 2, ground := Ground.phase }, { on := 3, ground := Ground.phase }, { on := 4, ground := Ground.phase }, { on := 5, ground := Ground.phase }, { on := 6, ground := Ground.phase }, { on := 7, ground := Ground.phase }, { on := 8, ground := Ground.phase }, { on := 9, ground := Ground.phase }, { on := 10, ground := Ground.phase }, { on := 11, ground := Ground.phase }, { on := 12, ground := Ground.phase }, { on := 13, ground := Ground.phase }, { on := 14, ground := Ground.phase }, { on := 15, ground := Ground.phase }, { on := 16, ground := Ground.phase }, { on := 17, ground := Ground.phase }, { on := 18, ground := Ground.phase }, { on := 19, ground := Ground.phase }], guard := none }) (v := ?_) rfl (by kernel_rfl) (by kernel_rfl) (by kernel_rfl) (fun _ _ _ h => h) (by decide) hc (Or.inl ⟨by rfl, ?_⟩) (fun hx => absurd hx (by decide)) (fun hc2 => ?_)
                                rotate_left
                                · (intro w _; go_simp; try with_reducible rfl)
                                clear hc; have hc := hc2; clear hc2
                                try simp only [Act.put, List.setIfInBounds_toArray, List.set_cons_zero, List.set_cons_succ]
                                refine wpL_ready (rs := [21]) (by kernel_rfl) (by simp) ?_ hc
                                intro i hi hc2
                                simp only [List.mem_cons, List.mem_nil_iff, or_false] at hi
                                subst hi
                                clear hc; have hc := hc2; clear hc2
                                refine wpOp_step (o := { dst := none, op := Op.store 28 (Operand.tmp 232) (Operand.tmp 228), type := 0, pos := "law.go:277", after := #[{ on := 20, ground := Ground.data }, { on := 14, ground := Ground.data }, { on := 19, ground := Ground.chain }, { on := 0, ground := Ground.phase }, { on := 1, ground := Ground.phase }, { on := 2, ground := Ground.phase }, { on := 3, ground := Ground.phase }, { on := 4, ground := Ground.phase }, { on := 5, ground := Ground.phase }, { on := 6, ground := Ground.phase }, { on := 7, ground := Ground.phase }, { on := 8, ground := Ground.phase }, { on := 9, ground := Ground.phase }, { on := 10, ground := Ground.phase }, { on := 11, ground := Ground.phase }, { on := 12, ground := Ground.phase }, { on := 13, ground := Ground.phase }, { on := 14, ground := Ground.phase }, { on := 15, ground := Ground.phase }, { on := 16, ground := Ground.phase }, { on := 17, ground := Ground.phase }, { on := 18, ground := Ground.phase }, { on := 19, ground := Ground.phase }], guard := none }) rfl (fun K hK => ?_)
                                have HK := hide hK
                                clear hK
                                go_simp
                                refine HK.out _ _ ⟨fun hx => absurd hx (by decide), ?_⟩
                                clear HK K
                                try simp only [Act.put, List.setIfInBounds_toArray, List.set_cons_zero, List.set_cons_succ]
                                refine wpL_done (by kernel_rfl) ?_
                                have hfin := R25.fin HA.out h6 (.slice (some ⟨g6, 0, none⟩) 3 d6)
                                clear h6 hc
                                go_wp2_with fail
                                go_meet
                                case rel => exact ⟨_, _, _, _, hfin⟩
                · clear hc; have hc := hc2; clear hc2
                  refine wpOp_step (o := { dst := some 227, op := Op.buildSlice 28 1 #[(0, Operand.const (Value.int IntKind.i64 3))], type := 28, pos := "law.go:277", after := #[], guard := none }) rfl (fun K hK => ?_)
                  have HK := hide hK
                  clear hK
                  go_simp
                  have h3 := R25.alloc3 HA.out h2
                  refine HK.out _ _ ⟨fun _ => R25.T h3, ?_⟩
                  clear HK K h2
                  try simp only [Act.put, List.setIfInBounds_toArray, List.set_cons_zero, List.set_cons_succ]
                  generalize X2.alloc (celO 3) = X3 at h3 ⊢
                  generalize X2.heap.size = n3 at h3 ⊢
                  as_aux_lemma =>
                    refine wpL_ready (rs := [9]) (by kernel_rfl) (by simp) ?_ hc
                    intro i hi hc2
                    simp only [List.mem_cons, List.mem_nil_iff, or_false] at hi
                    subst hi
                    clear hc; have hc := hc2; clear hc2
                    refine wpOp_step (o := { dst := some 223, op := Op.buildSlice 28 1 #[(0, Operand.const (Value.int IntKind.i64 2))], type := 28, pos := "law.go:277", after := #[], guard := none }) rfl (fun K hK => ?_)
                    have HK := hide hK
                    clear hK
                    go_simp
                    have h4 := R25.alloc2 HA.out h3
                    refine HK.out _ _ ⟨fun _ => R25.T h4, ?_⟩
                    clear HK K h3
                    try simp only [Act.put, List.setIfInBounds_toArray, List.set_cons_zero, List.set_cons_succ]
                    generalize X3.alloc (celO 2) = X4 at h4 ⊢
                    generalize X3.heap.size = n4 at h4 ⊢
                    as_aux_lemma =>
                      refine wpL_ready (rs := [10]) (by kernel_rfl) (by simp) ?_ hc
                      intro i hi hc2
                      simp only [List.mem_cons, List.mem_nil_iff, or_false] at hi
                      subst hi
                      clear hc; have hc := hc2; clear hc2
                      refine wpOp_step (o := { dst := some 224, op := Op.call { callee := Callee.builtin Builtin.append, args := #[Operand.tmp 222, Operand.tmp 223], argTypes := #[28, 28] }, type := 28, pos := "law.go:277", after := #[{ on := 8, ground := Ground.data }, { on := 9, ground := Ground.data }, { on := 6, ground := Ground.chain }], guard := none }) rfl (fun K hK => ?_)
                      have HK := hide hK
                      clear hK
                      refine step_app2 HA.out h4 rfl _ _ rfl rfl rfl ?_
                      intro g5 d5 X5 h5
                      refine HK.out _ _ ⟨fun _ => R25.T h5, ?_⟩
                      clear HK K h4
                      try simp only [Act.put, List.setIfInBounds_toArray, List.set_cons_zero, List.set_cons_succ]
                      as_aux_lemma =>
                        refine wpL_ready (rs := [14]) (by kernel_rfl) (by simp) ?_ hc
                        intro i hi hc2
                        simp only [List.mem_cons, List.mem_nil_iff, or_false] at hi
                        subst hi
                        clear hc; have hc := hc2; clear hc2
                        refine wpOp_step (o := { dst := some 228, op := Op.call { callee := Callee.builtin Builtin.append, args := #[Operand.tmp 226, Operand.tmp 227], argTypes := #[28, 28] }, type := 28, pos := "law.go:277", after := #[{ on := 12, ground := Ground.data }, { on := 13, ground := Ground.data }, { on := 10, ground := Ground.chain }], guard := none }) rfl (fun K hK => ?_)
                        have HK := hide hK
                        clear hK
                        refine step_app3 HA.out h5 rfl _ _ rfl rfl rfl ?_
                        intro g6 d6 X6 h6
                        refine HK.out _ _ ⟨fun _ => R25.T h6, ?_⟩
                        clear HK K h5
                        try simp only [Act.put, List.setIfInBounds_toArray, List.set_cons_zero, List.set_cons_succ]
                        as_aux_lemma =>
                          refine wpL_pure (i := 15) (oi := { dst := some 229, op := Op.indexAddr 33 (Operand.tmp 214) (Operand.const (Value.int IntKind.i64 0)), type := 0, pos := "law.go:277", after := #[{ on := 0, ground := Ground.data }, { on := 0, ground := Ground.phase }, { on := 1, ground := Ground.phase }, { on := 2, ground := Ground.phase }, { on := 3, ground := Ground.phase }, { on := 4, ground := Ground.phase }, { on := 5, ground := Ground.phase }, { on := 6, ground := Ground.phase }, { on := 7, ground := Ground.textOnly Departure.lateStores }, { on := 8, ground := Ground.textOnly Departure.lateStores }, { on := 9, ground := Ground.textOnly Departure.lateStoresUnsure }, { on := 10, ground := Ground.phase }, { on := 11, ground := Ground.textOnly Departure.lateStores }, { on := 12, ground := Ground.textOnly Departure.lateStores }, { on := 13, ground := Ground.textOnly Departure.lateStoresUnsure }, { on := 14, ground := Ground.phase }], guard := none }) (v := ?_) rfl (by kernel_rfl) (by kernel_rfl) (by kernel_rfl) (fun _ _ _ h => h) (by decide) hc (Or.inl ⟨by rfl, ?_⟩) (fun _ => R25.T h6) (fun hc2 => ?_)
                          rotate_left
                          · (intro w _; go_simp; try with_reducible rfl)
                          clear hc; have hc := hc2; clear hc2
                          try simp only [Act.put, List.setIfInBounds_toArray, List.set_cons_zero, List.set_cons_succ]
                          refine wpL_pure (i := 16) (oi := { dst := some 230, op := Op.fieldAddr 30 (Operand.tmp 229) 4, type := 0, pos := "law.go:277", after := #[{ on := 15, ground := Ground.data }, { on := 0, ground := Ground.phase }, { on := 1, ground := Ground.phase }, { on := 2, ground := Ground.phase }, { on := 3, ground := Ground.phase }, { on := 4, ground := Ground.phase }, { on := 5, ground := Ground.phase }, { on := 6, ground := Ground.phase }, { on := 7, ground := Ground.textOnly Departure.lateStores }, { on := 8, ground := Ground.textOnly Departure.lateStores }, { on := 9, ground := Ground.textOnly Departure.lateStoresUnsure }, { on := 10, ground := Ground.phase }, { on := 11, ground := Ground.textOnly Departure.lateStores }, { on := 12, ground := Ground.textOnly Departure.lateStores }, { on := 13, ground := Ground.textOnly Departure.lateStoresUnsure }, { on := 14, ground := Ground.phase }], guard := none }) (v := ?_) rfl (by kernel_rfl) (by kernel_rfl) (by kernel_rfl) (fun _ _ _ h => h) (by decide) hc (Or.inl ⟨by rfl, ?_⟩) (fun _ => R25.T h6) (fun hc2 => ?_)
                          rotate_left
                          · (intro w _; go_simp; try with_reducible rfl)
                          clear hc; have hc := hc2; clear hc2
                          try simp only [Act.put, List.setIfInBounds_toArray, List.set_cons_zero, List.set_cons_succ]
                          refine wpL_ready (rs := [17]) (by kernel_rfl) (by simp) ?_ hc
                          intro i hi hc2
                          simp only [List.mem_cons, List.mem_nil_iff, or_false] at hi
                          subst hi
                          clear hc; have hc := hc2; clear hc2
                          refine wpOp_step (o := { dst := none, op := Op.store 28 (Operand.tmp 230) (Operand.tmp 220), type := 0, pos := "law.go:277", after := #[{ on := 16, ground := Ground.data }, { on := 6, ground := Ground.data }, { on := 14, ground := Ground.chain }, { on := 0, ground := Ground.phase }, { on := 1, ground := Ground.phase }, { on := 2, ground := Ground.phase }, { on := 3, ground := Ground.phase }, { on := 4, ground := Ground.phase }, { on := 5, ground := Ground.phase }, { on := 6, ground := Ground.phase }, { on := 7, ground := Ground.textOnly Departure.lateStores }, { on := 8, ground := Ground.textOnly Departure.lateStores }, { on := 9, ground := Ground.textOnly Departure.lateStoresUnsure }, { on := 10, ground := Ground.phase }, { on := 11, ground := Ground.textOnly Departure.lateStores }, { on := 12, ground := Ground.textOnly Departure.lateStores }, { on := 13, ground := Ground.textOnly Departure.lateStoresUnsure }, { on := 14, ground := Ground.phase }], guard := none }) rfl (fun K hK => ?_)
                          have HK := hide hK
                          clear hK
                          have hT := R25.T h6
                          have hF1 : X6.frozen? ⟨pb, 4, none⟩ = false := World.ownsRow.frozenAt (R25.rst h6).p 4
                          have hF2 : X6.frozen? ⟨xb, 4, none⟩ = false := blk_free (R25.rst h6).x 4
                          have hF3 : X6.frozen? ⟨yb, 4, none⟩ = false := blk_free (R25.rst h6).y 4
                          obtain ⟨hT1, hT2, hT3⟩ := hT
                          have hq := HA.out.pxy.2.1
                          dsimp only at hT1 hT2 hT3 hq
                          obtain ⟨hq1, hq2, hq3⟩ := hq
                          have hq4 := Ne.symm hq1
                          have hq5 := Ne.symm hq2
                          have hq6 := Ne.symm hq3
                          go_simp
                          refine HK.out _ _ ⟨fun hx => absurd hx (by decide), ?_⟩
                          clear HK K
                          try simp only [Act.put, List.setIfInBounds_toArray, List.set_cons_zero, List.set_cons_succ]
                          as_aux_lemma =>
                            refine wpL_pure (i := 18) (oi := { dst := some 231, op := Op.fieldAddr 30 (Operand.tmp 15) 4, type := 0, pos := "law.go:277", after := #[{ on := 0, ground := Ground.phase }, { on := 1, ground := Ground.phase }, { on := 2, ground := Ground.phase }, { on := 3, ground := Ground.phase }, { on := 4, ground := Ground.phase }, { on := 5, ground := Ground.phase }, { on := 6, ground := Ground.phase }, { on := 7, ground := Ground.phase }, { on := 8, ground := Ground.phase }, { on := 9, ground := Ground.phase }, { on := 10, ground := Ground.phase }, { on := 11, ground := Ground.textOnly Departure.lateStores }, { on := 12, ground := Ground.textOnly Departure.lateStores }, { on := 13, ground := Ground.textOnly Departure.lateStoresUnsure }, { on := 14, ground := Ground.phase }, { on := 15, ground := Ground.phase }, { on := 16, ground := Ground.phase }, { on := 17, ground := Ground.phase }], guard := none }) (v := ?_) rfl (by kernel_rfl) (by kernel_rfl) (by kernel_rfl) (fun _ _ _ h => h) (by decide) hc (Or.inl ⟨by rfl, ?_⟩) (fun hx => absurd hx (by decide)) (fun hc2 => ?_)
                            rotate_left
                            · (intro w _; go_simp; try with_reducible rfl)
                            clear hc; have hc := hc2; clear hc2
                            try simp only [Act.put, List.setIfInBounds_toArray, List.set_cons_zero, List.set_cons_succ]
                            refine wpL_ready (rs := [19]) (by kernel_rfl) (by simp) ?_ hc
                            intro i hi hc2
                            simp only [List.mem_cons, List.mem_nil_iff, or_false] at hi
                            subst hi
                            clear hc; have hc := hc2; clear hc2
                            refine wpOp_step (o := { dst := none, op := Op.store 28 (Operand.tmp 231) (Operand.tmp 224), type := 0, pos := "law.go:277", after := #[{ on := 18, ground := Ground.data }, { on := 10, ground := Ground.data }, { on := 17, ground := Ground.chain }, { on := 0, ground := Ground.phase }, { on := 1, ground := Ground.phase }, { on := 2, ground := Ground.phase }, { on := 3, ground := Ground.phase }, { on := 4, ground := Ground.phase }, { on := 5, ground := Ground.phase }, { on := 6, ground := Ground.phase }, { on := 7, ground := Ground.phase }, { on := 8, ground := Ground.phase }, { on := 9, ground := Ground.phase }, { on := 10, ground := Ground.phase }, { on := 11, ground := Ground.textOnly Departure.lateStores }, { on := 12, ground := Ground.textOnly Departure.lateStores }, { on := 13, ground := Ground.textOnly Departure.lateStoresUnsure }, { on := 14, ground := Ground.phase }, { on := 15, ground := Ground.phase }, { on := 16, ground := Ground.phase }, { on := 17, ground := Ground.phase }], guard := none }) rfl (fun K hK => ?_)
                            have HK := hide hK
                            clear hK
                            go_simp
                            refine HK.out _ _ ⟨fun hx => absurd hx (by decide), ?_⟩
                            clear HK K
                            try simp only [Act.put, List.setIfInBounds_toArray, List.set_cons_zero, List.set_cons_succ]
                            as_aux_lemma =>
                              refine wpL_pure (i := 20) (oi := { dst := some 232, op := Op.fieldAddr 30 (Operand.tmp 17) 4, type := 0, pos := "law.go:277", after := #[{ on := 0, ground := Ground.phase }, { on := 1, ground := Ground.phase }, { on := 2, ground := Ground.phase }, { on := 3, ground := Ground.phase }, { on := 4, ground := Ground.phase }, { on := 5, ground := Ground.phase }, { on := 6, ground := Ground.phase }, { on := 7, ground := Ground.phase }, { on := 8, ground := Ground.phase }, { on := 9, ground := Ground.phase }, { on := 10, ground := Ground.phase }, { on := 11, ground := Ground.phase }, { on := 12, ground := Ground.phase }, { on := 13, ground := Ground.phase }, { on := 14, ground := Ground.phase }, { on := 15, ground := Ground.phase }, { on := 16, ground := Ground.phase }, { on := 17, ground := Ground.phase }, { on := 18, ground := Ground.phase }, { on := 19, ground := Ground.phase }], guard := none }) (v := ?_) rfl (by kernel_rfl) (by kernel_rfl) (by kernel_rfl) (fun _ _ _ h => h) (by decide) hc (Or.inl ⟨by rfl, ?_⟩) (fun hx => absurd hx (by decide)) (fun hc2 => ?_)
                              rotate_left
                              · (intro w _; go_simp; try with_reducible rfl)
                              clear hc; have hc := hc2; clear hc2
                              try simp only [Act.put, List.setIfInBounds_toArray, List.set_cons_zero, List.set_cons_succ]
                              refine wpL_ready (rs := [21]) (by kernel_rfl) (by simp) ?_ hc
                              intro i hi hc2
                              simp only [List.mem_cons, List.mem_nil_iff, or_false] at hi
                              subst hi
                              clear hc; have hc := hc2; clear hc2
                              refine wpOp_step (o := { dst := none, op := Op.store 28 (Operand.tmp 232) (Operand.tmp 228), type := 0, pos := "law.go:277", after := #[{ on := 20, ground := Ground.data }, { on := 14, ground := Ground.data }, { on := 19, ground := Ground.chain }, { on := 0, ground := Ground.phase }, { on := 1, ground := Ground.phase }, { on := 2, ground := Ground.phase }, { on := 3, ground := Ground.phase }, { on := 4, ground := Ground.phase }, { on := 5, ground := Ground.phase }, { on := 6, ground := Ground.phase }, { on := 7, ground := Ground.phase }, { on := 8, ground := Ground.phase }, { on := 9, ground := Ground.phase }, { on := 10, ground := Ground.phase }, { on := 11, ground := Ground.phase }, { on := 12, ground := Ground.phase }, { on := 13, ground := Ground.phase }, { on := 14, ground := Ground.phase }, { on := 15, ground := Ground.phase }, { on := 16, ground := Ground.phase }, { on := 17, ground := Ground.phase }, { on := 18, ground := Ground.phase }, { on := 19, ground := Ground.phase }], guard := none }) rfl (fun K hK => ?_)
                              have HK := hide hK
                              clear hK
                              go_simp
                              refine HK.out _ _ ⟨fun hx => absurd hx (by decide), ?_⟩
                              clear HK K
                              try simp only [Act.put, List.setIfInBounds_toArray, List.set_cons_zero, List.set_cons_succ]
                              refine wpL_done (by kernel_rfl) ?_
                              have hfin := R25.fin HA.out h6 (.slice (some ⟨g6, 0, none⟩) 3 d6)
                              clear h6 hc
                              go_wp2_with fail
                              go_meet
                              case rel => exact ⟨_, _, _, _, hfin⟩
            · clear hc; have hc := hc2; clear hc2
              refine wpOp_step (o := { dst := some 223, op := Op.buildSlice 28 1 #[(0, Operand.const (Value.int IntKind.i64 2))], type := 28, pos := "law.go:277", after := #[], guard := none }) rfl (fun K hK => ?_)
              have HK := hide hK
              clear hK
              go_simp
              have h2 := R25.alloc2 HA.out h1
              refine HK.out _ _ ⟨fun _ => R25.T h2, ?_⟩
              clear HK K h1
              try simp only [Act.put, List.setIfInBounds_toArray, List.set_cons_zero, List.set_cons_succ]
              generalize X1.alloc (celO 2) = X2 at h2 ⊢
              generalize X1.heap.size = n2 at h2 ⊢
              as_aux_lemma =>
                refine wpL_ready (rs := [6, 13]) (by kernel_rfl) (by simp) ?_ hc
                intro i hi hc2
                simp only [List.mem_cons, List.mem_nil_iff, or_false] at hi
                rcases hi with rfl | rfl
                · clear hc; have hc := hc2; clear hc2
                  refine wpOp_step (o := { dst := some 220, op := Op.call { callee := Callee.builtin Builtin.append, args := #[Operand.tmp 218, Operand.tmp 219], argTypes := #[28, 28] }, type := 28, pos := "law.go:277", after := #[{ on := 4, ground := Ground.data }, { on := 5, ground := Ground.data }], guard := none }) rfl (fun K hK => ?_)
                  have HK := hide hK
                  clear hK
                  refine step_app1 HA.out h2 rfl _ _ rfl rfl rfl ?_
                  intro g3 d3 X3 h3
                  refine HK.out _ _ ⟨fun _ => R25.T h3, ?_⟩
                  clear HK K h2
                  try simp only [Act.put, List.setIfInBounds_toArray, List.set_cons_zero, List.set_cons_succ]
                  as_aux_lemma =>
                    refine wpL_ready (rs := [10, 13]) (by kernel_rfl) (by simp) ?_ hc
                    intro i hi hc2
                    simp only [List.mem_cons, List.mem_nil_iff, or_false] at hi
                    rcases hi with rfl | rfl
                    · clear hc; have hc := hc2; clear hc2
                      refine wpOp_step (o := { dst := some 224, op := Op.call { callee := Callee.builtin Builtin.append, args := #[Operand.tmp 222, Operand.tmp 223], argTypes := #[28, 28] }, type := 28, pos := "law.go:277", after := #[{ on := 8, ground := Ground.data }, { on := 9, ground := Ground.data }, { on := 6, ground := Ground.chain }], guard := none }) rfl (fun K hK => ?_)
                      have HK := hide hK
                      clear hK
                      refine step_app2 HA.out h3 rfl _ _ rfl rfl rfl ?_
                      intro g4 d4 X4 h4
                      refine HK.out _ _ ⟨fun _ => R25.T h4, ?_⟩
                      clear HK K h3
                      try simp only [Act.put, List.setIfInBounds_toArray, List.set_cons_zero, List.set_cons_succ]
                      as_aux_lemma =>
                        refine wpL_ready (rs := [13]) (by kernel_rfl) (by simp) ?_ hc
                        intro i hi hc2
                        simp only [List.mem_cons, List.mem_nil_iff, or_false] at hi
                        subst hi
                        clear hc; have hc := hc2; clear hc2
                        refine wpOp_step (o := { dst := some 227, op := Op.buildSlice 28 1 #[(0, Operand.const (Value.int IntKind.i64 3))], type := 28, pos := "law.go:277", after := #[], guard := none }) rfl (fun K hK => ?_)
                        have HK := hide hK
                        clear hK
                        go_simp
                        have h5 := R25.alloc3 HA.out h4
                        refine HK.out _ _ ⟨fun _ => R25.T h5, ?_⟩
                        clear HK K h4
                        try simp only [Act.put, List.setIfInBounds_toArray, List.set_cons_zero, List.set_cons_succ]
                        generalize X4.alloc (celO 3) = X5 at h5 ⊢
                        generalize X4.heap.size = n5 at h5 ⊢
                        as_aux_lemma =>
                          refine wpL_ready (rs := [14]) (by kernel_rfl) (by simp) ?_ hc
                          intro i hi hc2
                          simp only [List.mem_cons, List.mem_nil_iff, or_false] at hi
                          subst hi
                          clear hc; have hc := hc2; clear hc2
                          refine wpOp_step (o := { dst := some 228, op := Op.call { callee := Callee.builtin Builtin.append, args := #[Operand.tmp 226, Operand.tmp 227], argTypes := #[28, 28] }, type := 28, pos := "law.go:277", after := #[{ on := 12, ground := Ground.data }, { on := 13, ground := Ground.data }, { on := 10, ground := Ground.chain }], guard := none }) rfl (fun K hK => ?_)
                          have HK := hide hK
                          clear hK
                          refine step_app3 HA.out h5 rfl _ _ rfl rfl rfl ?_
                          intro g6 d6 X6 h6
                          refine HK.out _ _ ⟨fun _ => R25.T h6, ?_⟩
                          clear HK K h5
                          try simp only [Act.put, List.setIfInBounds_toArray, List.set_cons_zero, List.set_cons_succ]
                          as_aux_lemma =>
                            refine wpL_pure (i := 15) (oi := { dst := some 229, op := Op.indexAddr 33 (Operand.tmp 214) (Operand.const (Value.int IntKind.i64 0)), type := 0, pos := "law.go:277", after := #[{ on := 0, ground := Ground.data }, { on := 0, ground := Ground.phase }, { on := 1, ground := Ground.phase }, { on := 2, ground := Ground.phase }, { on := 3, ground := Ground.phase }, { on := 4, ground := Ground.phase }, { on := 5, ground := Ground.phase }, { on := 6, ground := Ground.phase }, { on := 7, ground := Ground.textOnly Departure.lateStores }, { on := 8, ground := Ground.textOnly Departure.lateStores }, { on := 9, ground := Ground.textOnly Departure.lateStoresUnsure }, { on := 10, ground := Ground.phase }, { on := 11, ground := Ground.textOnly Departure.lateStores }, { on := 12, ground := Ground.textOnly Departure.lateStores }, { on := 13, ground := Ground.textOnly Departure.lateStoresUnsure }, { on := 14, ground := Ground.phase }], guard := none }) (v := ?_) rfl (by kernel_rfl) (by kernel_rfl) (by kernel_rfl) (fun _ _ _ h => h) (by decide) hc (Or.inl ⟨by rfl, ?_⟩) (fun _ => R25.T h6) (fun hc2 => ?_)
                            rotate_left
                            · (intro w _; go_simp; try with_reducible rfl)
                            clear hc; have hc := hc2; clear hc2
                            try simp only [Act.put, List.setIfInBounds_toArray, List.set_cons_zero, List.set_cons_succ]
                            refine wpL_pure (i := 16) (oi := { dst := some 230, op := Op.fieldAddr 30 (Operand.tmp 229) 4, type := 0, pos := "law.go:277", after := #[{ on := 15, ground := Ground.data }, { on := 0, ground := Ground.phase }, { on := 1, ground := Ground.phase }, { on := 2, ground := Ground.phase }, { on := 3, ground := Ground.phase }, { on := 4, ground := Ground.phase }, { on := 5, ground := Ground.phase }, { on := 6, ground := Ground.phase }, { on := 7, ground := Ground.textOnly Departure.lateStores }, { on := 8, ground := Ground.textOnly Departure.lateStores }, { on := 9, ground := Ground.textOnly Departure.lateStoresUnsure }, { on := 10, ground := Ground.phase }, { on := 11, ground := Ground.textOnly Departure.lateStores }, { on := 12, ground := Ground.textOnly Departure.lateStores }, { on := 13, ground := Ground.textOnly Departure.lateStoresUnsure }, { on := 14, ground := Ground.phase }], guard := none }) (v := ?_) rfl (by kernel_rfl) (by kernel_rfl) (by kernel_rfl) (fun _ _ _ h => h) (by decide) hc (Or.inl ⟨by rfl, ?_⟩) (fun _ => R25.T h6) (fun hc2 => ?_)
                            rotate_left
                            · (intro w _; go_simp; try with_reducible rfl)
                            clear hc; have hc := hc2; clear hc2
                            try simp only [Act.put, List.setIfInBounds_toArray, List.set_cons_zero, List.set_cons_succ]
                            refine wpL_ready (rs := [17]) (by kernel_rfl) (by simp) ?_ hc
                            intro i hi hc2
                            simp only [List.mem_cons, List.mem_nil_iff, or_false] at hi
                            subst hi
                            clear hc; have hc := hc2; clear hc2
                            refine wpOp_step (o := { dst := none, op := Op.store 28 (Operand.tmp 230) (Operand.tmp 220), type := 0, pos := "law.go:277", after := #[{ on := 16, ground := Ground.data }, { on := 6, ground := Ground.data }, { on := 14, ground := Ground.chain }, { on := 0, ground := Ground.phase }, { on := 1, ground := Ground.phase }, { on := 2, ground := Ground.phase }, { on := 3, ground := Ground.phase }, { on := 4, ground := Ground.phase }, { on := 5, ground := Ground.phase }, { on := 6, ground := Ground.phase }, { on := 7, ground := Ground.textOnly Departure.lateStores }, { on := 8, ground := Ground.textOnly Departure.lateStores }, { on := 9, ground := Ground.textOnly Departure.lateStoresUnsure }, { on := 10, ground := Ground.phase }, { on := 11, ground := Ground.textOnly Departure.lateStores }, { on := 12, ground := Ground.textOnly Departure.lateStores }, { on := 13, ground := Ground.textOnly Departure.lateStoresUnsure }, { on := 14, ground := Ground.phase }], guard := none }) rfl (fun K hK => ?_)
                            have HK := hide hK
                            clear hK
                            have hT := R25.T h6
                            have hF1 : X6.frozen? ⟨pb, 4, none⟩ = false := World.ownsRow.frozenAt (R25.rst h6).p 4
                            have hF2 : X6.frozen? ⟨xb, 4, none⟩ = false := blk_free (R25.rst h6).x 4
                            have hF3 : X6.frozen? ⟨yb, 4, none⟩ = false := blk_free (R25.rst h6).y 4
                            obtain ⟨hT1, hT2, hT3⟩ := hT
                            have hq := HA.out.pxy.2.1
                            dsimp only at hT1 hT2 hT3 hq
                            obtain ⟨hq1, hq2, hq3⟩ := hq
                            have hq4 := Ne.symm hq1
                            have hq5 := Ne.symm hq2
                            have hq6 := Ne.symm hq3
                            go_simp
                            refine HK.out _ _ ⟨fun hx => absurd hx (by decide), ?_⟩
                            clear HK K
                            try simp only [Act.put, List.setIfInBounds_toArray, List.set_cons_zero, List.set_cons_succ]
                            as_aux_lemma =>
                              refine wpL_pure (i := 18) (oi := { dst := some 231, op := Op.fieldAddr 30 (Operand.tmp 15) 4, type := 0, pos := "law.go:277", after := #[{ on := 0, ground := Ground.phase }, { on := 1, ground := Ground.phase }, { on := 2, ground := Ground.phase }, { on := 3, ground := Ground.phase }, { on := 4, ground := Ground.phase }, { on := 5, ground := Ground.phase }, { on := 6, ground := Ground.phase }, { on := 7, ground := Ground.phase }, { on := 8, ground := Ground.phase }, { on := 9, ground := Ground.phase }, { on := 10, ground := Ground.phase }, { on := 11, ground := Ground.textOnly Departure.lateStores }, { on := 12, ground := Ground.textOnly Departure.lateStores }, { on := 13, ground := Ground.textOnly Departure.lateStoresUnsure }, { on := 14, ground := Ground.phase }, { on := 15, ground := Ground.phase }, { on := 16, ground := Ground.phase }, { on := 17, ground := Ground.phase }], guard := none }) (v := ?_) rfl (by kernel_rfl) (by kernel_rfl) (by kernel_rfl) (fun _ _ _ h => h) (by decide) hc (Or.inl ⟨by rfl, ?_⟩) (fun hx => absurd hx (by decide)) (fun hc2 => ?_)
                              rotate_left
                              · (intro w _; go_simp; try with_reducible rfl)
                              clear hc; have hc := hc2; clear hc2
                              try simp only [Act.put, List.setIfInBounds_toArray, List.set_cons_zero, List.set_cons_succ]
                              refine wpL_ready (rs := [19]) (by kernel_rfl) (by simp) ?_ hc
                              intro i hi hc2
                              simp only [List.mem_cons, List.mem_nil_iff, or_false] at hi
                              subst hi
                              clear hc; have hc := hc2; clear hc2
                              refine wpOp_step (o := { dst := none, op := Op.store 28 (Operand.tmp 231) (Operand.tmp 224), type := 0, pos := "law.go:277", after := #[{ on := 18, ground := Ground.data }, { on := 10, ground := Ground.data }, { on := 17, ground := Ground.chain }, { on := 0, ground := Ground.phase }, { on := 1, ground := Ground.phase }, { on := 2, ground := Ground.phase }, { on := 3, ground := Ground.phase }, { on := 4, ground := Ground.phase }, { on := 5, ground := Ground.phase }, { on := 6, ground := Ground.phase }, { on := 7, ground := Ground.phase }, { on := 8, ground := Ground.phase }, { on := 9, ground := Ground.phase }, { on := 10, ground := Ground.phase }, { on := 11, ground := Ground.textOnly Departure.lateStores }, { on := 12, ground := Ground.textOnly Departure.lateStores }, { on := 13, ground := Ground.textOnly Departure.lateStoresUnsure }, { on := 14, ground := Ground.phase }, { on := 15, ground := Ground.phase }, { on := 16, ground := Ground.phase }, { on := 17, ground := Ground.phase }], guard := none }) rfl (fun K hK => ?_)
                              have HK := hide hK
                              clear hK
                              go_simp
                              refine HK.out _ _ ⟨fun hx => absurd hx (by decide), ?_⟩
                              clear HK K
                              try simp only [Act.put, List.setIfInBounds_toArray, List.set_cons_zero, List.set_cons_succ]
                              as_aux_lemma =>
                                refine wpL_pure (i := 20) (oi := { dst := some 232, op := Op.fieldAddr 30 (Operand.tmp 17) 4, type := 0, pos := "law.go:277", after := #[{ on := 0, ground := Ground.phase }, { on := 1, ground := Ground.phase }, { on := 2, ground := Ground.phase }, { on := 3, ground := Ground.phase }, { on := 4, ground := Ground.phase }, { on := 5, ground := Ground.phase }, { on := 6, ground := Ground.phase }, { on := 7, ground := Ground.phase }, { on := 8, ground := Ground.phase }, { on := 9, ground := Ground.phase }, { on := 10, ground := Ground.phase }, { on := 11, ground := Ground.phase }, { on := 12, ground := Ground.phase }, { on := 13, ground := Ground.phase }, { on := 14, ground := Ground.phase }, { on := 15, ground := Ground.phase }, { on := 16, ground := Ground.phase }, { on := 17, ground := Ground.phase }, { on := 18, ground := Ground.phase }, { on := 19, ground := Ground.phase }], guard := none }) (v := ?_) rfl (by kernel_rfl) (by kernel_rfl) (by kernel_rfl) (fun _ _ _ h => h) (by decide) hc (Or.inl ⟨by rfl, ?_⟩) (fun hx => absurd hx (by decide)) (fun hc2 => ?_)
                                rotate_left
                                · (intro w _; go_simp; try with_reducible rfl)
                                clear hc; have hc := hc2; clear hc2
                                try simp only [Act.put, List.setIfInBounds_toArray, List.set_cons_zero, List.set_cons_succ]
                                refine wpL_ready (rs := [21]) (by kernel_rfl) (by simp) ?_ hc
                                intro i hi hc2
                                simp only [List.mem_cons, List.mem_nil_iff, or_false] at hi
                                subst hi
                                clear hc; have hc := hc2; clear hc2
                                refine wpOp_step (o := { dst := none, op := Op.store 28 (Operand.tmp 232) (Operand.tmp 228), type := 0, pos := "law.go:277", after := #[{ on := 20, ground := Ground.data }, { on := 14, ground := Ground.data }, { on := 19, ground := Ground.chain }, { on := 0, ground := Ground.phase }, { on := 1, ground := Ground.phase }, { on := 2, ground := Ground.phase }, { on := 3, ground := Ground.phase }, { on := 4, ground := Ground.phase }, { on := 5, ground := Ground.phase }, { on := 6, ground := Ground.phase }, { on := 7, ground := Ground.phase }, { on := 8, ground := Ground.phase }, { on := 9, ground := Ground.phase }, { on := 10, ground := Ground.phase }, { on := 11, ground := Ground.phase }, { on := 12, ground := Ground.phase }, { on := 13, ground := Ground.phase }, { on := 14, ground := Ground.phase }, { on := 15, ground := Ground.phase }, { on := 16, ground := Ground.phase }, { on := 17, ground := Ground.phase }, { on := 18, ground := Ground.phase }, { on := 19, ground := Ground.phase }], guard := none }) rfl (fun K hK => ?_)
                                have HK := hide hK
                                clear hK
                                go_simp
                                refine HK.out _ _ ⟨fun hx => absurd hx (by decide), ?_⟩
                                clear HK K
                                try simp only [Act.put, List.setIfInBounds_toArray, List.set_cons_zero, List.set_cons_succ]
                                refine wpL_done (by kernel_rfl) ?_
                                have hfin := R25.fin HA.out h6 (.slice (some ⟨g6, 0, none⟩) 3 d6)
                                clear h6 hc
                                go_wp2_with fail
                                go_meet
                                case rel => exact ⟨_, _, _, _, hfin⟩
                    · clear hc; have hc := hc2; clear hc2
                      refine wpOp_step (o := { dst := some 227, op := Op.buildSlice 28 1 #[(0, Operand.const (Value.int IntKind.i64 3))], type := 28, pos := "law.go:277", after := #[], guard := none }) rfl (fun K hK => ?_)
                      have HK := hide hK
                      clear hK
                      go_simp
                      have h4 := R25.alloc3 HA.out h3
                      refine HK.out _ _ ⟨fun _ => R25.T h4, ?_⟩
                      clear HK K h3
                      try simp only [Act.put, List.setIfInBounds_toArray, List.set_cons_zero, List.set_cons_succ]
                      generalize X3.alloc (celO 3) = X4 at h4 ⊢
                      generalize X3.heap.size = n4 at h4 ⊢
                      as_aux_lemma =>
                        refine wpL_ready (rs := [10]) (by kernel_rfl) (by simp) ?_ hc
                        intro i hi hc2
                        simp only [List.mem_cons, List.mem_nil_iff, or_false] at hi
                        subst hi
                        clear hc; have hc := hc2; clear hc2
                        refine wpOp_step (o := { dst := some 224, op := Op.call { callee := Callee.builtin Builtin.append, args := #[Operand.tmp 222, Operand.tmp 223], argTypes := #[28, 28] }, type := 28, pos := "law.go:277", after := #[{ on := 8, ground := Ground.data }, { on := 9, ground := Ground.data }, { on := 6, ground := Ground.chain }], guard := none }) rfl (fun K hK => ?_)
                        have HK := hide hK
                        clear hK
                        refine step_app2 HA.out h4 rfl _ _ rfl rfl rfl ?_
                        intro g5 d5 X5 h5
                        refine HK.out _ _ ⟨fun _ => R25.T h5, ?_⟩
                        clear HK K h4
                        try simp only [Act.put, List.setIfInBounds_toArray, List.set_cons_zero, List.set_cons_succ]
                        as_aux_lemma =>
                          refine wpL_ready (rs := [14]) (by kernel_rfl) (by simp) ?_ hc
                          intro i hi hc2
                          simp only [List.mem_cons, List.mem_nil_iff, or_false] at hi
                          subst hi
                          clear hc; have hc := hc2; clear hc2
                          refine wpOp_step (o := { dst := some 228, op := Op.call { callee := Callee.builtin Builtin.append, args := #[Operand.tmp 226, Operand.tmp 227], argTypes := #[28, 28] }, type := 28, pos := "law.go:277", after := #[{ on := 12, ground := Ground.data }, { on := 13, ground := Ground.data }, { on := 10, ground := Ground.chain }], guard := none }) rfl (fun K hK => ?_)
                          have HK := hide hK
                          clear hK
                          refine step_app3 HA.out h5 rfl _ _ rfl rfl rfl ?_
                          intro g6 d6 X6 h6
                          refine HK.out _ _ ⟨fun _ => R25.T h6, ?_⟩
                          clear HK K h5
                          try simp only [Act.put, List.setIfInBounds_toArray, List.set_cons_zero, List.set_cons_succ]
                          as_aux_lemma =>
                            refine wpL_pure (i := 15) (oi := { dst := some 229, op := Op.indexAddr 33 (Operand.tmp 214) (Operand.const (Value.int IntKind.i64 0)), type := 0, pos := "law.go:277", after := #[{ on := 0, ground := Ground.data }, { on := 0, ground := Ground.phase }, { on := 1, ground := Ground.phase }, { on := 2, ground := Ground.phase }, { on := 3, ground := Ground.phase }, { on := 4, ground := Ground.phase }, { on := 5, ground := Ground.phase }, { on := 6, ground := Ground.phase }, { on := 7, ground := Ground.textOnly Departure.lateStores }, { on := 8, ground := Ground.textOnly Departure.lateStores }, { on := 9, ground := Ground.textOnly Departure.lateStoresUnsure }, { on := 10, ground := Ground.phase }, { on := 11, ground := Ground.textOnly Departure.lateStores }, { on := 12, ground := Ground.textOnly Departure.lateStores }, { on := 13, ground := Ground.textOnly Departure.lateStoresUnsure }, { on := 14, ground := Ground.phase }], guard := none }) (v := ?_) rfl (by kernel_rfl) (by kernel_rfl) (by kernel_rfl) (fun _ _ _ h => h) (by decide) hc (Or.inl ⟨by rfl, ?_⟩) (fun _ => R25.T h6) (fun hc2 => ?_)
                            rotate_left
                            · (intro w _; go_simp; try with_reducible rfl)
                            clear hc; have hc := hc2; clear hc2
                            try simp only [Act.put, List.setIfInBounds_toArray, List.set_cons_zero, List.set_cons_succ]
                            refine wpL_pure (i := 16) (oi := { dst := some 230, op := Op.fieldAddr 30 (Operand.tmp 229) 4, type := 0, pos := "law.go:277", after := #[{ on := 15, ground := Ground.data }, { on := 0, ground := Ground.phase }, { on := 1, ground := Ground.phase }, { on := 2, ground := Ground.phase }, { on := 3, ground := Ground.phase }, { on := 4, ground := Ground.phase }, { on := 5, ground := Ground.phase }, { on := 6, ground := Ground.phase }, { on := 7, ground := Ground.textOnly Departure.lateStores }, { on := 8, ground := Ground.textOnly Departure.lateStores }, { on := 9, ground := Ground.textOnly Departure.lateStoresUnsure }, { on := 10, ground := Ground.phase }, { on := 11, ground := Ground.textOnly Departure.lateStores }, { on := 12, ground := Ground.textOnly Departure.lateStores }, { on := 13, ground := Ground.textOnly Departure.lateStoresUnsure }, { on := 14, ground := Ground.phase }], guard := none }) (v := ?_) rfl (by kernel_rfl) (by kernel_rfl) (by kernel_rfl) (fun _ _ _ h => h) (by decide) hc (Or.inl ⟨by rfl, ?_⟩) (fun _ => R25.T h6) (fun hc2 => ?_)
                            rotate_left
                            · (intro w _; go_simp; try with_reducible rfl)
                            clear hc; have hc := hc2; clear hc2
                            try simp only [Act.put, List.setIfInBounds_toArray, List.set_cons_zero, List.set_cons_succ]
                            refine wpL_ready (rs := [17]) (by kernel_rfl) (by simp) ?_ hc
                            intro i hi hc2
                            simp only [List.mem_cons, List.mem_nil_iff, or_false] at hi
                            subst hi
                            clear hc; have hc := hc2; clear hc2
                            refine wpOp_step (o := { dst := none, op := Op.store 28 (Operand.tmp 230) (Operand.tmp 220), type := 0, pos := "law.go:277", after := #[{ on := 16, ground := Ground.data }, { on := 6, ground := Ground.data }, { on := 14, ground := Ground.chain }, { on := 0, ground := Ground.phase }, { on := 1, ground := Ground.phase }, { on := 2, ground := Ground.phase }, { on := 3, ground := Ground.phase }, { on := 4, ground := Ground.phase }, { on := 5, ground := Ground.phase }, { on := 6, ground := Ground.phase }, { on := 7, ground := Ground.textOnly Departure.lateStores }, { on := 8, ground := Ground.textOnly Departure.lateStores }, { on := 9, ground := Ground.textOnly Departure.lateStoresUnsure }, { on := 10, ground := Ground.phase }, { on := 11, ground := Ground.textOnly Departure.lateStores }, { on := 12, ground := Ground.textOnly Departure.lateStores }, { on := 13, ground := Ground.textOnly Departure.lateStoresUnsure }, { on := 14, ground := Ground.phase }], guard := none }) rfl (fun K hK => ?_)
                            have HK := hide hK
                            clear hK
                            have hT := R25.T h6
                            have hF1 : X6.frozen? ⟨pb, 4, none⟩ = false := World.ownsRow.frozenAt (R25.rst h6).p 4
                            have hF2 : X6.frozen? ⟨xb, 4, none⟩ = false := blk_free (R25.rst h6).x 4
                            have hF3 : X6.frozen? ⟨yb, 4, none⟩ = false := blk_free (R25.rst h6).y 4
                            obtain ⟨hT1, hT2, hT3⟩ := hT
                            have hq := HA.out.pxy.2.1
                            dsimp only at hT1 hT2 hT3 hq
                            obtain ⟨hq1, hq2, hq3⟩ := hq
                            have hq4 := Ne.symm hq1
                            have hq5 := Ne.symm hq2
                            have hq6 := Ne.symm hq3
                            go_simp
                            refine HK.out _ _ ⟨fun hx => absurd hx (by decide), ?_⟩
                            clear HK K
                            try simp only [Act.put, List.setIfInBounds_toArray, List.set_cons_zero, List.set_cons_succ]
                            as_aux_lemma =>
                              refine wpL_pure (i := 18) (oi := { dst := some 231, op := Op.fieldAddr 30 (Operand.tmp 15) 4, type := 0, pos := "law.go:277", after := #[{ on := 0, ground := Ground.phase }, { on := 1, ground := Ground.phase }, { on := 2, ground := Ground.phase }, { on := 3, ground := Ground.phase }, { on := 4, ground := Ground.phase }, { on := 5, ground := Ground.phase }, { on := 6, ground := Ground.phase }, { on := 7, ground := Ground.phase }, { on := 8, ground := Ground.phase }, { on := 9, ground := Ground.phase }, { on := 10, ground := Ground.phase }, { on := 11, ground := Ground.textOnly Departure.lateStores }, { on := 12, ground := Ground.textOnly Departure.lateStores }, { on := 13, ground := Ground.textOnly Departure.lateStoresUnsure }, { on := 14, ground := Ground.phase }, { on := 15, ground := Ground.phase }, { on := 16, ground := Ground.phase }, { on := 17, ground := Ground.phase }], guard := none }) (v := ?_) rfl (by kernel_rfl) (by kernel_rfl) (by kernel_rfl) (fun _ _ _ h => h) (by decide) hc (Or.inl ⟨by rfl, ?_⟩) (fun hx => absurd hx (by decide)) (fun hc2 => ?_)
                              rotate_left
                              · (intro w _; go_simp; try with_reducible rfl)
                              clear hc; have hc := hc2; clear hc2
                              try simp only [Act.put, List.setIfInBounds_toArray, List.set_cons_zero, List.set_cons_succ]
                              refine wpL_ready (rs := [19]) (by kernel_rfl) (by simp) ?_ hc
                              intro i hi hc2
                              simp only [List.mem_cons, List.mem_nil_iff, or_false] at hi
                              subst hi
                              clear hc; have hc := hc2; clear hc2
                              refine wpOp_step (o := { dst := none, op := Op.store 28 (Operand.tmp 231) (Operand.tmp 224), type := 0, pos := "law.go:277", after := #[{ on := 18, ground := Ground.data }, { on := 10, ground := Ground.data }, { on := 17, ground := Ground.chain }, { on := 0, ground := Ground.phase }, { on := 1, ground := Ground.phase }, { on := 2, ground := Ground.phase }, { on := 3, ground := Ground.phase }, { on := 4, ground := Ground.phase }, { on := 5, ground := Ground.phase }, { on := 6, ground := Ground.phase }, { on := 7, ground := Ground.phase }, { on := 8, ground := Ground.phase }, { on := 9, ground := Ground.phase }, { on := 10, ground := Ground.phase }, { on := 11, ground := Ground.textOnly Departure.lateStores }, { on := 12, ground := Ground.textOnly Departure.lateStores }, { on := 13, ground := Ground.textOnly Departure.lateStoresUnsure }, { on := 14, ground := Ground.phase }, { on := 15, ground := Ground.phase }, { on := 16, ground := Ground.phase }, { on := 17, ground := Ground.phase }], guard := none }) rfl (fun K hK => ?_)
                              have HK := hide hK
                              clear hK
                              go_simp
                              refine HK.out _ _ ⟨fun hx => absurd hx (by decide), ?_⟩
                              clear HK K
                              try simp only [Act.put, List.setIfInBounds_toArray, List.set_cons_zero, List.set_cons_succ]
                              as_aux_lemma =>
                                refine wpL_pure (i := 20) (oi := { dst := some 232, op := Op.fieldAddr 30 (Operand.tmp 17) 4, type := 0, pos := "law.go:277", after := #[{ on := 0, ground := Ground.phase }, { on := 1, ground := Ground.phase }, { on := 2, ground := Ground.phase }, { on := 3, ground := Ground.phase }, { on := 4, ground := Ground.phase }, { on := 5, ground := Ground.phase }, { on := 6, ground := Ground.phase }, { on := 7, ground := Ground.phase }, { on := 8, ground := Ground.phase }, { on := 9, ground := Ground.phase }, { on := 10, ground := Ground.phase }, { on := 11, ground := Ground.phase }, { on := 12, ground := Ground.phase }, { on := 13, ground := Ground.phase }, { on := 14, ground := Ground.phase }, { on := 15, ground := Ground.phase }, { on := 16, ground := Ground.phase }, { on := 17, ground := Ground.phase }, { on := 18, ground := Ground.phase }, { on := 19, ground := Ground.phase }], guard := none }) (v := ?_) rfl (by kernel_rfl) (by kernel_rfl) (by kernel_rfl) (fun _ _ _ h => h) (by decide) hc (Or.inl ⟨by rfl, ?_⟩) (fun hx => absurd hx (by decide)) (fun hc2 => ?_)
                                rotate_left
                                · (intro w _; go_simp; try with_reducible rfl)
                                clear hc; have hc := hc2; clear hc2
                                try simp only [Act.put, List.setIfInBounds_toArray, List.set_cons_zero, List.set_cons_succ]
                                refine wpL_ready (rs := [21]) (by kernel_rfl) (by simp) ?_ hc
                                intro i hi hc2
                                simp only [List.mem_cons, List.mem_nil_iff, or_false] at hi
                                subst hi
                                clear hc; have hc := hc2; clear hc2
                                refine wpOp_step (o := { dst := none, op := Op.store 28 (Operand.tmp 232) (Operand.tmp 228), type := 0, pos := "law.go:277", after := #[{ on := 20, ground := Ground.data }, { on := 14, ground := Ground.data }, { on := 19, ground := Ground.chain }, { on := 0, ground := Ground.phase }, { on := 1, ground := Ground.phase }, { on := 2, ground := Ground.phase }, { on := 3, ground := Ground.phase }, { on := 4, ground := Ground.phase }, { on := 5, ground := Ground.phase }, { on := 6, ground := Ground.phase }, { on := 7, ground := Ground.phase }, { on := 8, ground := Ground.phase }, { on := 9, ground := Ground.phase }, { on := 10, ground := Ground.phase }, { on := 11, ground := Ground.phase }, { on := 12, ground := Ground.phase }, { on := 13, ground := Ground.phase }, { on := 14, ground := Ground.phase }, { on := 15, ground := Ground.phase }, { on := 16, ground := Ground.phase }, { on := 17, ground := Ground.phase }, { on := 18, ground := Ground.phase }, { on := 19, ground := Ground.phase }], guard := none }) rfl (fun K hK => ?_)
                                have HK := hide hK
                                clear hK
                                go_simp
                                refine HK.out _ _ ⟨fun hx => absurd hx (by decide), ?_⟩
                                clear HK K
                                try simp only [Act.put, List.setIfInBounds_toArray, List.set_cons_zero, List.set_cons_succ]
                                refine wpL_done (by kernel_rfl) ?_
                                have hfin := R25.fin HA.out h6 (.slice (some ⟨g6, 0, none⟩) 3 d6)
                                clear h6 hc
                                go_wp2_with fail
                                go_meet
                                case rel => exact ⟨_, _, _, _, hfin⟩
                · clear hc; have hc := hc2; clear hc2
                  refine wpOp_step (o := { dst := some 227, op := Op.buildSlice 28 1 #[(0, Operand.const (Value.int IntKind.i64 3))], type := 28, pos := "law.go:277", after := #[], guard := none }) rfl (fun K hK => ?_)
                  have HK := hide hK
                  clear hK
                  go_simp
                  have h3 := R25.alloc3 HA.out h2
                  refine HK.out _ _ ⟨fun _ => R25.T h3, ?_⟩
                  clear HK K h2
                  try simp only [Act.put, List.setIfInBounds_toArray, List.set_cons_zero, List.set_cons_succ]
                  generalize X2.alloc (celO 3) = X3 at h3 ⊢
                  generalize X2.heap.size = n3 at h3 ⊢
                  as_aux_lemma =>
                    refine wpL_ready (rs := [6]) (by kernel_rfl) (by simp) ?_ hc
                    intro i hi hc2
                    simp only [List.mem_cons, List.mem_nil_iff, or_false] at hi
                    subst hi
                    clear hc; have hc := hc2; clear hc2
                    refine wpOp_step (o := { dst := some 220, op := Op.call { callee := Callee.builtin Builtin.append, args := #[Operand.tmp 218, Operand.tmp 219], argTypes := #[28, 28] }, type := 28, pos := "law.go:277", after := #[{ on := 4, ground := Ground.data }, { on := 5, ground := Ground.data }], guard := none }) rfl (fun K hK => ?_)
                    have HK := hide hK
                    clear hK
                    refine step_app1 HA.out h3 rfl _ _ rfl rfl rfl ?_
                    intro g4 d4 X4 h4
                    refine HK.out _ _ ⟨fun _ => R25.T h4, ?_⟩
                    clear HK K h3
                    try simp only [Act.put, List.setIfInBounds_toArray, List.set_cons_zero, List.set_cons_succ]
                    as_aux_lemma =>
                      refine wpL_ready (rs := [10]) (by kernel_rfl) (by simp) ?_ hc
                      intro i hi hc2
                      simp only [List.mem_cons, List.mem_nil_iff, or_false] at hi
                      subst hi
                      clear hc; have hc := hc2; clear hc2
                      refine wpOp_step (o := { dst := some 224, op := Op.call { callee := Callee.builtin Builtin.append, args := #[Operand.tmp 222, Operand.tmp 223], argTypes := #[28, 28] }, type := 28, pos := "law.go:277", after := #[{ on := 8, ground := Ground.data }, { on := 9, ground := Ground.data }, { on := 6, ground := Ground.chain }], guard := none }) rfl (fun K hK => ?_)
                      have HK := hide hK
                      clear hK
                      refine step_app2 HA.out h4 rfl _ _ rfl rfl rfl ?_
                      intro g5 d5 X5 h5
                      refine HK.out _ _ ⟨fun _ => R25.T h5, ?_⟩
                      clear HK K h4
                      try simp only [Act.put, List.setIfInBounds_toArray, List.set_cons_zero, List.set_cons_succ]
                      as_aux_lemma =>
                        refine wpL_ready (rs := [14]) (by kernel_rfl) (by simp) ?_ hc
                        intro i hi hc2
                        simp only [List.mem_cons, List.mem_nil_iff, or_false] at hi
                        subst hi
                        clear hc; have hc := hc2; clear hc2
                        refine wpOp_step (o := { dst := some 228, op := Op.call { callee := Callee.builtin Builtin.append, args := #[Operand.tmp 226, Operand.tmp 227], argTypes := #[28, 28] }, type := 28, pos := "law.go:277", after := #[{ on := 12, ground := Ground.data }, { on := 13, ground := Ground.data }, { on := 10, ground := Ground.chain }], guard := none }) rfl (fun K hK => ?_)
                        have HK := hide hK
                        clear hK
                        refine step_app3 HA.out h5 rfl _ _ rfl rfl rfl ?_
                        intro g6 d6 X6 h6
                        refine HK.out _ _ ⟨fun _ => R25.T h6, ?_⟩
                        clear HK K h5
                        try simp only [Act.put, List.setIfInBounds_toArray, List.set_cons_zero, List.set_cons_succ]
                        as_aux_lemma =>
                          refine wpL_pure (i := 15) (oi := { dst := some 229, op := Op.indexAddr 33 (Operand.tmp 214) (Operand.const (Value.int IntKind.i64 0)), type := 0, pos := "law.go:277", after := #[{ on := 0, ground := Ground.data }, { on := 0, ground := Ground.phase }, { on := 1, ground := Ground.phase }, { on := 2, ground := Ground.phase }, { on := 3, ground := Ground.phase }, { on := 4, ground := Ground.phase }, { on := 5, ground := Ground.phase }, { on := 6, ground := Ground.phase }, { on := 7, ground := Ground.textOnly Departure.lateStores }, { on := 8, ground := Ground.textOnly Departure.lateStores }, { on := 9, ground := Ground.textOnly Departure.lateStoresUnsure }, { on := 10, ground := Ground.phase }, { on := 11, ground := Ground.textOnly Departure.lateStores }, { on := 12, ground := Ground.textOnly Departure.lateStores }, { on := 13, ground := Ground.textOnly Departure.lateStoresUnsure }, { on := 14, ground := Ground.phase }], guard := none }) (v := ?_) rfl (by kernel_rfl) (by kernel_rfl) (by kernel_rfl) (fun _ _ _ h => h) (by decide) hc (Or.inl ⟨by rfl, ?_⟩) (fun _ => R25.T h6) (fun hc2 => ?_)
                          rotate_left
                          · (intro w _; go_simp; try with_reducible rfl)
                          clear hc; have hc := hc2; clear hc2
                          try simp only [Act.put, List.setIfInBounds_toArray, List.set_cons_zero, List.set_cons_succ]
                          refine wpL_pure (i := 16) (oi := { dst := some 230, op := Op.fieldAddr 30 (Operand.tmp 229) 4, type := 0, pos := "law.go:277", after := #[{ on := 15, ground := Ground.data }, { on := 0, ground := Ground.phase }, { on := 1, ground := Ground.phase }, { on := 2, ground := Ground.phase }, { on := 3, ground := Ground.phase }, { on := 4, ground := Ground.phase }, { on := 5, ground := Ground.phase }, { on := 6, ground := Ground.phase }, { on := 7, ground := Ground.textOnly Departure.lateStores }, { on := 8, ground := Ground.textOnly Departure.lateStores }, { on := 9, ground := Ground.textOnly Departure.lateStoresUnsure }, { on := 10, ground := Ground.phase }, { on := 11, ground := Ground.textOnly Departure.lateStores }, { on := 12, ground := Ground.textOnly Departure.lateStores }, { on := 13, ground := Ground.textOnly Departure.lateStoresUnsure }, { on := 14, ground := Ground.phase }], guard := none }) (v := ?_) rfl (by kernel_rfl) (by kernel_rfl) (by kernel_rfl) (fun _ _ _ h => h) (by decide) hc (Or.inl ⟨by rfl, ?_⟩) (fun _ => R25.T h6) (fun hc2 => ?_)
                          rotate_left
                          · (intro w _; go_simp; try with_reducible rfl)
                          clear hc; have hc := hc2; clear hc2
                          try simp only [Act.put, List.setIfInBounds_toArray, List.set_cons_zero, List.set_cons_succ]
                          refine wpL_ready (rs := [17]) (by kernel_rfl) (by simp) ?_ hc
                          intro i hi hc2
                          simp only [List.mem_cons, List.mem_nil_iff, or_false] at hi
                          subst hi
                          clear hc; have hc := hc2; clear hc2
                          refine wpOp_step (o := { dst := none, op := Op.store 28 (Operand.tmp 230) (Operand.tmp 220), type := 0, pos := "law.go:277", after := #[{ on := 16, ground := Ground.data }, { on := 6, ground := Ground.data }, { on := 14, ground := Ground.chain }, { on := 0, ground := Ground.phase }, { on := 1, ground := Ground.phase }, { on := 2, ground := Ground.phase }, { on := 3, ground := Ground.phase }, { on := 4, ground := Ground.phase }, { on := 5, ground := Ground.phase }, { on := 6, ground := Ground.phase }, { on := 7, ground := Ground.textOnly Departure.lateStores }, { on := 8, ground := Ground.textOnly Departure.lateStores }, { on := 9, ground := Ground.textOnly Departure.lateStoresUnsure }, { on := 10, ground := Ground.phase }, { on := 11, ground := Ground.textOnly Departure.lateStores }, { on := 12, ground := Ground.textOnly Departure.lateStores }, { on := 13, ground := Ground.textOnly Departure.lateStoresUnsure }, { on := 14, ground := Ground.phase }], guard := none }) rfl (fun K hK => ?_)
                          have HK := hide hK
                          clear hK
                          have hT := R25.T h6
                          have hF1 : X6.frozen? ⟨pb, 4, none⟩ = false := World.ownsRow.frozenAt (R25.rst h6).p 4
                          have hF2 : X6.frozen? ⟨xb, 4, none⟩ = false := blk_free (R25.rst h6).x 4
                          have hF3 : X6.frozen? ⟨yb, 4, none⟩ = false := blk_free (R25.rst h6).y 4
                          obtain ⟨hT1, hT2, hT3⟩ := hT
                          have hq := HA.out.pxy.2.1
                          dsimp only at hT1 hT2 hT3 hq
                          obtain ⟨hq1, hq2, hq3⟩ := hq
                          have hq4 := Ne.symm hq1
                          have hq5 := Ne.symm hq2
                          have hq6 := Ne.symm hq3
                          go_simp
                          refine HK.out _ _ ⟨fun hx => absurd hx (by decide), ?_⟩
                          clear HK K
                          try simp only [Act.put, List.setIfInBounds_toArray, List.set_cons_zero, List.set_cons_succ]
                          as_aux_lemma =>
                            refine wpL_pure (i := 18) (oi := { dst := some 231, op := Op.fieldAddr 30 (Operand.tmp 15) 4, type := 0, pos := "law.go:277", after := #[{ on := 0, ground := Ground.phase }, { on := 1, ground := Ground.phase }, { on := 2, ground := Ground.phase }, { on := 3, ground := Ground.phase }, { on := 4, ground := Ground.phase }, { on := 5, ground := Ground.phase }, { on := 6, ground := Ground.phase }, { on := 7, ground := Ground.phase }, { on := 8, ground := Ground.phase }, { on := 9, ground := Ground.phase }, { on := 10, ground := Ground.phase }, { on := 11, ground := Ground.textOnly Departure.lateStores }, { on := 12, ground := Ground.textOnly Departure.lateStores }, { on := 13, ground := Ground.textOnly Departure.lateStoresUnsure }, { on := 14, ground := Ground.phase }, { on := 15, ground := Ground.phase }, { on := 16, ground := Ground.phase }, { on := 17, ground := Ground.phase }], guard := none }) (v := ?_) rfl (by kernel_rfl) (by kernel_rfl) (by kernel_rfl) (fun _ _ _ h => h) (by decide) hc (Or.inl ⟨by rfl, ?_⟩) (fun hx => absurd hx (by decide)) (fun hc2 => ?_)
                            rotate_left
                            · (intro w _; go_simp; try with_reducible rfl)
                            clear hc; have hc := hc2; clear hc2
                            try simp only [Act.put, List.setIfInBounds_toArray, List.set_cons_zero, List.set_cons_succ]
                            refine wpL_ready (rs := [19]) (by kernel_rfl) (by simp) ?_ hc
                            intro i hi hc2
                            simp only [List.mem_cons, List.mem_nil_iff, or_false] at hi
                            subst hi
                            clear hc; have hc := hc2; clear hc2
                            refine wpOp_step (o := { dst := none, op := Op.store 28 (Operand.tmp 231) (Operand.tmp 224), type := 0, pos := "law.go:277", after := #[{ on := 18, ground := Ground.data }, { on := 10, ground := Ground.data }, { on := 17, ground := Ground.chain }, { on := 0, ground := Ground.phase }, { on := 1, ground := Ground.phase }, { on := 2, ground := Ground.phase }, { on := 3, ground := Ground.phase }, { on := 4, ground := Ground.phase }, { on := 5, ground := Ground.phase }, { on := 6, ground := Ground.phase }, { on := 7, ground := Ground.phase }, { on := 8, ground := Ground.phase }, { on := 9, ground := Ground.phase }, { on := 10, ground := Ground.phase }, { on := 11, ground := Ground.textOnly Departure.lateStores }, { on := 12, ground := Ground.textOnly Departure.lateStores }, { on := 13, ground := Ground.textOnly Departure.lateStoresUnsure }, { on := 14, ground := Ground.phase }, { on := 15, ground := Ground.phase }, { on := 16, ground := Ground.phase }, { on := 17, ground := Ground.phase }], guard := none }) rfl (fun K hK => ?_)
                            have HK := hide hK
                            clear hK
                            go_simp
                            refine HK.out _ _ ⟨fun hx => absurd hx (by decide), ?_⟩
                            clear HK K
                            try simp only [Act.put, List.setIfInBounds_toArray, List.set_cons_zero, List.set_cons_succ]
                            as_aux_lemma =>
                              refine wpL_pure (i := 20) (oi := { dst := some 232, op := Op.fieldAddr 30 (Operand.tmp 17) 4, type := 0, pos := "law.go:277", after := #[{ on := 0, ground := Ground.phase }, { on := 1, ground := Ground.phase }, { on := 2, ground := Ground.phase }, { on := 3, ground := Ground.phase }, { on := 4, ground := Ground.phase }, { on := 5, ground := Ground.phase }, { on := 6, ground := Ground.phase }, { on := 7, ground := Ground.phase }, { on := 8, ground := Ground.phase }, { on := 9, ground := Ground.phase }, { on := 10, ground := Ground.phase }, { on := 11, ground := Ground.phase }, { on := 12, ground := Ground.phase }, { on := 13, ground := Ground.phase }, { on := 14, ground := Ground.phase }, { on := 15, ground := Ground.phase }, { on := 16, ground := Ground.phase }, { on := 17, ground := Ground.phase }, { on := 18, ground := Ground.phase }, { on := 19, ground := Ground.phase }], guard := none }) (v := ?_) rfl (by kernel_rfl) (by kernel_rfl) (by kernel_rfl) (fun _ _ _ h => h) (by decide) hc (Or.inl ⟨by rfl, ?_⟩) (fun hx => absurd hx (by decide)) (fun hc2 => ?_)
                              rotate_left
                              · (intro w _; go_simp; try with_reducible rfl)
                              clear hc; have hc := hc2; clear hc2
                              try simp only [Act.put, List.setIfInBounds_toArray, List.set_cons_zero, List.set_cons_succ]
                              refine wpL_ready (rs := [21]) (by kernel_rfl) (by simp) ?_ hc
                              intro i hi hc2
                              simp only [List.mem_cons, List.mem_nil_iff, or_false] at hi
                              subst hi
                              clear hc; have hc := hc2; clear hc2
                              refine wpOp_step (o := { dst := none, op := Op.store 28 (Operand.tmp 232) (Operand.tmp 228), type := 0, pos := "law.go:277", after := #[{ on := 20, ground := Ground.data }, { on := 14, ground := Ground.data }, { on := 19, ground := Ground.chain }, { on := 0, ground := Ground.phase }, { on := 1, ground := Ground.phase }, { on := 2, ground := Ground.phase }, { on := 3, ground := Ground.phase }, { on := 4, ground := Ground.phase }, { on := 5, ground := Ground.phase }, { on := 6, ground := Ground.phase }, { on := 7, ground := Ground.phase }, { on := 8, ground := Ground.phase }, { on := 9, ground := Ground.phase }, { on := 10, ground := Ground.phase }, { on := 11, ground := Ground.phase }, { on := 12, ground := Ground.phase }, { on := 13, ground := Ground.phase }, { on := 14, ground := Ground.phase }, { on := 15, ground := Ground.phase }, { on := 16, ground := Ground.phase }, { on := 17, ground := Ground.phase }, { on := 18, ground := Ground.phase }, { on := 19, ground := Ground.phase }], guard := none }) rfl (fun K hK => ?_)
                              have HK := hide hK
                              clear hK
                              go_simp
                              refine HK.out _ _ ⟨fun hx => absurd hx (by decide), ?_⟩
                              clear HK K
                              try simp only [Act.put, List.setIfInBounds_toArray, List.set_cons_zero, List.set_cons_succ]
                              refine wpL_done (by kernel_rfl) ?_
                              have hfin := R25.fin HA.out h6 (.slice (some ⟨g6, 0, none⟩) 3 d6)
                              clear h6 hc
                              go_wp2_with fail
                              go_meet
                              case rel => exact ⟨_, _, _, _, hfin⟩
            · clear hc; have hc := hc2; clear hc2
              refine wpOp_step (o := { dst := some 227, op := Op.buildSlice 28 1 #[(0, Operand.const (Value.int IntKind.i64 3))], type := 28, pos := "law.go:277", after := #[], guard := none }) rfl (fun K hK => ?_)
              have HK := hide hK
              clear hK
              go_simp
              have h2 := R25.alloc3 HA.out h1
              refine HK.out _ _ ⟨fun _ => R25.T h2, ?_⟩
              clear HK K h1
              try simp only [Act.put, List.setIfInBounds_toArray, List.set_cons_zero, List.set_cons_succ]
              generalize X1.alloc (celO 3) = X2 at h2 ⊢
              generalize X1.heap.size = n2 at h2 ⊢
              as_aux_lemma =>
                refine wpL_ready (rs := [6, 9]) (by kernel_rfl) (by simp) ?_ hc
                intro i hi hc2
                simp only [List.mem_cons, List.mem_nil_iff, or_false] at hi
                rcases hi with rfl | rfl
                · clear hc; have hc := hc2; clear hc2
                  refine wpOp_step (o := { dst := some 220, op := Op.call { callee := Callee.builtin Builtin.append, args := #[Operand.tmp 218, Operand.tmp 219], argTypes := #[28, 28] }, type := 28, pos := "law.go:277", after := #[{ on := 4, ground := Ground.data }, { on := 5, ground := Ground.data }], guard := none }) rfl (fun K hK => ?_)
                  have HK := hide hK
                  clear hK
                  refine step_app1 HA.out h2 rfl _ _ rfl rfl rfl ?_
                  intro g3 d3 X3 h3
                  refine HK.out _ _ ⟨fun _ => R25.T h3, ?_⟩
                  clear HK K h2
                  try simp only [Act.put, List.setIfInBounds_toArray, List.set_cons_zero, List.set_cons_succ]
                  as_aux_lemma =>
                    refine wpL_ready (rs := [9]) (by kernel_rfl) (by simp) ?_ hc
                    intro i hi hc2
                    simp only [List.mem_cons, List.mem_nil_iff, or_false] at hi
                    subst hi
                    clear hc; have hc := hc2; clear hc2
                    refine wpOp_step (o := { dst := some 223, op := Op.buildSlice 28 1 #[(0, Operand.const (Value.int IntKind.i64 2))], type := 28, pos := "law.go:277", after := #[], guard := none }) rfl (fun K hK => ?_)
                    have HK := hide hK
                    clear hK
                    go_simp
                    have h4 := R25.alloc2 HA.out h3
                    refine HK.out _ _ ⟨fun _ => R25.T h4, ?_⟩
                    clear HK K h3
                    try simp only [Act.put, List.setIfInBounds_toArray, List.set_cons_zero, List.set_cons_succ]
                    generalize X3.alloc (celO 2) = X4 at h4 ⊢
                    generalize X3.heap.size = n4 at h4 ⊢
                    as_aux_lemma =>
                      refine wpL_ready (rs := [10]) (by kernel_rfl) (by simp) ?_ hc
                      intro i hi hc2
                      simp only [List.mem_cons, List.mem_nil_iff, or_false] at hi
                      subst hi
                      clear hc; have hc := hc2; clear hc2
                      refine wpOp_step (o := { dst := some 224, op := Op.call { callee := Callee.builtin Builtin.append, args := #[Operand.tmp 222, Operand.tmp 223], argTypes := #[28, 28] }, type := 28, pos := "law.go:277", after := #[{ on := 8, ground := Ground.data }, { on := 9, ground := Ground.data }, { on := 6, ground := Ground.chain }], guard := none }) rfl (fun K hK => ?_)
                      have HK := hide hK
                      clear hK
                      refine step_app2 HA.out h4 rfl _ _ rfl rfl rfl ?_
                      intro g5 d5 X5 h5
                      refine HK.out _ _ ⟨fun _ => R25.T h5, ?_⟩
                      clear HK K h4
                      try simp only [Act.put, List.setIfInBounds_toArray, List.set_cons_zero, List.set_cons_succ]
                      as_aux_lemma =>
                        refine wpL_ready (rs := [14]) (by kernel_rfl) (by simp) ?_ hc
                        intro i hi hc2
                        simp only [List.mem_cons, List.mem_nil_iff, or_false] at hi
                        subst hi
                        clear hc; have hc := hc2; clear hc2
                        refine wpOp_step (o := { dst := some 228, op := Op.call { callee := Callee.builtin Builtin.append, args := #[Operand.tmp 226, Operand.tmp 227], argTypes := #[28, 28] }, type := 28, pos := "law.go:277", after := #[{ on := 12, ground := Ground.data }, { on := 13, ground := Ground.data }, { on := 10, ground := Ground.chain }], guard := none }) rfl (fun K hK => ?_)
                        have HK := hide hK
                        clear hK
                        refine step_app3 HA.out h5 rfl _ _ rfl rfl rfl ?_
                        intro g6 d6 X6 h6
                        refine HK.out _ _ ⟨fun _ => R25.T h6, ?_⟩
                        clear HK K h5
                        try simp only [Act.put, List.setIfInBounds_toArray, List.set_cons_zero, List.set_cons_succ]
                        as_aux_lemma =>
                          refine wpL_pure (i := 15) (oi := { dst := some 229, op := Op.indexAddr 33 (Operand.tmp 214) (Operand.const (Value.int IntKind.i64 0)), type := 0, pos := "law.go:277", after := #[{ on := 0, ground := Ground.data }, { on := 0, ground := Ground.phase }, { on := 1, ground := Ground.phase }, { on := 2, ground := Ground.phase }, { on := 3, ground := Ground.phase }, { on := 4, ground := Ground.phase }, { on := 5, ground := Ground.phase }, { on := 6, ground := Ground.phase }, { on := 7, ground := Ground.textOnly Departure.lateStores }, { on := 8, ground := Ground.textOnly Departure.lateStores }, { on := 9, ground := Ground.textOnly Departure.lateStoresUnsure }, { on := 10, ground := Ground.phase }, { on := 11, ground := Ground.textOnly Departure.lateStores }, { on := 12, ground := Ground.textOnly Departure.lateStores }, { on := 13, ground := Ground.textOnly Departure.lateStoresUnsure }, { on := 14, ground := Ground.phase }], guard := none }) (v := ?_) rfl (by kernel_rfl) (by kernel_rfl) (by kernel_rfl) (fun _ _ _ h => h) (by decide) hc (Or.inl ⟨by rfl, ?_⟩) (fun _ => R25.T h6) (fun hc2 => ?_)
                          rotate_left
                          · (intro w _; go_simp; try with_reducible rfl)
                          clear hc; have hc := hc2; clear hc2
                          try simp only [Act.put, List.setIfInBounds_toArray, List.set_cons_zero, List.set_cons_succ]
                          refine wpL_pure (i := 16) (oi := { dst := some 230, op := Op.fieldAddr 30 (Operand.tmp 229) 4, type := 0, pos := "law.go:277", after := #[{ on := 15, ground := Ground.data }, { on := 0, ground := Ground.phase }, { on := 1, ground := Ground.phase }, { on := 2, ground := Ground.phase }, { on := 3, ground := Ground.phase }, { on := 4, ground := Ground.phase }, { on := 5, ground := Ground.phase }, { on := 6, ground := Ground.phase }, { on := 7, ground := Ground.textOnly Departure.lateStores }, { on := 8, ground := Ground.textOnly Departure.lateStores }, { on := 9, ground := Ground.textOnly Departure.lateStoresUnsure }, { on := 10, ground := Ground.phase }, { on := 11, ground := Ground.textOnly Departure.lateStores }, { on := 12, ground := Ground.textOnly Departure.lateStores }, { on := 13, ground := Ground.textOnly Departure.lateStoresUnsure }, { on := 14, ground := Ground.phase }], guard := none }) (v := ?_) rfl (by kernel_rfl) (by kernel_rfl) (by kernel_rfl) (fun _ _ _ h => h) (by decide) hc (Or.inl ⟨by rfl, ?_⟩) (fun _ => R25.T h6) (fun hc2 => ?_)
                          rotate_left
                          · (intro w _; go_simp; try with_reducible rfl)
                          clear hc; have hc := hc2; clear hc2
                          try simp only [Act.put, List.setIfInBounds_toArray, List.set_cons_zero, List.set_cons_succ]
                          refine wpL_ready (rs := [17]) (by kernel_rfl) (by simp) ?_ hc
                          intro i hi hc2
                          simp only [List.mem_cons, List.mem_nil_iff, or_false] at hi
                          subst hi
                          clear hc; have hc := hc2; clear hc2
                          refine wpOp_step (o := { dst := none, op := Op.store 28 (Operand.tmp 230) (Operand.tmp 220), type := 0, pos := "law.go:277", after := #[{ on := 16, ground := Ground.data }, { on := 6, ground := Ground.data }, { on := 14, ground := Ground.chain }, { on := 0, ground := Ground.phase }, { on := 1, ground := Ground.phase }, { on := 2, ground := Ground.phase }, { on := 3, ground := Ground.phase }, { on := 4, ground := Ground.phase }, { on := 5, ground := Ground.phase }, { on := 6, ground := Ground.phase }, { on := 7, ground := Ground.textOnly Departure.lateStores }, { on := 8, ground := Ground.textOnly Departure.lateStores }, { on := 9, ground := Ground.textOnly Departure.lateStoresUnsure }, { on := 10, ground := Ground.phase }, { on := 11, ground := Ground.textOnly Departure.lateStores }, { on := 12, ground := Ground.textOnly Departure.lateStores }, { on := 13, ground := Ground.textOnly Departure.lateStoresUnsure }, { on := 14, ground := Ground.phase }], guard := none }) rfl (fun K hK => ?_)
                          have HK := hide hK
                          clear hK
                          have hT := R25.T h6
                          have hF1 : X6.frozen? ⟨pb, 4, none⟩ = false := World.ownsRow.frozenAt (R25.rst h6).p 4
                          have hF2 : X6.frozen? ⟨xb, 4, none⟩ = false := blk_free (R25.rst h6).x 4
                          have hF3 : X6.frozen? ⟨yb, 4, none⟩ = false := blk_free (R25.rst h6).y 4
                          obtain ⟨hT1, hT2, hT3⟩ := hT
                          have hq := HA.out.pxy.2.1
                          dsimp only at hT1 hT2 hT3 hq
                          obtain ⟨hq1, hq2, hq3⟩ := hq
                          have hq4 := Ne.symm hq1
                          have hq5 := Ne.symm hq2
                          have hq6 := Ne.symm hq3
                          go_simp
                          refine HK.out _ _ ⟨fun hx => absurd hx (by decide), ?_⟩
                          clear HK K
                          try simp only [Act.put, List.setIfInBounds_toArray, List.set_cons_zero, List.set_cons_succ]
                          as_aux_lemma =>
                            refine wpL_pure (i := 18) (oi := { dst := some 231, op := Op.fieldAddr 30 (Operand.tmp 15) 4, type := 0, pos := "law.go:277", after := #[{ on := 0, ground := Ground.phase }, { on := 1, ground := Ground.phase }, { on := 2, ground := Ground.phase }, { on := 3, ground := Ground.phase }, { on := 4, ground := Ground.phase }, { on := 5, ground := Ground.phase }, { on := 6, ground := Ground.phase }, { on := 7, ground := Ground.phase }, { on := 8, ground := Ground.phase }, { on := 9, ground := Ground.phase }, { on := 10, ground := Ground.phase }, { on := 11, ground := Ground.textOnly Departure.lateStores }, { on := 12, ground := Ground.textOnly Departure.lateStores }, { on := 13, ground := Ground.textOnly Departure.lateStoresUnsure }, { on := 14, ground := Ground.phase }, { on := 15, ground := Ground.phase }, { on := 16, ground := Ground.phase }, { on := 17, ground := Ground.phase }], guard := none }) (v := ?_) rfl (by kernel_rfl) (by kernel_rfl) (by kernel_rfl) (fun _ _ _ h => h) (by decide) hc (Or.inl ⟨by rfl, ?_⟩) (fun hx => absurd hx (by decide)) (fun hc2 => ?_)
                            rotate_left
                            · (intro w _; go_simp; try with_reducible rfl)
                            clear hc; have hc := hc2; clear hc2
                            try simp only [Act.put, List.setIfInBounds_toArray, List.set_cons_zero, List.set_cons_succ]
                            refine wpL_ready (rs := [19]) (by kernel_rfl) (by simp) ?_ hc
                            intro i hi hc2
                            simp only [List.mem_cons, List.mem_nil_iff, or_false] at hi
                            subst hi
                            clear hc; have hc := hc2; clear hc2
                            refine wpOp_step (o := { dst := none, op := Op.store 28 (Operand.tmp 231) (Operand.tmp 224), type := 0, pos := "law.go:277", after := #[{ on := 18, ground := Ground.data }, { on := 10, ground := Ground.data }, { on := 17, ground := Ground.chain }, { on := 0, ground := Ground.phase }, { on := 1, ground := Ground.phase }, { on := 2, ground := Ground.phase }, { on := 3, ground := Ground.phase }, { on := 4, ground := Ground.phase }, { on := 5, ground := Ground.phase }, { on := 6, ground := Ground.phase }, { on := 7, ground := Ground.phase }, { on := 8, ground := Ground.phase }, { on := 9, ground := Ground.phase }, { on := 10, ground := Ground.phase }, { on := 11, ground := Ground.textOnly Departure.lateStores }, { on := 12, ground := Ground.textOnly Departure.lateStores }, { on := 13, ground := Ground.textOnly Departure.lateStoresUnsure }, { on := 14, ground := Ground.phase }, { on := 15, ground := Ground.phase }, { on := 16, ground := Ground.phase }, { on := 17, ground := Ground.phase }], guard := none }) rfl (fun K hK => ?_)
                            have HK := hide hK
                            clear hK
                            go_simp
                            refine HK.out _ _ ⟨fun hx => absurd hx (by decide), ?_⟩
                            clear HK K
                            try simp only [Act.put, List.setIfInBounds_toArray, List.set_cons_zero, List.set_cons_succ]
                            as_aux_lemma =>
                              refine wpL_pure (i := 20) (oi := { dst := some 232, op := Op.fieldAddr 30 (Operand.tmp 17) 4, type := 0, pos := "law.go:277", after := #[{ on := 0, ground := Ground.phase }, { on := 1, ground := Ground.phase }, { on := 2, ground := Ground.phase }, { on := 3, ground := Ground.phase }, { on := 4, ground := Ground.phase }, { on := 5, ground := Ground.phase }, { on := 6, ground := Ground.phase }, { on := 7, ground := Ground.phase }, { on := 8, ground := Ground.phase }, { on := 9, ground := Ground.phase }, { on := 10, ground := Ground.phase }, { on := 11, ground := Ground.phase }, { on := 12, ground := Ground.phase }, { on := 13, ground := Ground.phase }, { on := 14, ground := Ground.phase }, { on := 15, ground := Ground.phase }, { on := 16, ground := Ground.phase }, { on := 17, ground := Ground.phase }, { on := 18, ground := Ground.phase }, { on := 19, ground := Ground.phase }], guard := none }) (v := ?_) rfl (by kernel_rfl) (by kernel_rfl) (by kernel_rfl) (fun _ _ _ h => h) (by decide) hc (Or.inl ⟨by rfl, ?_⟩) (fun hx => absurd hx (by decide)) (fun hc2 => ?_)
                              rotate_left
                              · (intro w _; go_simp; try with_reducible rfl)
                              clear hc; have hc := hc2; clear hc2
                              try simp only [Act.put, List.setIfInBounds_toArray, List.set_cons_zero, List.set_cons_succ]
                              refine wpL_ready (rs := [21]) (by kernel_rfl) (by simp) ?_ hc
                              intro i hi hc2
                              simp only [List.mem_cons, List.mem_nil_iff, or_false] at hi
                              subst hi
                              clear hc; have hc := hc2; clear hc2
                              refine wpOp_step (o := { dst := none, op := Op.store 28 (Operand.tmp 232) (Operand.tmp 228), type := 0, pos := "law.go:277", after := #[{ on := 20, ground := Ground.data }, { on := 14, ground := Ground.data }, { on := 19, ground := Ground.chain }, { on := 0, ground := Ground.phase }, { on := 1, ground := Ground.phase }, { on := 2, ground := Ground.phase }, { on := 3, ground := Ground.phase }, { on := 4, ground := Ground.phase }, { on := 5, ground := Ground.phase }, { on := 6, ground := Ground.phase }, { on := 7, ground := Ground.phase }, { on := 8, ground := Ground.phase }, { on := 9, ground := Ground.phase }, { on := 10, ground := Ground.phase }, { on := 11, ground := Ground.phase }, { on := 12, ground := Ground.phase }, { on := 13, ground := Ground.phase }, { on := 14, ground := Ground.phase }, { on := 15, ground := Ground.phase }, { on := 16, ground := Ground.phase }, { on := 17, ground := Ground.phase }, { on := 18, ground := Ground.phase }, { on := 19, ground := Ground.phase }], guard := none }) rfl (fun K hK => ?_)
                              have HK := hide hK
                              clear hK
                              go_simp
                              refine HK.out _ _ ⟨fun hx => absurd hx (by decide), ?_⟩
                              clear HK K
                              try simp only [Act.put, List.setIfInBounds_toArray, List.set_cons_zero, List.set_cons_succ]
                              refine wpL_done (by kernel_rfl) ?_
                              have hfin := R25.fin HA.out h6 (.slice (some ⟨g6, 0, none⟩) 3 d6)
                              clear h6 hc
                              go_wp2_with fail
                              go_meet
                              case rel => exact ⟨_, _, _, _, hfin⟩
                · clear hc; have hc := hc2; clear hc2
                  refine wpOp_step (o := { dst := some 223, op := Op.buildSlice 28 1 #[(0, Operand.const (Value.int IntKind.i64 2))], type := 28, pos := "law.go:277", after := #[], guard := none }) rfl (fun K hK => ?_)
                  have HK := hide hK
                  clear hK
                  go_simp
                  have h3 := R25.alloc2 HA.out h2
                  refine HK.out _ _ ⟨fun _ => R25.T h3, ?_⟩
                  clear HK K h2
                  try simp only [Act.put, List.setIfInBounds_toArray, List.set_cons_zero, List.set_cons_succ]
                  generalize X2.alloc (celO 2) = X3 at h3 ⊢
                  generalize X2.heap.size = n3 at h3 ⊢
                  as_aux_lemma =>
                    refine wpL_ready (rs := [6]) (by kernel_rfl) (by simp) ?_ hc
                    intro i hi hc2
                    simp only [List.mem_cons, List.mem_nil_iff, or_false] at hi
                    subst hi
                    clear hc; have hc := hc2; clear hc2
                    refine wpOp_step (o := { dst := some 220, op := Op.call { callee := Callee.builtin Builtin.append, args := #[Operand.tmp 218, Operand.tmp 219], argTypes := #[28, 28] }, type := 28, pos := "law.go:277", after := #[{ on := 4, ground := Ground.data }, { on := 5, ground := Ground.data }], guard := none }) rfl (fun K hK => ?_)
                    have HK := hide hK
                    clear hK
                    refine step_app1 HA.out h3 rfl _ _ rfl rfl rfl ?_
                    intro g4 d4 X4 h4
                    refine HK.out _ _ ⟨fun _ => R25.T h4, ?_⟩
                    clear HK K h3
                    try simp only [Act.put, List.setIfInBounds_toArray, List.set_cons_zero, List.set_cons_succ]
                    as_aux_lemma =>
                      refine wpL_ready (rs := [10]) (by kernel_rfl) (by simp) ?_ hc
                      intro i hi hc2
                      simp only [List.mem_cons, List.mem_nil_iff, or_false] at hi
                      subst hi
                      clear hc; have hc := hc2; clear hc2
                      refine wpOp_step (o := { dst := some 224, op := Op.call { callee := Callee.builtin Builtin.append, args := #[Operand.tmp 222, Operand.tmp 223], argTypes := #[28, 28] }, type := 28, pos := "law.go:277", after := #[{ on := 8, ground := Ground.data }, { on := 9, ground := Ground.data }, { on := 6, ground := Ground.chain }], guard := none }) rfl (fun K hK => ?_)
                      have HK := hide hK
                      clear hK
                      refine step_app2 HA.out h4 rfl _ _ rfl rfl rfl ?_
                      intro g5 d5 X5 h5
                      refine HK.out _ _ ⟨fun _ => R25.T h5, ?_⟩
                      clear HK K h4
                      try simp only [Act.put, List.setIfInBounds_toArray, List.set_cons_zero, List.set_cons_succ]
                      as_aux_lemma =>
                        refine wpL_ready (rs := [14]) (by kernel_rfl) (by simp) ?_ hc
                        intro i hi hc2
                        simp only [List.mem_cons, List.mem_nil_iff, or_false] at hi
                        subst hi
                        clear hc; have hc := hc2; clear hc2
                        refine wpOp_step (o := { dst := some 228, op := Op.call { callee := Callee.builtin Builtin.append, args := #[Operand.tmp 226, Operand.tmp 227], argTypes := #[28, 28] }, type := 28, pos := "law.go:277", after := #[{ on := 12, ground := Ground.data }, { on := 13, ground := Ground.data }, { on := 10, ground := Ground.chain }], guard := none }) rfl (fun K hK => ?_)
                        have HK := hide hK
                        clear hK
                        refine step_app3 HA.out h5 rfl _ _ rfl rfl rfl ?_
                        intro g6 d6 X6 h6
                        refine HK.out _ _ ⟨fun _ => R25.T h6, ?_⟩
                        clear HK K h5
                        try simp only [Act.put, List.setIfInBounds_toArray, List.set_cons_zero, List.set_cons_succ]
                        as_aux_lemma =>
                          refine wpL_pure (i := 15) (oi := { dst := some 229, op := Op.indexAddr 33 (Operand.tmp 214) (Operand.const (Value.int IntKind.i64 0)), type := 0, pos := "law.go:277", after := #[{ on := 0, ground := Ground.data }, { on := 0, ground := Ground.phase }, { on := 1, ground := Ground.phase }, { on := 2, ground := Ground.phase }, { on := 3, ground := Ground.phase }, { on := 4, ground := Ground.phase }, { on := 5, ground := Ground.phase }, { on := 6, ground := Ground.phase }, { on := 7, ground := Ground.textOnly Departure.lateStores }, { on := 8, ground := Ground.textOnly Departure.lateStores }, { on := 9, ground := Ground.textOnly Departure.lateStoresUnsure }, { on := 10, ground := Ground.phase }, { on := 11, ground := Ground.textOnly Departure.lateStores }, { on := 12, ground := Ground.textOnly Departure.lateStores }, { on := 13, ground := Ground.textOnly Departure.lateStoresUnsure }, { on := 14, ground := Ground.phase }], guard := none }) (v := ?_) rfl (by kernel_rfl) (by kernel_rfl) (by kernel_rfl) (fun _ _ _ h => h) (by decide) hc (Or.inl ⟨by rfl, ?_⟩) (fun _ => R25.T h6) (fun hc2 => ?_)
                          rotate_left
                          · (intro w _; go_simp; try with_reducible rfl)
                          clear hc; have hc := hc2; clear hc2
                          try simp only [Act.put, List.setIfInBounds_toArray, List.set_cons_zero, List.set_cons_succ]
                          refine wpL_pure (i := 16) (oi := { dst := some 230, op := Op.fieldAddr 30 (Operand.tmp 229) 4, type := 0, pos := "law.go:277", after := #[{ on := 15, ground := Ground.data }, { on := 0, ground := Ground.phase }, { on := 1, ground := Ground.phase }, { on := 2, ground := Ground.phase }, { on := 3, ground := Ground.phase }, { on := 4, ground := Ground.phase }, { on := 5, ground := Ground.phase }, { on := 6, ground := Ground.phase }, { on := 7, ground := Ground.textOnly Departure.lateStores }, { on := 8, ground := Ground.textOnly Departure.lateStores }, { on := 9, ground := Ground.textOnly Departure.lateStoresUnsure }, { on := 10, ground := Ground.phase }, { on := 11, ground := Ground.textOnly Departure.lateStores }, { on := 12, ground := Ground.textOnly Departure.lateStores }, { on := 13, ground := Ground.textOnly Departure.lateStoresUnsure }, { on := 14, ground := Ground.phase }], guard := none }) (v := ?_) rfl (by kernel_rfl) (by kernel_rfl) (by kernel_rfl) (fun _ _ _ h => h) (by decide) hc (Or.inl ⟨by rfl, ?_⟩) (fun _ => R25.T h6) (fun hc2 => ?_)
                          rotate_left
                          · (intro w _; go_simp; try with_reducible rfl)
                          clear hc; have hc := hc2; clear hc2
                          try simp only [Act.put, List.setIfInBounds_toArray, List.set_cons_zero, List.set_cons_succ]
                          refine wpL_ready (rs := [17]) (by kernel_rfl) (by simp) ?_ hc
                          intro i hi hc2
                          simp only [List.mem_cons, List.mem_nil_iff, or_false] at hi
                          subst hi
                          clear hc; have hc := hc2; clear hc2
                          refine wpOp_step (o := { dst := none, op := Op.store 28 (Operand.tmp 230) (Operand.tmp 220), type := 0, pos := "law.go:277", after := #[{ on := 16, ground := Ground.data }, { on := 6, ground := Ground.data }, { on := 14, ground := Ground.chain }, { on := 0, ground := Ground.phase }, { on := 1, ground := Ground.phase }, { on := 2, ground := Ground.phase }, { on := 3, ground := Ground.phase }, { on := 4, ground := Ground.phase }, { on := 5, ground := Ground.phase }, { on := 6, ground := Ground.phase }, { on := 7, ground := Ground.textOnly Departure.lateStores }, { on := 8, ground := Ground.textOnly Departure.lateStores }, { on := 9, ground := Ground.textOnly Departure.lateStoresUnsure }, { on := 10, ground := Ground.phase }, { on := 11, ground := Ground.textOnly Departure.lateStores }, { on := 12, ground := Ground.textOnly Departure.lateStores }, { on := 13, ground := Ground.textOnly Departure.lateStoresUnsure }, { on := 14, ground := Ground.phase }], guard := none }) rfl (fun K hK => ?_)
                          have HK := hide hK
                          clear hK
                          have hT := R25.T h6
                          have hF1 : X6.frozen? ⟨pb, 4, none⟩ = false := World.ownsRow.frozenAt (R25.rst h6).p 4
                          have hF2 : X6.frozen? ⟨xb, 4, none⟩ = false := blk_free (R25.rst h6).x 4
                          have hF3 : X6.frozen? ⟨yb, 4, none⟩ = false := blk_free (R25.rst h6).y 4
                          obtain ⟨hT1, hT2, hT3⟩ := hT
                          have hq := HA.out.pxy.2.1
                          dsimp only at hT1 hT2 hT3 hq
                          obtain ⟨hq1, hq2, hq3⟩ := hq
                          have hq4 := Ne.symm hq1
                          have hq5 := Ne.symm hq2
                          have hq6 := Ne.symm hq3
                          go_simp
                          refine HK.out _ _ ⟨fun hx => absurd hx (by decide), ?_⟩
                          clear HK K
                          try simp only [Act.put, List.setIfInBounds_toArray, List.set_cons_zero, List.set_cons_succ]
                          as_aux_lemma =>
                            refine wpL_pure (i := 18) (oi := { dst := some 231, op := Op.fieldAddr 30 (Operand.tmp 15) 4, type := 0, pos := "law.go:277", after := #[{ on := 0, ground := Ground.phase }, { on := 1, ground := Ground.phase }, { on := 2, ground := Ground.phase }, { on := 3, ground := Ground.phase }, { on := 4, ground := Ground.phase }, { on := 5, ground := Ground.phase }, { on := 6, ground := Ground.phase }, { on := 7, ground := Ground.phase }, { on := 8, ground := Ground.phase }, { on := 9, ground := Ground.phase }, { on := 10, ground := Ground.phase }, { on := 11, ground := Ground.textOnly Departure.lateStores }, { on := 12, ground := Ground.textOnly Departure.lateStores }, { on := 13, ground := Ground.textOnly Departure.lateStoresUnsure }, { on := 14, ground := Ground.phase }, { on := 15, ground := Ground.phase }, { on := 16, ground := Ground.phase }, { on := 17, ground := Ground.phase }], guard := none }) (v := ?_) rfl (by kernel_rfl) (by kernel_rfl) (by kernel_rfl) (fun _ _ _ h => h) (by decide) hc (Or.inl ⟨by rfl, ?_⟩) (fun hx => absurd hx (by decide)) (fun hc2 => ?_)
                            rotate_left
                            · (intro w _; go_simp; try with_reducible rfl)
                            clear hc; have hc := hc2; clear hc2
                            try simp only [Act.put, List.setIfInBounds_toArray, List.set_cons_zero, List.set_cons_succ]
                            refine wpL_ready (rs := [19]) (by kernel_rfl) (by simp) ?_ hc
                            intro i hi hc2
                            simp only [List.mem_cons, List.mem_nil_iff, or_false] at hi
                            subst hi
                            clear hc; have hc := hc2; clear hc2
                            refine wpOp_step (o := { dst := none, op := Op.store 28 (Operand.tmp 231) (Operand.tmp 224), type := 0, pos := "law.go:277", after := #[{ on := 18, ground := Ground.data }, { on := 10, ground := Ground.data }, { on := 17, ground := Ground.chain }, { on := 0, ground := Ground.phase }, { on := 1, ground := Ground.phase }, { on := 2, ground := Ground.phase }, { on := 3, ground := Ground.phase }, { on := 4, ground := Ground.phase }, { on := 5, ground := Ground.phase }, { on := 6, ground := Ground.phase }, { on := 7, ground := Ground.phase }, { on := 8, ground := Ground.phase }, { on := 9, ground := Ground.phase }, { on := 10, ground := Ground.phase }, { on := 11, ground := Ground.textOnly Departure.lateStores }, { on := 12, ground := Ground.textOnly Departure.lateStores }, { on := 13, ground := Ground.textOnly Departure.lateStoresUnsure }, { on := 14, ground := Ground.phase }, { on := 15, ground := Ground.phase }, { on := 16, ground := Ground.phase }, { on := 17, ground := Ground.phase }], guard := none }) rfl (fun K hK => ?_)
                            have HK := hide hK
                            clear hK
                            go_simp
                            refine HK.out _ _ ⟨fun hx => absurd hx (by decide), ?_⟩
                            clear HK K
                            try simp only [Act.put, List.setIfInBounds_toArray, List.set_cons_zero, List.set_cons_succ]
                            as_aux_lemma =>
                              refine wpL_pure (i := 20) (oi := { dst := some 232, op := Op.fieldAddr 30 (Operand.tmp 17) 4, type := 0, pos := "law.go:277", after := #[{ on := 0, ground := Ground.phase }, { on := 1, ground := Ground.phase }, { on := 2, ground := Ground.phase }, { on := 3, ground := Ground.phase }, { on := 4, ground := Ground.phase }, { on := 5, ground := Ground.phase }, { on := 6, ground := Ground.phase }, { on := 7, ground := Ground.phase }, { on := 8, ground := Ground.phase }, { on := 9, ground := Ground.phase }, { on := 10, ground := Ground.phase }, { on := 11, ground := Ground.phase }, { on := 12, ground := Ground.phase }, { on := 13, ground := Ground.phase }, { on := 14, ground := Ground.phase }, { on := 15, ground := Ground.phase }, { on := 16, ground := Ground.phase }, { on := 17, ground := Ground.phase }, { on := 18, ground := Ground.phase }, { on := 19, ground := Ground.phase }], guard := none }) (v := ?_) rfl (by kernel_rfl) (by kernel_rfl) (by kernel_rfl) (fun _ _ _ h => h) (by decide) hc (Or.inl ⟨by rfl, ?_⟩) (fun hx => absurd hx (by decide)) (fun hc2 => ?_)
                              rotate_left
                              · (intro w _; go_simp; try with_reducible rfl)
                              clear hc; have hc := hc2; clear hc2
                              try simp only [Act.put, List.setIfInBounds_toArray, List.set_cons_zero, List.set_cons_succ]
                              refine wpL_ready (rs := [21]) (by kernel_rfl) (by simp) ?_ hc
                              intro i hi hc2
                              simp only [List.mem_cons, List.mem_nil_iff, or_false] at hi
                              subst hi
                              clear hc; have hc := hc2; clear hc2
                              refine wpOp_step (o := { dst := none, op := Op.store 28 (Operand.tmp 232) (Operand.tmp 228), type := 0, pos := "law.go:277", after := #[{ on := 20, ground := Ground.data }, { on := 14, ground := Ground.data }, { on := 19, ground := Ground.chain }, { on := 0, ground := Ground.phase }, { on := 1, ground := Ground.phase }, { on := 2, ground := Ground.phase }, { on := 3, ground := Ground.phase }, { on := 4, ground := Ground.phase }, { on := 5, ground := Ground.phase }, { on := 6, ground := Ground.phase }, { on := 7, ground := Ground.phase }, { on := 8, ground := Ground.phase }, { on := 9, ground := Ground.phase }, { on := 10, ground := Ground.phase }, { on := 11, ground := Ground.phase }, { on := 12, ground := Ground.phase }, { on := 13, ground := Ground.phase }, { on := 14, ground := Ground.phase }, { on := 15, ground := Ground.phase }, { on := 16, ground := Ground.phase }, { on := 17, ground := Ground.phase }, { on := 18, ground := Ground.phase }, { on := 19, ground := Ground.phase }], guard := none }) rfl (fun K hK => ?_)
                              have HK := hide hK
                              clear hK
                              go_simp
                              refine HK.out _ _ ⟨fun hx => absurd hx (by decide), ?_⟩
                              clear HK K
                              try simp only [Act.put, List.setIfInBounds_toArray, List.set_cons_zero, List.set_cons_succ]
                              refine wpL_done (by kernel_rfl) ?_
                              have hfin := R25.fin HA.out h6 (.slice (some ⟨g6, 0, none⟩) 3 d6)
                              clear h6 hc
                              go_wp2_with fail
                              go_meet
                              case rel => exact ⟨_, _, _, _, hfin⟩
        · clear hc; have hc := hc2; clear hc2
          refine wpOp_step (o := { dst := some 223, op := Op.buildSlice 28 1 #[(0, Operand.const (Value.int IntKind.i64 2))], type := 28, pos := "law.go:277", after := #[], guard := none }) rfl (fun K hK => ?_)
          have HK := hide hK
          clear hK
          go_simp
          have h1 := R25.alloc2 HA.out h0
          refine HK.out _ _ ⟨fun _ => R25.T h1, ?_⟩
          clear HK K h0
          try simp only [Act.put, List.setIfInBounds_toArray, List.set_cons_zero, List.set_cons_succ]
          generalize X0.alloc (celO 2) = X1 at h1 ⊢
          generalize X0.heap.size = n1 at h1 ⊢
          as_aux_lemma =>
            refine wpL_ready (rs := [5, 13]) (by kernel_rfl) (by simp) ?_ hc
            intro i hi hc2
            simp only [List.mem_cons, List.mem_nil_iff, or_false] at hi
            rcases hi with rfl | rfl
            · clear hc; have hc := hc2; clear hc2
              refine wpOp_step (o := { dst := some 219, op := Op.buildSlice 28 1 #[(0, Operand.const (Value.int IntKind.i64 1))], type := 28, pos := "law.go:277", after := #[], guard := none }) rfl (fun K hK => ?_)
              have HK := hide hK
              clear hK
              go_simp
              have h2 := R25.alloc1 HA.out h1
              refine HK.out _ _ ⟨fun _ => R25.T h2, ?_⟩
              clear HK K h1
              try simp only [Act.put, List.setIfInBounds_toArray, List.set_cons_zero, List.set_cons_succ]
              generalize X1.alloc (celO 1) = X2 at h2 ⊢
              generalize X1.heap.size = n2 at h2 ⊢
              as_aux_lemma =>
                refine wpL_ready (rs := [6, 13]) (by kernel_rfl) (by simp) ?_ hc
                intro i hi hc2
                simp only [List.mem_cons, List.mem_nil_iff, or_false] at hi
                rcases hi with rfl | rfl
                · clear hc; have hc := hc2; clear hc2
                  refine wpOp_step (o := { dst := some 220, op := Op.call { callee := Callee.builtin Builtin.append, args := #[Operand.tmp 218, Operand.tmp 219], argTypes := #[28, 28] }, type := 28, pos := "law.go:277", after := #[{ on := 4, ground := Ground.data }, { on := 5, ground := Ground.data }], guard := none }) rfl (fun K hK => ?_)
                  have HK := hide hK
                  clear hK
                  refine step_app1 HA.out h2 rfl _ _ rfl rfl rfl ?_
                  intro g3 d3 X3 h3
                  refine HK.out _ _ ⟨fun _ => R25.T h3, ?_⟩
                  clear HK K h2
                  try simp only [Act.put, List.setIfInBounds_toArray, List.set_cons_zero, List.set_cons_succ]
                  as_aux_lemma =>
                    refine wpL_ready (rs := [10, 13]) (by kernel_rfl) (by simp) ?_ hc
                    intro i hi hc2
                    simp only [List.mem_cons, List.mem_nil_iff, or_false] at hi
                    rcases hi with rfl | rfl
                    · clear hc; have hc := hc2; clear hc2
                      refine wpOp_step (o := { dst := some 224, op := Op.call { callee := Callee.builtin Builtin.append, args := #[Operand.tmp 222, Operand.tmp 223], argTypes := #[28, 28] }, type := 28, pos := "law.go:277", after := #[{ on := 8, ground := Ground.data }, { on := 9, ground := Ground.data }, { on := 6, ground := Ground.chain }], guard := none }) rfl (fun K hK => ?_)
                      have HK := hide hK
                      clear hK
                      refine step_app2 HA.out h3 rfl _ _ rfl rfl rfl ?_
                      intro g4 d4 X4 h4
                      refine HK.out _ _ ⟨fun _ => R25.T h4, ?_⟩
                      clear HK K h3
                      try simp only [Act.put, List.setIfInBounds_toArray, List.set_cons_zero, List.set_cons_succ]
                      as_aux_lemma =>
                        refine wpL_ready (rs := [13]) (by kernel_rfl) (by simp) ?_ hc
                        intro i hi hc2
                        simp only [List.mem_cons, List.mem_nil_iff, or_false] at hi
                        subst hi
                        clear hc; have hc := hc2; clear hc2
                        refine wpOp_step (o := { dst := some 227, op := Op.buildSlice 28 1 #[(0, Operand.const (Value.int IntKind.i64 3))], type := 28, pos := "law.go:277", after := #[], guard := none }) rfl (fun K hK => ?_)
                        have HK := hide hK
                        clear hK
                        go_simp
                        have h5 := R25.alloc3 HA.out h4
                        refine HK.out _ _ ⟨fun _ => R25.T h5, ?_⟩
                        clear HK K h4
                        try simp only [Act.put, List.setIfInBounds_toArray, List.set_cons_zero, List.set_cons_succ]
                        generalize X4.alloc (celO 3) = X5 at h5 ⊢
                        generalize X4.heap.size = n5 at h5 ⊢
                        as_aux_lemma =>
                          refine wpL_ready (rs := [14]) (by kernel_rfl) (by simp) ?_ hc
                          intro i hi hc2
                          simp only [List.mem_cons, List.mem_nil_iff, or_false] at hi
                          subst hi
                          clear hc; have hc := hc2; clear hc2
                          refine wpOp_step (o := { dst := some 228, op := Op.call { callee := Callee.builtin Builtin.append, args := #[Operand.tmp 226, Operand.tmp 227], argTypes := #[28, 28] }, type := 28, pos := "law.go:277", after := #[{ on := 12, ground := Ground.data }, { on := 13, ground := Ground.data }, { on := 10, ground := Ground.chain }], guard := none }) rfl (fun K hK => ?_)
                          have HK := hide hK
                          clear hK
                          refine step_app3 HA.out h5 rfl _ _ rfl rfl rfl ?_
                          intro g6 d6 X6 h6
                          refine HK.out _ _ ⟨fun _ => R25.T h6, ?_⟩
                          clear HK K h5
                          try simp only [Act.put, List.setIfInBounds_toArray, List.set_cons_zero, List.set_cons_succ]
                          as_aux_lemma =>
                            refine wpL_pure (i := 15) (oi := { dst := some 229, op := Op.indexAddr 33 (Operand.tmp 214) (Operand.const (Value.int IntKind.i64 0)), type := 0, pos := "law.go:277", after := #[{ on := 0, ground := Ground.data }, { on := 0, ground := Ground.phase }, { on := 1, ground := Ground.phase }, { on := 2, ground := Ground.phase }, { on := 3, ground := Ground.phase }, { on := 4, ground := Ground.phase }, { on := 5, ground := Ground.phase }, { on := 6, ground := Ground.phase }, { on := 7, ground := Ground.textOnly Departure.lateStores }, { on := 8, ground := Ground.textOnly Departure.lateStores }, { on := 9, ground := Ground.textOnly Departure.lateStoresUnsure }, { on := 10, ground := Ground.phase }, { on := 11, ground := Ground.textOnly Departure.lateStores }, { on := 12, ground := Ground.textOnly Departure.lateStores }, { on := 13, ground := Ground.textOnly Departure.lateStoresUnsure }, { on := 14, ground := Ground.phase }], guard := none }) (v := ?_) rfl (by kernel_rfl) (by kernel_rfl) (by kernel_rfl) (fun _ _ _ h => h) (by decide) hc (Or.inl ⟨by rfl, ?_⟩) (fun _ => R25.T h6) (fun hc2 => ?_)
                            rotate_left
                            · (intro w _; go_simp; try with_reducible rfl)
                            clear hc; have hc := hc2; clear hc2
                            try simp only [Act.put, List.setIfInBounds_toArray, List.set_cons_zero, List.set_cons_succ]
                            refine wpL_pure (i := 16) (oi := { dst := some 230, op := Op.fieldAddr 30 (Operand.tmp 229) 4, type := 0, pos := "law.go:277", after := #[{ on := 15, ground := Ground.data }, { on := 0, ground := Ground.phase }, { on := 1, ground := Ground.phase }, { on := 2, ground := Ground.phase }, { on := 3, ground := Ground.phase }, { on := 4, ground := Ground.phase }, { on := 5, ground := Ground.phase }, { on := 6, ground := Ground.phase }, { on := 7, ground := Ground.textOnly Departure.lateStores }, { on := 8, ground := Ground.textOnly Departure.lateStores }, { on := 9, ground := Ground.textOnly Departure.lateStoresUnsure }, { on := 10, ground := Ground.phase }, { on := 11, ground := Ground.textOnly Departure.lateStores }, { on := 12, ground := Ground.textOnly Departure.lateStores }, { on := 13, ground := Ground.textOnly Departure.lateStoresUnsure }, { on := 14, ground := Ground.phase }], guard := none }) (v := ?_) rfl (by kernel_rfl) (by kernel_rfl) (by kernel_rfl) (fun _ _ _ h => h) (by decide) hc (Or.inl ⟨by rfl, ?_⟩) (fun _ => R25.T h6) (fun hc2 => ?_)
                            rotate_left
                            · (intro w _; go_simp; try with_reducible rfl)
                            clear hc; have hc := hc2; clear hc2
                            try simp only [Act.put, List.setIfInBounds_toArray, List.set_cons_zero, List.set_cons_succ]
                            refine wpL_ready (rs := [17]) (by kernel_rfl) (by simp) ?_ hc
                            intro i hi hc2
                            simp only [List.mem_cons, List.mem_nil_iff, or_false] at hi
                            subst hi
                            clear hc; have hc := hc2; clear hc2
                            refine wpOp_step (o := { dst := none, op := Op.store 28 (Operand.tmp 230) (Operand.tmp 220), type := 0, pos := "law.go:277", after := #[{ on := 16, ground := Ground.data }, { on := 6, ground := Ground.data }, { on := 14, ground := Ground.chain }, { on := 0, ground := Ground.phase }, { on := 1, ground := Ground.phase }, { on := 2, ground := Ground.phase }, { on := 3, ground := Ground.phase }, { on := 4, ground := Ground.phase }, { on := 5, ground := Ground.phase }, { on := 6, ground := Ground.phase }, { on := 7, ground := Ground.textOnly Departure.lateStores }, { on := 8, ground := Ground.textOnly Departure.lateStores }, { on := 9, ground := Ground.textOnly Departure.lateStoresUnsure }, { on := 10, ground := Ground.phase }, { on := 11, ground := Ground.textOnly Departure.lateStores }, { on := 12, ground := Ground.textOnly Departure.lateStores }, { on := 13, ground := Ground.textOnly Departure.lateStoresUnsure }, { on := 14, ground := Ground.phase }], guard := none }) rfl (fun K hK => ?_)
                            have HK := hide hK
                            clear hK
                            have hT := R25.T h6
                            have hF1 : X6.frozen? ⟨pb, 4, none⟩ = false := World.ownsRow.frozenAt (R25.rst h6).p 4
                            have hF2 : X6.frozen? ⟨xb, 4, none⟩ = false := blk_free (R25.rst h6).x 4
                            have hF3 : X6.frozen? ⟨yb, 4, none⟩ = false := blk_free (R25.rst h6).y 4
                            obtain ⟨hT1, hT2, hT3⟩ := hT
                            have hq := HA.out.pxy.2.1
                            dsimp only at hT1 hT2 hT3 hq
                            obtain ⟨hq1, hq2, hq3⟩ := hq
                            have hq4 := Ne.symm hq1
                            have hq5 := Ne.symm hq2
                            have hq6 := Ne.symm hq3
                            go_simp
                            refine HK.out _ _ ⟨fun hx => absurd hx (by decide), ?_⟩
                            clear HK K
                            try simp only [Act.put, List.setIfInBounds_toArray, List.set_cons_zero, List.set_cons_succ]
                            as_aux_lemma =>
                              refine wpL_pure (i := 18) (oi := { dst := some 231, op := Op.fieldAddr 30 (Operand.tmp 15) 4, type := 0, pos := "law.go:277", after := #[{ on := 0, ground := Ground.phase }, { on := 1, ground := Ground.phase }, { on := 2, ground := Ground.phase }, { on := 3, ground := Ground.phase }, { on := 4, ground := Ground.phase }, { on := 5, ground := Ground.phase }, { on := 6, ground := Ground.phase }, { on := 7, ground := Ground.phase }, { on := 8, ground := Ground.phase }, { on := 9, ground := Ground.phase }, { on := 10, ground := Ground.phase }, { on := 11, ground := Ground.textOnly Departure.lateStores }, { on := 12, ground := Ground.textOnly Departure.lateStores }, { on := 13, ground := Ground.textOnly Departure.lateStoresUnsure }, { on := 14, ground := Ground.phase }, { on := 15, ground := Ground.phase }, { on := 16, ground := Ground.phase }, { on := 17, ground := Ground.phase }], guard := none }) (v := ?_) rfl (by kernel_rfl) (by kernel_rfl) (by kernel_rfl) (fun _ _ _ h => h) (by decide) hc (Or.inl ⟨by rfl, ?_⟩) (fun hx => absurd hx (by decide)) (fun hc2 => ?_)
                              rotate_left
                              · (intro w _; go_simp; try with_reducible rfl)
                              clear hc; have hc := hc2; clear hc2
                              try simp only [Act.put, List.setIfInBounds_toArray, List.set_cons_zero, List.set_cons_succ]
                              refine wpL_ready (rs := [19]) (by kernel_rfl) (by simp) ?_ hc
                              intro i hi hc2
                              simp only [List.mem_cons, List.mem_nil_iff, or_false] at hi
                              subst hi
                              clear hc; have hc := hc2; clear hc2
                              refine wpOp_step (o := { dst := none, op := Op.store 28 (Operand.tmp 231) (Operand.tmp 224), type := 0, pos := "law.go:277", after := #[{ on := 18, ground := Ground.data }, { on := 10, ground := Ground.data }, { on := 17, ground := Ground.chain }, { on := 0, ground := Ground.phase }, { on := 1, ground := Ground.phase }, { on := 2, ground := Ground.phase }, { on := 3, ground := Ground.phase }, { on := 4, ground := Ground.phase }, { on := 5, ground := Ground.phase }, { on := 6, ground := Ground.phase }, { on := 7, ground := Ground.phase }, { on := 8, ground := Ground.phase }, { on := 9, ground := Ground.phase }, { on := 10, ground := Ground.phase }, { on := 11, ground := Ground.textOnly Departure.lateStores }, { on := 12, ground := Ground.textOnly Departure.lateStores }, { on := 13, ground := Ground.textOnly Departure.lateStoresUnsure }, { on := 14, ground := Ground.phase }, { on := 15, ground := Ground.phase }, { on := 16, ground := Ground.phase }, { on := 17, ground := Ground.phase }], guard := none }) rfl (fun K hK => ?_)
                              have HK := hide hK
                              clear hK
                              go_simp
                              refine HK.out _ _ ⟨fun hx => absurd hx (by decide), ?_⟩
                              clear HK K
                              try simp only [Act.put, List.setIfInBounds_toArray, List.set_cons_zero, List.set_cons_succ]
                              as_aux_lemma =>
                                refine wpL_pure (i := 20) (oi := { dst := some 232, op := Op.fieldAddr 30 (Operand.tmp 17) 4, type := 0, pos := "law.go:277", after := #[{ on := 0, ground := Ground.phase }, { on := 1, ground := Ground.phase }, { on := 2, ground := Ground.phase }, { on := 3, ground := Ground.phase }, { on := 4, ground := Ground.phase }, { on := 5, ground := Ground.phase }, { on := 6, ground := Ground.phase }, { on := 7, ground := Ground.phase }, { on := 8, ground := Ground.phase }, { on := 9, ground := Ground.phase }, { on := 10, ground := Ground.phase }, { on := 11, ground := Ground.phase }, { on := 12, ground := Ground.phase }, { on := 13, ground := Ground.phase }, { on := 14, ground := Ground.phase }, { on := 15, ground := Ground.phase }, { on := 16, ground := Ground.phase }, { on := 17, ground := Ground.phase }, { on := 18, ground := Ground.phase }, { on := 19, ground := Ground.phase }], guard := none }) (v := ?_) rfl (by kernel_rfl) (by kernel_rfl) (by kernel_rfl) (fun _ _ _ h => h) (by decide) hc (Or.inl ⟨by rfl, ?_⟩) (fun hx => absurd hx (by decide)) (fun hc2 => ?_)
                                rotate_left
                                · (intro w _; go_simp; try with_reducible rfl)
                                clear hc; have hc := hc2; clear hc2
                                try simp only [Act.put, List.setIfInBounds_toArray, List.set_cons_zero, List.set_cons_succ]
                                refine wpL_ready (rs := [21]) (by kernel_rfl) (by simp) ?_ hc
                                intro i hi hc2
                                simp only [List.mem_cons, List.mem_nil_iff, or_false] at hi
                                subst hi
                                clear hc; have hc := hc2; clear hc2
                                refine wpOp_step (o := { dst := none, op := Op.store 28 (Operand.tmp 232) (Operand.tmp 228), type := 0, pos := "law.go:277", after := #[{ on := 20, ground := Ground.data }, { on := 14, ground := Ground.data }, { on := 19, ground := Ground.chain }, { on := 0, ground := Ground.phase }, { on := 1, ground := Ground.phase }, { on := 2, ground := Ground.phase }, { on := 3, ground := Ground.phase }, { on := 4, ground := Ground.phase }, { on := 5, ground := Ground.phase }, { on := 6, ground := Ground.phase }, { on := 7, ground := Ground.phase }, { on := 8, ground := Ground.phase }, { on := 9, ground := Ground.phase }, { on := 10, ground := Ground.phase }, { on := 11, ground := Ground.phase }, { on := 12, ground := Ground.phase }, { on := 13, ground := Ground.phase }, { on := 14, ground := Ground.phase }, { on := 15, ground := Ground.phase }, { on := 16, ground := Ground.phase }, { on := 17, ground := Ground.phase }, { on := 18, ground := Ground.phase }, { on := 19, ground := Ground.phase }], guard := none }) rfl (fun K hK => ?_)
                                have HK := hide hK
                                clear hK
                                go_simp
                                refine HK.out _ _ ⟨fun hx => absurd hx (by decide), ?_⟩
                                clear HK K
                                try simp only [Act.put, List.setIfInBounds_toArray, List.set_cons_zero, List.set_cons_succ]
                                refine wpL_done (by kernel_rfl) ?_
                                have hfin := R25.fin HA.out h6 (.slice (some ⟨g6, 0, none⟩) 3 d6)
                                clear h6 hc
                                go_wp2_with fail
                                go_meet
                                case rel => exact ⟨_, _, _, _, hfin⟩
                    · clear hc; have hc := hc2; clear hc2
                      refine wpOp_step (o := { dst := some 227, op := Op.buildSlice 28 1 #[(0, Operand.const (Value.int IntKind.i64 3))], type := 28, pos := "law.go:277", after := #[], guard := none }) rfl (fun K hK => ?_)
                      have HK := hide hK
                      clear hK
                      go_simp
                      have h4 := R25.alloc3 HA.out h3
                      refine HK.out _ _ ⟨fun _ => R25.T h4, ?_⟩
                      clear HK K h3
                      try simp only [Act.put, List.setIfInBounds_toArray, List.set_cons_zero, List.set_cons_succ]
                      generalize X3.alloc (celO 3) = X4 at h4 ⊢
                      generalize X3.heap.size = n4 at h4 ⊢
                      as_aux_lemma =>
                        refine wpL_ready (rs := [10]) (by kernel_rfl) (by simp) ?_ hc
                        intro i hi hc2
                        simp only [List.mem_cons, List.mem_nil_iff, or_false] at hi
                        subst hi
                        clear hc; have hc := hc2; clear hc2
                        refine wpOp_step (o := { dst := some 224, op := Op.call { callee := Callee.builtin Builtin.append, args := #[Operand.tmp 222, Operand.tmp 223], argTypes := #[28, 28] }, type := 28, pos := "law.go:277", after := #[{ on := 8, ground := Ground.data }, { on := 9, ground := Ground.data }, { on := 6, ground := Ground.chain }], guard := none }) rfl (fun K hK => ?_)
                        have HK := hide hK
                        clear hK
                        refine step_app2 HA.out h4 rfl _ _ rfl rfl rfl ?_
                        intro g5 d5 X5 h5
                        refine HK.out _ _ ⟨fun _ => R25.T h5, ?_⟩
                        clear HK K h4
                        try simp only [Act.put, List.setIfInBounds_toArray, List.set_cons_zero, List.set_cons_succ]
                        as_aux_lemma =>
                          refine wpL_ready (rs := [14]) (by kernel_rfl) (by simp) ?_ hc
                          intro i hi hc2
                          simp only [List.mem_cons, List.mem_nil_iff, or_false] at hi
                          subst hi
                          clear hc; have hc := hc2; clear hc2
                          refine wpOp_step (o := { dst := some 228, op := Op.call { callee := Callee.builtin Builtin.append, args := #[Operand.tmp 226, Operand.tmp 227], argTypes := #[28, 28] }, type := 28, pos := "law.go:277", after := #[{ on := 12, ground := Ground.data }, { on := 13, ground := Ground.data }, { on := 10, ground := Ground.chain }], guard := none }) rfl (fun K hK => ?_)
                          have HK := hide hK
                          clear hK
                          refine step_app3 HA.out h5 rfl _ _ rfl rfl rfl ?_
                          intro g6 d6 X6 h6
                          refine HK.out _ _ ⟨fun _ => R25.T h6, ?_⟩
                          clear HK K h5
                          try simp only [Act.put, List.setIfInBounds_toArray, List.set_cons_zero, List.set_cons_succ]
                          as_aux_lemma =>
                            refine wpL_pure (i := 15) (oi := { dst := some 229, op := Op.indexAddr 33 (Operand.tmp 214) (Operand.const (Value.int IntKind.i64 0)), type := 0, pos := "law.go:277", after := #[{ on := 0, ground := Ground.data }, { on := 0, ground := Ground.phase }, { on := 1, ground := Ground.phase }, { on := 2, ground := Ground.phase }, { on := 3, ground := Ground.phase }, { on := 4, ground := Ground.phase }, { on := 5, ground := Ground.phase }, { on := 6, ground := Ground.phase }, { on := 7, ground := Ground.textOnly Departure.lateStores }, { on := 8, ground := Ground.textOnly Departure.lateStores }, { on := 9, ground := Ground.textOnly Departure.lateStoresUnsure }, { on := 10, ground := Ground.phase }, { on := 11, ground := Ground.textOnly Departure.lateStores }, { on := 12, ground := Ground.textOnly Departure.lateStores }, { on := 13, ground := Ground.textOnly Departure.lateStoresUnsure }, { on := 14, ground := Ground.phase }], guard := none }) (v := ?_) rfl (by kernel_rfl) (by kernel_rfl) (by kernel_rfl) (fun _ _ _ h => h) (by decide) hc (Or.inl ⟨by rfl, ?_⟩) (fun _ => R25.T h6) (fun hc2 => ?_)
                            rotate_left
                            · (intro w _; go_simp; try with_reducible rfl)
                            clear hc; have hc := hc2; clear hc2
                            try simp only [Act.put, List.setIfInBounds_toArray, List.set_cons_zero, List.set_cons_succ]
                            refine wpL_pure (i := 16) (oi := { dst := some 230, op := Op.fieldAddr 30 (Operand.tmp 229) 4, type := 0, pos := "law.go:277", after := #[{ on := 15, ground := Ground.data }, { on := 0, ground := Ground.phase }, { on := 1, ground := Ground.phase }, { on := 2, ground := Ground.phase }, { on := 3, ground := Ground.phase }, { on := 4, ground := Ground.phase }, { on := 5, ground := Ground.phase }, { on := 6, ground := Ground.phase }, { on := 7, ground := Ground.textOnly Departure.lateStores }, { on := 8, ground := Ground.textOnly Departure.lateStores }, { on := 9, ground := Ground.textOnly Departure.lateStoresUnsure }, { on := 10, ground := Ground.phase }, { on := 11, ground := Ground.textOnly Departure.lateStores }, { on := 12, ground := Ground.textOnly Departure.lateStores }, { on := 13, ground := Ground.textOnly Departure.lateStoresUnsure }, { on := 14, ground := Ground.phase }], guard := none }) (v := ?_) rfl (by kernel_rfl) (by kernel_rfl) (by kernel_rfl) (fun _ _ _ h => h) (by decide) hc (Or.inl ⟨by rfl, ?_⟩) (fun _ => R25.T h6) (fun hc2 => ?_)
                            rotate_left
                            · (intro w _; go_simp; try with_reducible rfl)
                            clear hc; have hc := hc2; clear hc2
                            try simp only [Act.put, List.setIfInBounds_toArray, List.set_cons_zero, List.set_cons_succ]
                            refine wpL_ready (rs := [17]) (by kernel_rfl) (by simp) ?_ hc
                            intro i hi hc2
                            simp only [List.mem_cons, List.mem_nil_iff, or_false] at hi
                            subst hi
                            clear hc; have hc := hc2; clear hc2
                            refine wpOp_step (o := { dst := none, op := Op.store 28 (Operand.tmp 230) (Operand.tmp 220), type := 0, pos := "law.go:277", after := #[{ on := 16, ground := Ground.data }, { on := 6, ground := Ground.data }, { on := 14, ground := Ground.chain }, { on := 0, ground := Ground.phase }, { on := 1, ground := Ground.phase }, { on := 2, ground := Ground.phase }, { on := 3, ground := Ground.phase }, { on := 4, ground := Ground.phase }, { on := 5, ground := Ground.phase }, { on := 6, ground := Ground.phase }, { on := 7, ground := Ground.textOnly Departure.lateStores }, { on := 8, ground := Ground.textOnly Departure.lateStores }, { on := 9, ground := Ground.textOnly Departure.lateStoresUnsure }, { on := 10, ground := Ground.phase }, { on := 11, ground := Ground.textOnly Departure.lateStores }, { on := 12, ground := Ground.textOnly Departure.lateStores }, { on := 13, ground := Ground.textOnly Departure.lateStoresUnsure }, { on := 14, ground := Ground.phase }], guard := none }) rfl (fun K hK => ?_)
                            have HK := hide hK
                            clear hK
                            have hT := R25.T h6
                            have hF1 : X6.frozen? ⟨pb, 4, none⟩ = false := World.ownsRow.frozenAt (R25.rst h6).p 4
                            have hF2 : X6.frozen? ⟨xb, 4, none⟩ = false := blk_free (R25.rst h6).x 4
                            have hF3 : X6.frozen? ⟨yb, 4, none⟩ = false := blk_free (R25.rst h6).y 4
                            obtain ⟨hT1, hT2, hT3⟩ := hT
                            have hq := HA.out.pxy.2.1
                            dsimp only at hT1 hT2 hT3 hq
                            obtain ⟨hq1, hq2, hq3⟩ := hq
                            have hq4 := Ne.symm hq1
                            have hq5 := Ne.symm hq2
                            have hq6 := Ne.symm hq3
                            go_simp
                            refine HK.out _ _ ⟨fun hx => absurd hx (by decide), ?_⟩
                            clear HK K
                            try simp only [Act.put, List.setIfInBounds_toArray, List.set_cons_zero, List.set_cons_succ]
                            as_aux_lemma =>
                              refine wpL_pure (i := 18) (oi := { dst := some 231, op := Op.fieldAddr 30 (Operand.tmp 15) 4, type := 0, pos := "law.go:277", after := #[{ on := 0, ground := Ground.phase }, { on := 1, ground := Ground.phase }, { on := 2, ground := Ground.phase }, { on := 3, ground := Ground.phase }, { on := 4, ground := Ground.phase }, { on := 5, ground := Ground.phase }, { on := 6, ground := Ground.phase }, { on := 7, ground := Ground.phase }, { on := 8, ground := Ground.phase }, { on := 9, ground := Ground.phase }, { on := 10, ground := Ground.phase }, { on := 11, ground := Ground.textOnly Departure.lateStores }, { on := 12, ground := Ground.textOnly Departure.lateStores }, { on := 13, ground := Ground.textOnly Departure.lateStoresUnsure }, { on := 14, ground := Ground.phase }, { on := 15, ground := Ground.phase }, { on := 16, ground := Ground.phase }, { on := 17, ground := Ground.phase }], guard := none }) (v := ?_) rfl (by kernel_rfl) (by kernel_rfl) (by kernel_rfl) (fun _ _ _ h => h) (by decide) hc (Or.inl ⟨by rfl, ?_⟩) (fun hx => absurd hx (by decide)) (fun hc2 => ?_)
                              rotate_left
                              · (intro w _; go_simp; try with_reducible rfl)
                              clear hc; have hc := hc2; clear hc2
                              try simp only [Act.put, List.setIfInBounds_toArray, List.set_cons_zero, List.set_cons_succ]
                              refine wpL_ready (rs := [19]) (by kernel_rfl) (by simp) ?_ hc
                              intro i hi hc2
                              simp only [List.mem_cons, List.mem_nil_iff, or_false] at hi
                              subst hi
                              clear hc; have hc := hc2; clear hc2
                              refine wpOp_step (o := { dst := none, op := Op.store 28 (Operand.tmp 231) (Operand.tmp 224), type := 0, pos := "law.go:277", after := #[{ on := 18, ground := Ground.data }, { on := 10, ground := Ground.data }, { on := 17, ground := Ground.chain }, { on := 0, ground := Ground.phase }, { on := 1, ground := Ground.phase }, { on := 2, ground := Ground.phase }, { on := 3, ground := Ground.phase }, { on := 4, ground := Ground.phase }, { on := 5, ground := Ground.phase }, { on := 6, ground := Ground.phase }, { on := 7, ground := Ground.phase }, { on := 8, ground := Ground.phase }, { on := 9, ground := Ground.phase }, { on := 10, ground := Ground.phase }, { on := 11, ground := Ground.textOnly Departure.lateStores }, { on := 12, ground := Ground.textOnly Departure.lateStores }, { on := 13, ground := Ground.textOnly Departure.lateStoresUnsure }, { on := 14, ground := Ground.phase }, { on := 15, ground := Ground.phase }, { on := 16, ground := Ground.phase }, { on := 17, ground := Ground.phase }], guard := none }) rfl (fun K hK => ?_)
                              have HK := hide hK
                              clear hK
                              go_simp
                              refine HK.out _ _ ⟨fun hx => absurd hx (by decide), ?_⟩
                              clear HK K
                              try simp only [Act.put, List.setIfInBounds_toArray, List.set_cons_zero, List.set_cons_succ]
                              as_aux_lemma =>
                                refine wpL_pure (i := 20) (oi := { dst := some 232, op := Op.fieldAddr 30 (Operand.tmp 17) 4, type := 0, pos := "law.go:277", after := #[{ on := 0, ground := Ground.phase }, { on := 1, ground := Ground.phase }, { on := 2, ground := Ground.phase }, { on := 3, ground := Ground.phase }, { on := 4, ground := Ground.phase }, { on := 5, ground := Ground.phase }, { on := 6, ground := Ground.phase }, { on := 7, ground := Ground.phase }, { on := 8, ground := Ground.phase }, { on := 9, ground := Ground.phase }, { on := 10, ground := Ground.phase }, { on := 11, ground := Ground.phase }, { on := 12, ground := Ground.phase }, { on := 13, ground := Ground.phase }, { on := 14, ground := Ground.phase }, { on := 15, ground := Ground.phase }, { on := 16, ground := Ground.phase }, { on := 17, ground := Ground.phase }, { on := 18, ground := Ground.phase }, { on := 19, ground := Ground.phase }], guard := none }) (v := ?_) rfl (by kernel_rfl) (by kernel_rfl) (by kernel_rfl) (fun _ _ _ h => h) (by decide) hc (Or.inl ⟨by rfl, ?_⟩) (fun hx => absurd hx (by decide)) (fun hc2 => ?_)
                                rotate_left
                                · (intro w _; go_simp; try with_reducible rfl)
                                clear hc; have hc := hc2; clear hc2
                                try simp only [Act.put, List.setIfInBounds_toArray, List.set_cons_zero, List.set_cons_succ]
                                refine wpL_ready (rs := [21]) (by kernel_rfl) (by simp) ?_ hc
                                intro i hi hc2
                                simp only [List.mem_cons, List.mem_nil_iff, or_false] at hi
                                subst hi
                                clear hc; have hc := hc2; clear hc2
                                refine wpOp_step (o := { dst := none, op := Op.store 28 (Operand.tmp 232) (Operand.tmp 228), type := 0, pos := "law.go:277", after := #[{ on := 20, ground := Ground.data }, { on := 14, ground := Ground.data }, { on := 19, ground := Ground.chain }, { on := 0, ground := Ground.phase }, { on := 1, ground := Ground.phase }, { on := 2, ground := Ground.phase }, { on := 3, ground := Ground.phase }, { on := 4, ground := Ground.phase }, { on := 5, ground := Ground.phase }, { on := 6, ground := Ground.phase }, { on := 7, ground := Ground.phase }, { on := 8, ground := Ground.phase }, { on := 9, ground := Ground.phase }, { on := 10, ground := Ground.phase }, { on := 11, ground := Ground.phase }, { on := 12, ground := Ground.phase }, { on := 13, ground := Ground.phase }, { on := 14, ground := Ground.phase }, { on := 15, ground := Ground.phase }, { on := 16, ground := Ground.phase }, { on := 17, ground := Ground.phase }, { on := 18, ground := Ground.phase }, { on := 19, ground := Ground.phase }], guard := none }) rfl (fun K hK => ?_)
                                have HK := hide hK
                                clear hK
                                go_simp
                                refine HK.out _ _ ⟨fun hx => absurd hx (by decide), ?_⟩
                                clear HK K
                                try simp only [Act.put, List.setIfInBounds_toArray, List.set_cons_zero, List.set_cons_succ]
                                refine wpL_done (by kernel_rfl) ?_
                                have hfin := R25.fin HA.out h6 (.slice (some ⟨g6, 0, none⟩) 3 d6)
                                clear h6 hc
                                go_wp2_with fail
                                go_meet
                                case rel => exact ⟨_, _, _, _, hfin⟩
                · clear hc; have hc := hc2; clear hc2
                  refine wpOp_step (o := { dst := some 227, op := Op.buildSlice 28 1 #[(0, Operand.const (Value.int IntKind.i64 3))], type := 28, pos := "law.go:277", after := #[], guard := none }) rfl (fun K hK => ?_)
                  have HK := hide hK
                  clear hK
                  go_simp
                  have h3 := R25.alloc3 HA.out h2
                  refine HK.out _ _ ⟨fun _ => R25.T h3, ?_⟩
                  clear HK K h2
                  try simp only [Act.put, List.setIfInBounds_toArray, List.set_cons_zero, List.set_cons_succ]
                  generalize X2.alloc (celO 3) = X3 at h3 ⊢
                  generalize X2.heap.size = n3 at h3 ⊢
                  as_aux_lemma =>
                    refine wpL_ready (rs := [6]) (by kernel_rfl) (by simp) ?_ hc
                    intro i hi hc2
                    simp only [List.mem_cons, List.mem_nil_iff, or_false] at hi
                    subst hi
                    clear hc; have hc := hc2; clear hc2
                    refine wpOp_step (o := { dst := some 220, op := Op.call { callee := Callee.builtin Builtin.append, args := #[Operand.tmp 218, Operand.tmp 219], argTypes := #[28, 28] }, type := 28, pos := "law.go:277", after := #[{ on := 4, ground := Ground.data }, { on := 5, ground := Ground.data }], guard := none }) rfl (fun K hK => ?_)
                    have HK := hide hK
                    clear hK
                    refine step_app1 HA.out h3 rfl _ _ rfl rfl rfl ?_
                    intro g4 d4 X4 h4
                    refine HK.out _ _ ⟨fun _ => R25.T h4, ?_⟩
                    clear HK K h3
                    try simp only [Act.put, List.setIfInBounds_toArray, List.set_cons_zero, List.set_cons_succ]
                    as_aux_lemma =>
                      refine wpL_ready (rs := [10]) (by kernel_rfl) (by simp) ?_ hc
                      intro i hi hc2
                      simp only [List.mem_cons, List.mem_nil_iff, or_false] at hi
                      subst hi
                      clear hc; have hc := hc2; clear hc2
                      refine wpOp_step (o := { dst := some 224, op := Op.call { callee := Callee.builtin Builtin.append, args := #[Operand.tmp 222, Operand.tmp 223], argTypes := #[28, 28] }, type := 28, pos := "law.go:277", after := #[{ on := 8, ground := Ground.data }, { on := 9, ground := Ground.data }, { on := 6, ground := Ground.chain }], guard := none }) rfl (fun K hK => ?_)
                      have HK := hide hK
                      clear hK
                      refine step_app2 HA.out h4 rfl _ _ rfl rfl rfl ?_
                      intro g5 d5 X5 h5
                      refine HK.out _ _ ⟨fun _ => R25.T h5, ?_⟩
                      clear HK K h4
                      try simp only [Act.put, List.setIfInBounds_toArray, List.set_cons_zero, List.set_cons_succ]
                      as_aux_lemma =>
                        refine wpL_ready (rs := [14]) (by kernel_rfl) (by simp) ?_ hc
                        intro i hi hc2
                        simp only [List.mem_cons, List.mem_nil_iff, or_false] at hi
                        subst hi
                        clear hc; have hc := hc2; clear hc2
                        refine wpOp_step (o := { dst := some 228, op := Op.call { callee := Callee.builtin Builtin.append, args := #[Operand.tmp 226, Operand.tmp 227], argTypes := #[28, 28] }, type := 28, pos := "law.go:277", after := #[{ on := 12, ground := Ground.data }, { on := 13, ground := Ground.data }, { on := 10, ground := Ground.chain }], guard := none }) rfl (fun K hK => ?_)
                        have HK := hide hK
                        clear hK
                        refine step_app3 HA.out h5 rfl _ _ rfl rfl rfl ?_
                        intro g6 d6 X6 h6
                        refine HK.out _ _ ⟨fun _ => R25.T h6, ?_⟩
                        clear HK K h5
                        try simp only [Act.put, List.setIfInBounds_toArray, List.set_cons_zero, List.set_cons_succ]
                        as_aux_lemma =>
                          refine wpL_pure (i := 15) (oi := { dst := some 229, op := Op.indexAddr 33 (Operand.tmp 214) (Operand.const (Value.int IntKind.i64 0)), type := 0, pos := "law.go:277", after := #[{ on := 0, ground := Ground.data }, { on := 0, ground := Ground.phase }, { on := 1, ground := Ground.phase }, { on := 2, ground := Ground.phase }, { on := 3, ground := Ground.phase }, { on := 4, ground := Ground.phase }, { on := 5, ground := Ground.phase }, { on := 6, ground := Ground.phase }, { on := 7, ground := Ground.textOnly Departure.lateStores }, { on := 8, ground := Ground.textOnly Departure.lateStores }, { on := 9, ground := Ground.textOnly Departure.lateStoresUnsure }, { on := 10, ground := Ground.phase }, { on := 11, ground := Ground.textOnly Departure.lateStores }, { on := 12, ground := Ground.textOnly Departure.lateStores }, { on := 13, ground := Ground.textOnly Departure.lateStoresUnsure }, { on := 14, ground := Ground.phase }], guard := none }) (v := ?_) rfl (by kernel_rfl) (by kernel_rfl) (by kernel_rfl) (fun _ _ _ h => h) (by decide) hc (Or.inl ⟨by rfl, ?_⟩) (fun _ => R25.T h6) (fun hc2 => ?_)
                          rotate_left
                          · (intro w _; go_simp; try with_reducible rfl)
                          clear hc; have hc := hc2; clear hc2
                          try simp only [Act.put, List.setIfInBounds_toArray, List.set_cons_zero, List.set_cons_succ]
                          refine wpL_pure (i := 16) (oi := { dst := some 230, op := Op.fieldAddr 30 (Operand.tmp 229) 4, type := 0, pos := "law.go:277", after := #[{ on := 15, ground := Ground.data }, { on := 0, ground := Ground.phase }, { on := 1, ground := Ground.phase }, { on := 2, ground := Ground.phase }, { on := 3, ground := Ground.phase }, { on := 4, ground := Ground.phase }, { on := 5, ground := Ground.phase }, { on := 6, ground := Ground.phase }, { on := 7, ground := Ground.textOnly Departure.lateStores }, { on := 8, ground := Ground.textOnly Departure.lateStores }, { on := 9, ground := Ground.textOnly Departure.lateStoresUnsure }, { on := 10, ground := Ground.phase }, { on := 11, ground := Ground.textOnly Departure.lateStores }, { on := 12, ground := Ground.textOnly Departure.lateStores }, { on := 13, ground := Ground.textOnly Departure.lateStoresUnsure }, { on := 14, ground := Ground.phase }], guard := none }) (v := ?_) rfl (by kernel_rfl) (by kernel_rfl) (by kernel_rfl) (fun _ _ _ h => h) (by decide) hc (Or.inl ⟨by rfl, ?_⟩) (fun _ => R25.T h6) (fun hc2 => ?_)
                          rotate_left
                          · (intro w _; go_simp; try with_reducible rfl)
                          clear hc; have hc := hc2; clear hc2
                          try simp only [Act.put, List.setIfInBounds_toArray, List.set_cons_zero, List.set_cons_succ]
                          refine wpL_ready (rs := [17]) (by kernel_rfl) (by simp) ?_ hc
                          intro i hi hc2
                          simp only [List.mem_cons, List.mem_nil_iff, or_false] at hi
                          subst hi
                          clear hc; have hc := hc2; clear hc2
                          refine wpOp_step (o := { dst := none, op := Op.store 28 (Operand.tmp 230) (Operand.tmp 220), type := 0, pos := "law.go:277", after := #[{ on := 16, ground := Ground.data }, { on := 6, ground := Ground.data }, { on := 14, ground := Ground.chain }, { on := 0, ground := Ground.phase }, { on := 1, ground := Ground.phase }, { on := 2, ground := Ground.phase }, { on := 3, ground := Ground.phase }, { on := 4, ground := Ground.phase }, { on := 5, ground := Ground.phase }, { on := 6, ground := Ground.phase }, { on := 7, ground := Ground.textOnly Departure.lateStores }, { on := 8, ground := Ground.textOnly Departure.lateStores }, { on := 9, ground := Ground.textOnly Departure.lateStoresUnsure }, { on := 10, ground := Ground.phase }, { on := 11, ground := Ground.textOnly Departure.lateStores }, { on := 12, ground := Ground.textOnly Departure.lateStores }, { on := 13, ground := Ground.textOnly Departure.lateStoresUnsure }, { on := 14, ground := Ground.phase }], guard := none }) rfl (fun K hK => ?_)
                          have HK := hide hK
                          clear hK
                          have hT := R25.T h6
                          have hF1 : X6.frozen? ⟨pb, 4, none⟩ = false := World.ownsRow.frozenAt (R25.rst h6).p 4
                          have hF2 : X6.frozen? ⟨xb, 4, none⟩ = false := blk_free (R25.rst h6).x 4
                          have hF3 : X6.frozen? ⟨yb, 4, none⟩ = false := blk_free (R25.rst h6).y 4
                          obtain ⟨hT1, hT2, hT3⟩ := hT
                          have hq := HA.out.pxy.2.1
                          dsimp only at hT1 hT2 hT3 hq
                          obtain ⟨hq1, hq2, hq3⟩ := hq
                          have hq4 := Ne.symm hq1
                          have hq5 := Ne.symm hq2
                          have hq6 := Ne.symm hq3
                          go_simp
                          refine HK.out _ _ ⟨fun hx => absurd hx (by decide), ?_⟩
                          clear HK K
                          try simp only [Act.put, List.setIfInBounds_toArray, List.set_cons_zero, List.set_cons_succ]
                          as_aux_lemma =>
                            refine wpL_pure (i := 18) (oi := { dst := some 231, op := Op.fieldAddr 30 (Operand.tmp 15) 4, type := 0, pos := "law.go:277", after := #[{ on := 0, ground := Ground.phase }, { on := 1, ground := Ground.phase }, { on := 2, ground := Ground.phase }, { on := 3, ground := Ground.phase }, { on := 4, ground := Ground.phase }, { on := 5, ground := Ground.phase }, { on := 6, ground := Ground.phase }, { on := 7, ground := Ground.phase }, { on := 8, ground := Ground.phase }, { on := 9, ground := Ground.phase }, { on := 10, ground := Ground.phase }, { on := 11, ground := Ground.textOnly Departure.lateStores }, { on := 12, ground := Ground.textOnly Departure.lateStores }, { on := 13, ground := Ground.textOnly Departure.lateStoresUnsure }, { on := 14, ground := Ground.phase }, { on := 15, ground := Ground.phase }, { on := 16, ground := Ground.phase }, { on := 17, ground := Ground.phase }], guard := none }) (v := ?_) rfl (by kernel_rfl) (by kernel_rfl) (by kernel_rfl) (fun _ _ _ h => h) (by decide) hc (Or.inl ⟨by rfl, ?_⟩) (fun hx => absurd hx (by decide)) (fun hc2 => ?_)
                            rotate_left
                            · (intro w _; go_simp; try with_reducible rfl)
                            clear hc; have hc := hc2; clear hc2
                            try simp only [Act.put, List.setIfInBounds_toArray, List.set_cons_zero, List.set_cons_succ]
                            refine wpL_ready (rs := [19]) (by kernel_rfl) (by simp) ?_ hc
                            intro i hi hc2
                            simp only [List.mem_cons, List.mem_nil_iff, or_false] at hi
                            subst hi
                            clear hc; have hc := hc2; clear hc2
                            refine wpOp_step (o := { dst := none, op := Op.store 28 (Operand.tmp 231) (Operand.tmp 224), type := 0, pos := "law.go:277", after := #[{ on := 18, ground := Ground.data }, { on := 10, ground := Ground.data }, { on := 17, ground := Ground.chain }, { on := 0, ground := Ground.phase }, { on := 1, ground := Ground.phase }, { on := 2, ground := Ground.phase }, { on := 3, ground := Ground.phase }, { on := 4, ground := Ground.phase }, { on := 5, ground := Ground.phase }, { on := 6, ground := Ground.phase }, { on := 7, ground := Ground.phase }, { on := 8, ground := Ground.phase }, { on := 9, ground := Ground.phase }, { on := 10, ground := Ground.phase }, { on := 11, ground := Ground.textOnly Departure.lateStores }, { on := 12, ground := Ground.textOnly Departure.lateStores }, { on := 13, ground := Ground.textOnly Departure.lateStoresUnsure }, { on := 14, ground := Ground.phase }, { on := 15, ground := Ground.phase }, { on := 16, ground := Ground.phase }, { on := 17, ground := Ground.phase }], guard := none }) rfl (fun K hK => ?_)
                            have HK := hide hK
                            clear hK
                            go_simp
                            refine HK.out _ _ ⟨fun hx => absurd hx (by decide), ?_⟩
                            clear HK K
                            try simp only [Act.put, List.setIfInBounds_toArray, List.set_cons_zero, List.set_cons_succ]
                            as_aux_lemma =>
                              refine wpL_pure (i := 20) (oi := { dst := some 232, op := Op.fieldAddr 30 (Operand.tmp 17) 4, type := 0, pos := "law.go:277", after := #[{ on := 0, ground := Ground.phase }, { on := 1, ground := Ground.phase }, { on := 2, ground := Ground.phase }, { on := 3, ground := Ground.phase }, { on := 4, ground := Ground.phase }, { on := 5, ground := Ground.phase }, { on := 6, ground := Ground.phase }, { on := 7, ground := Ground.phase }, { on := 8, ground := Ground.phase }, { on := 9, ground := Ground.phase }, { on := 10, ground := Ground.phase }, { on := 11, ground := Ground.phase }, { on := 12, ground := Ground.phase }, { on := 13, ground := Ground.phase }, { on := 14, ground := Ground.phase }, { on := 15, ground := Ground.phase }, { on := 16, ground := Ground.phase }, { on := 17, ground := Ground.phase }, { on := 18, ground := Ground.phase }, { on := 19, ground := Ground.phase }], guard := none }) (v := ?_) rfl (by kernel_rfl) (by kernel_rfl) (by kernel_rfl) (fun _ _ _ h => h) (by decide) hc (Or.inl ⟨by rfl, ?_⟩) (fun hx => absurd hx (by decide)) (fun hc2 => ?_)
                              rotate_left
                              · (intro w _; go_simp; try with_reducible rfl)
                              clear hc; have hc := hc2; clear hc2
                              try simp only [Act.put, List.setIfInBounds_toArray, List.set_cons_zero, List.set_cons_succ]
                              refine wpL_ready (rs := [21]) (by kernel_rfl) (by simp) ?_ hc
                              intro i hi hc2
                              simp only [List.mem_cons, List.mem_nil_iff, or_false] at hi
                              subst hi
                              clear hc; have hc := hc2; clear hc2
                              refine wpOp_step (o := { dst := none, op := Op.store 28 (Operand.tmp 232) (Operand.tmp 228), type := 0, pos := "law.go:277", after := #[{ on := 20, ground := Ground.data }, { on := 14, ground := Ground.data }, { on := 19, ground := Ground.chain }, { on := 0, ground := Ground.phase }, { on := 1, ground := Ground.phase }, { on := 2, ground := Ground.phase }, { on := 3, ground := Ground.phase }, { on := 4, ground := Ground.phase }, { on := 5, ground := Ground.phase }, { on := 6, ground := Ground.phase }, { on := 7, ground := Ground.phase }, { on := 8, ground := Ground.phase }, { on := 9, ground := Ground.phase }, { on := 10, ground := Ground.phase }, { on := 11, ground := Ground.phase }, { on := 12, ground := Ground.phase }, { on := 13, ground := Ground.phase }, { on := 14, ground := Ground.phase }, { on := 15, ground := Ground.phase }, { on := 16, ground := Ground.phase }, { on := 17, ground := Ground.phase }, { on := 18, ground := Ground.phase }, { on := 19, ground := Ground.phase }], guard := none }) rfl (fun K hK => ?_)
                              have HK := hide hK
                              clear hK
                              go_simp
                              refine HK.out _ _ ⟨fun hx => absurd hx (by decide), ?_⟩
                              clear HK K
                              try simp only [Act.put, List.setIfInBounds_toArray, List.set_cons_zero, List.set_cons_succ]
                              refine wpL_done (by kernel_rfl) ?_
                              have hfin := R25.fin HA.out h6 (.slice (some ⟨g6, 0, none⟩) 3 d6)
                              clear h6 hc
                              go_wp2_with fail
                              go_meet
                              case rel => exact ⟨_, _, _, _, hfin⟩
            · clear hc; have hc := hc2; clear hc2
              refine wpOp_step (o := { dst := some 227, op := Op.buildSlice 28 1 #[(0, Operand.const (Value.int IntKind.i64 3))], type := 28, pos := "law.go:277", after := #[], guard := none }) rfl (fun K hK => ?_)
              have HK := hide hK
              clear hK
              go_simp
              have h2 := R25.alloc3 HA.out h1
              refine HK.out _ _ ⟨fun _ => R25.T h2, ?_⟩
              clear HK K h1
              try simp only [Act.put, List.setIfInBounds_toArray, List.set_cons_zero, List.set_cons_succ]
              generalize X1.alloc (celO 3) = X2 at h2 ⊢
              generalize X1.heap.size = n2 at h2 ⊢
              as_aux_lemma =>
                refine wpL_ready (rs := [5]) (by kernel_rfl) (by simp) ?_ hc
                intro i hi hc2
                simp only [List.mem_cons, List.mem_nil_iff, or_false] at hi
                subst hi
                clear hc; have hc := hc2; clear hc2
                refine wpOp_step (o := { dst := some 219, op := Op.buildSlice 28 1 #[(0, Operand.const (Value.int IntKind.i64 1))], type := 28, pos := "law.go:277", after := #[], guard := none }) rfl (fun K hK => ?_)
                have HK := hide hK
                clear hK
                go_simp
                have h3 := R25.alloc1 HA.out h2
                refine HK.out _ _ ⟨fun _ => R25.T h3, ?_⟩
                clear HK K h2
                try simp only [Act.put, List.setIfInBounds_toArray, List.set_cons_zero, List.set_cons_succ]
                generalize X2.alloc (celO 1) = X3 at h3 ⊢
                generalize X2.heap.size = n3 at h3 ⊢
                as_aux_lemma =>
                  refine wpL_ready (rs := [6]) (by kernel_rfl) (by simp) ?_ hc
                  intro i hi hc2
                  simp only [List.mem_cons, List.mem_nil_iff, or_false] at hi
                  subst hi
                  clear hc; have hc := hc2; clear hc2
                  refine wpOp_step (o := { dst := some 220, op := Op.call { callee := Callee.builtin Builtin.append, args := #[Operand.tmp 218, Operand.tmp 219], argTypes := #[28, 28] }, type := 28, pos := "law.go:277", after := #[{ on := 4, ground := Ground.data }, { on := 5, ground := Ground.data }], guard := none }) rfl (fun K hK => ?_)
                  have HK := hide hK
                  clear hK
                  refine step_app1 HA.out h3 rfl _ _ rfl rfl rfl ?_
                  intro g4 d4 X4 h4
                  refine HK.out _ _ ⟨fun _ => R25.T h4, ?_⟩
                  clear HK K h3
                  try simp only [Act.put, List.setIfInBounds_toArray, List.set_cons_zero, List.set_cons_succ]
                  as_aux_lemma =>
                    refine wpL_ready (rs := [10]) (by kernel_rfl) (by simp) ?_ hc
                    intro i hi hc2
                    simp only [List.mem_cons, List.mem_nil_iff, or_false] at hi
                    subst hi
                    clear hc; have hc := hc2; clear hc2
                    refine wpOp_step (o := { dst := some 224, op := Op.call { callee := Callee.builtin Builtin.append, args := #[Operand.tmp 222, Operand.tmp 223], argTypes := #[28, 28] }, type := 28, pos := "law.go:277", after := #[{ on := 8, ground := Ground.data }, { on := 9, ground := Ground.data }, { on := 6, ground := Ground.chain }], guard := none }) rfl (fun K hK => ?_)
                    have HK := hide hK
                    clear hK
                    refine step_app2 HA.out h4 rfl _ _ rfl rfl rfl ?_
                    intro g5 d5 X5 h5
                    refine HK.out _ _ ⟨fun _ => R25.T h5, ?_⟩
                    clear HK K h4
                    try simp only [Act.put, List.setIfInBounds_toArray, List.set_cons_zero, List.set_cons_succ]
                    as_aux_lemma =>
                      refine wpL_ready (rs := [14]) (by kernel_rfl) (by simp) ?_ hc
                      intro i hi hc2
                      simp only [List.mem_cons, List.mem_nil_iff, or_false] at hi
                      subst hi
                      clear hc; have hc := hc2; clear hc2
                      refine wpOp_step (o := { dst := some 228, op := Op.call { callee := Callee.builtin Builtin.append, args := #[Operand.tmp 226, Operand.tmp 227], argTypes := #[28, 28] }, type := 28, pos := "law.go:277", after := #[{ on := 12, ground := Ground.data }, { on := 13, ground := Ground.data }, { on := 10, ground := Ground.chain }], guard := none }) rfl (fun K hK => ?_)
                      have HK := hide hK
                      clear hK
                      refine step_app3 HA.out h5 rfl _ _ rfl rfl rfl ?_
                      intro g6 d6 X6 h6
                      refine HK.out _ _ ⟨fun _ => R25.T h6, ?_⟩
                      clear HK K h5
                      try simp only [Act.put, List.setIfInBounds_toArray, List.set_cons_zero, List.set_cons_succ]
                      as_aux_lemma =>
                        refine wpL_pure (i := 15) (oi := { dst := some 229, op := Op.indexAddr 33 (Operand.tmp 214) (Operand.const (Value.int IntKind.i64 0)), type := 0, pos := "law.go:277", after := #[{ on := 0, ground := Ground.data }, { on := 0, ground := Ground.phase }, { on := 1, ground := Ground.phase }, { on := 2, ground := Ground.phase }, { on := 3, ground := Ground.phase }, { on := 4, ground := Ground.phase }, { on := 5, ground := Ground.phase }, { on := 6, ground := Ground.phase }, { on := 7, ground := Ground.textOnly Departure.lateStores }, { on := 8, ground := Ground.textOnly Departure.lateStores }, { on := 9, ground := Ground.textOnly Departure.lateStoresUnsure }, { on := 10, ground := Ground.phase }, { on := 11, ground := Ground.textOnly Departure.lateStores }, { on := 12, ground := Ground.textOnly Departure.lateStores }, { on := 13, ground := Ground.textOnly Departure.lateStoresUnsure }, { on := 14, ground := Ground.phase }], guard := none }) (v := ?_) rfl (by kernel_rfl) (by kernel_rfl) (by kernel_rfl) (fun _ _ _ h => h) (by decide) hc (Or.inl ⟨by rfl, ?_⟩) (fun _ => R25.T h6) (fun hc2 => ?_)
                        rotate_left
                        · (intro w _; go_simp; try with_reducible rfl)
                        clear hc; have hc := hc2; clear hc2
                        try simp only [Act.put, List.setIfInBounds_toArray, List.set_cons_zero, List.set_cons_succ]
                        refine wpL_pure (i := 16) (oi := { dst := some 230, op := Op.fieldAddr 30 (Operand.tmp 229) 4, type := 0, pos := "law.go:277", after := #[{ on := 15, ground := Ground.data }, { on := 0, ground := Ground.phase }, { on := 1, ground := Ground.phase }, { on := 2, ground := Ground.phase }, { on := 3, ground := Ground.phase }, { on := 4, ground := Ground.phase }, { on := 5, ground := Ground.phase }, { on := 6, ground := Ground.phase }, { on := 7, ground := Ground.textOnly Departure.lateStores }, { on := 8, ground := Ground.textOnly Departure.lateStores }, { on := 9, ground := Ground.textOnly Departure.lateStoresUnsure }, { on := 10, ground := Ground.phase }, { on := 11, ground := Ground.textOnly Departure.lateStores }, { on := 12, ground := Ground.textOnly Departure.lateStores }, { on := 13, ground := Ground.textOnly Departure.lateStoresUnsure }, { on := 14, ground := Ground.phase }], guard := none }) (v := ?_) rfl (by kernel_rfl) (by kernel_rfl) (by kernel_rfl) (fun _ _ _ h => h) (by decide) hc (Or.inl ⟨by rfl, ?_⟩) (fun _ => R25.T h6) (fun hc2 => ?_)
                        rotate_left
                        · (intro w _; go_simp; try with_reducible rfl)
                        clear hc; have hc := hc2; clear hc2
                        try simp only [Act.put, List.setIfInBounds_toArray, List.set_cons_zero, List.set_cons_succ]
                        refine wpL_ready (rs := [17]) (by kernel_rfl) (by simp) ?_ hc
                        intro i hi hc2
                        simp only [List.mem_cons, List.mem_nil_iff, or_false] at hi
                        subst hi
                        clear hc; have hc := hc2; clear hc2
                        refine wpOp_step (o := { dst := none, op := Op.store 28 (Operand.tmp 230) (Operand.tmp 220), type := 0, pos := "law.go:277", after := #[{ on := 16, ground := Ground.data }, { on := 6, ground := Ground.data }, { on := 14, ground := Ground.chain }, { on := 0, ground := Ground.phase }, { on := 1, ground := Ground.phase }, { on := 2, ground := Ground.phase }, { on := 3, ground := Ground.phase }, { on := 4, ground := Ground.phase }, { on := 5, ground := Ground.phase }, { on := 6, ground := Ground.phase }, { on := 7, ground := Ground.textOnly Departure.lateStores }, { on := 8, ground := Ground.textOnly Departure.lateStores }, { on := 9, ground := Ground.textOnly Departure.lateStoresUnsure }, { on := 10, ground := Ground.phase }, { on := 11, ground := Ground.textOnly Departure.lateStores }, { on := 12, ground := Ground.textOnly Departure.lateStores }, { on := 13, ground := Ground.textOnly Departure.lateStoresUnsure }, { on := 14, ground := Ground.phase }], guard := none }) rfl (fun K hK => ?_)
                        have HK := hide hK
                        clear hK
                        have hT := R25.T h6
                        have hF1 : X6.frozen? ⟨pb, 4, none⟩ = false := World.ownsRow.frozenAt (R25.rst h6).p 4
                        have hF2 : X6.frozen? ⟨xb, 4, none⟩ = false := blk_free (R25.rst h6).x 4
                        have hF3 : X6.frozen? ⟨yb, 4, none⟩ = false := blk_free (R25.rst h6).y 4
                        obtain ⟨hT1, hT2, hT3⟩ := hT
                        have hq := HA.out.pxy.2.1
                        dsimp only at hT1 hT2 hT3 hq
                        obtain ⟨hq1, hq2, hq3⟩ := hq
                        have hq4 := Ne.symm hq1
                        have hq5 := Ne.symm hq2
                        have hq6 := Ne.symm hq3
                        go_simp
                        refine HK.out _ _ ⟨fun hx => absurd hx (by decide), ?_⟩
                        clear HK K
                        try simp only [Act.put, List.setIfInBounds_toArray, List.set_cons_zero, List.set_cons_succ]
                        as_aux_lemma =>
                          refine wpL_pure (i := 18) (oi := { dst := some 231, op := Op.fieldAddr 30 (Operand.tmp 15) 4, type := 0, pos := "law.go:277", after := #[{ on := 0, ground := Ground.phase }, { on := 1, ground := Ground.phase }, { on := 2, ground := Ground.phase }, { on := 3, ground := Ground.phase }, { on := 4, ground := Ground.phase }, { on := 5, ground := Ground.phase }, { on := 6, ground := Ground.phase }, { on := 7, ground := Ground.phase }, { on := 8, ground := Ground.phase }, { on := 9, ground := Ground.phase }, { on := 10, ground := Ground.phase }, { on := 11, ground := Ground.textOnly Departure.lateStores }, { on := 12, ground := Ground.textOnly Departure.lateStores }, { on := 13, ground := Ground.textOnly Departure.lateStoresUnsure }, { on := 14, ground := Ground.phase }, { on := 15, ground := Ground.phase }, { on := 16, ground := Ground.phase }, { on := 17, ground := Ground.phase }], guard := none }) (v := ?_) rfl (by kernel_rfl) (by kernel_rfl) (by kernel_rfl) (fun _ _ _ h => h) (by decide) hc (Or.inl ⟨by rfl, ?_⟩) (fun hx => absurd hx (by decide)) (fun hc2 => ?_)
                          rotate_left
                          · (intro w _; go_simp; try with_reducible rfl)
                          clear hc; have hc := hc2; clear hc2
                          try simp only [Act.put, List.setIfInBounds_toArray, List.set_cons_zero, List.set_cons_succ]
                          refine wpL_ready (rs := [19]) (by kernel_rfl) (by simp) ?_ hc
                          intro i hi hc2
                          simp only [List.mem_cons, List.mem_nil_iff, or_false] at hi
                          subst hi
                          clear hc; have hc := hc2; clear hc2
                          refine wpOp_step (o := { dst := none, op := Op.store 28 (Operand.tmp 231) (Operand.tmp 224), type := 0, pos := "law.go:277", after := #[{ on := 18, ground := Ground.data }, { on := 10, ground := Ground.data }, { on := 17, ground := Ground.chain }, { on := 0, ground := Ground.phase }, { on := 1, ground := Ground.phase }, { on := 2, ground := Ground.phase }, { on := 3, ground := Ground.phase }, { on := 4, ground := Ground.phase }, { on := 5, ground := Ground.phase }, { on := 6, ground := Ground.phase }, { on := 7, ground := Ground.phase }, { on := 8, ground := Ground.phase }, { on := 9, ground := Ground.phase }, { on := 10, ground := Ground.phase }, { on := 11, ground := Ground.textOnly Departure.lateStores }, { on := 12, ground := Ground.textOnly Departure.lateStores }, { on := 13, ground := Ground.textOnly Departure.lateStoresUnsure }, { on := 14, ground := Ground.phase }, { on := 15, ground := Ground.phase }, { on := 16, ground := Ground.phase }, { on := 17, ground := Ground.phase }], guard := none }) rfl (fun K hK => ?_)
                          have HK := hide hK
                          clear hK
                          go_simp
                          refine HK.out _ _ ⟨fun hx => absurd hx (by decide), ?_⟩
                          clear HK K
                          try simp only [Act.put, List.setIfInBounds_toArray, List.set_cons_zero, List.set_cons_succ]
                          as_aux_lemma =>
                            refine wpL_pure (i := 20) (oi := { dst := some 232, op := Op.fieldAddr 30 (Operand.tmp 17) 4, type := 0, pos := "law.go:277", after := #[{ on := 0, ground := Ground.phase }, { on := 1, ground := Ground.phase }, { on := 2, ground := Ground.phase }, { on := 3, ground := Ground.phase }, { on := 4, ground := Ground.phase }, { on := 5, ground := Ground.phase }, { on := 6, ground := Ground.phase }, { on := 7, ground := Ground.phase }, { on := 8, ground := Ground.phase }, { on := 9, ground := Ground.phase }, { on := 10, ground := Ground.phase }, { on := 11, ground := Ground.phase }, { on := 12, ground := Ground.phase }, { on := 13, ground := Ground.phase }, { on := 14, ground := Ground.phase }, { on := 15, ground := Ground.phase }, { on := 16, ground := Ground.phase }, { on := 17, ground := Ground.phase }, { on := 18, ground := Ground.phase }, { on := 19, ground := Ground.phase }], guard := none }) (v := ?_) rfl (by kernel_rfl) (by kernel_rfl) (by kernel_rfl) (fun _ _ _ h => h) (by decide) hc (Or.inl ⟨by rfl, ?_⟩) (fun hx => absurd hx (by decide)) (fun hc2 => ?_)
                            rotate_left
                            · (intro w _; go_simp; try with_reducible rfl)
                            clear hc; have hc := hc2; clear hc2
                            try simp only [Act.put, List.setIfInBounds_toArray, List.set_cons_zero, List.set_cons_succ]
                            refine wpL_ready (rs := [21]) (by kernel_rfl) (by simp) ?_ hc
                            intro i hi hc2
                            simp only [List.mem_cons, List.mem_nil_iff, or_false] at hi
                            subst hi
                            clear hc; have hc := hc2; clear hc2
                            refine wpOp_step (o := { dst := none, op := Op.store 28 (Operand.tmp 232) (Operand.tmp 228), type := 0, pos := "law.go:277", after := #[{ on := 20, ground := Ground.data }, { on := 14, ground := Ground.data }, { on := 19, ground := Ground.chain }, { on := 0, ground := Ground.phase }, { on := 1, ground := Ground.phase }, { on := 2, ground := Ground.phase }, { on := 3, ground := Ground.phase }, { on := 4, ground := Ground.phase }, { on := 5, ground := Ground.phase }, { on := 6, ground := Ground.phase }, { on := 7, ground := Ground.phase }, { on := 8, ground := Ground.phase }, { on := 9, ground := Ground.phase }, { on := 10, ground := Ground.phase }, { on := 11, ground := Ground.phase }, { on := 12, ground := Ground.phase }, { on := 13, ground := Ground.phase }, { on := 14, ground := Ground.phase }, { on := 15, ground := Ground.phase }, { on := 16, ground := Ground.phase }, { on := 17, ground := Ground.phase }, { on := 18, ground := Ground.phase }, { on := 19, ground := Ground.phase }], guard := none }) rfl (fun K hK => ?_)
                            have HK := hide hK
                            clear hK
                            go_simp
                            refine HK.out _ _ ⟨fun hx => absurd hx (by decide), ?_⟩
                            clear HK K
                            try simp only [Act.put, List.setIfInBounds_toArray, List.set_cons_zero, List.set_cons_succ]
                            refine wpL_done (by kernel_rfl) ?_
                            have hfin := R25.fin HA.out h6 (.slice (some ⟨g6, 0, none⟩) 3 d6)
                            clear h6 hc
                            go_wp2_with fail
                            go_meet
                            case rel => exact ⟨_, _, _, _, hfin⟩
        · clear hc; have hc := hc2; clear hc2
          refine wpOp_step (o := { dst := some 227, op := Op.buildSlice 28 1 #[(0, Operand.const (Value.int IntKind.i64 3))], type := 28, pos := "law.go:277", after := #[], guard := none }) rfl (fun K hK => ?_)
          have HK := hide hK
          clear hK
          go_simp
          have h1 := R25.alloc3 HA.out h0
          refine HK.out _ _ ⟨fun _ => R25.T h1, ?_⟩
          clear HK K h0
          try simp only [Act.put, List.setIfInBounds_toArray, List.set_cons_zero, List.set_cons_succ]
          generalize X0.alloc (celO 3) = X1 at h1 ⊢
          generalize X0.heap.size = n1 at h1 ⊢
          as_aux_lemma =>
            refine wpL_ready (rs := [5, 9]) (by kernel_rfl) (by simp) ?_ hc
            intro i hi hc2
            simp only [List.mem_cons, List.mem_nil_iff, or_false] at hi
            rcases hi with rfl | rfl
            · clear hc; have hc := hc2; clear hc2
              refine wpOp_step (o := { dst := some 219, op := Op.buildSlice 28 1 #[(0, Operand.const (Value.int IntKind.i64 1))], type := 28, pos := "law.go:277", after := #[], guard := none }) rfl (fun K hK => ?_)
              have HK := hide hK
              clear hK
              go_simp
              have h2 := R25.alloc1 HA.out h1
              refine HK.out _ _ ⟨fun _ => R25.T h2, ?_⟩
              clear HK K h1
              try simp only [Act.put, List.setIfInBounds_toArray, List.set_cons_zero, List.set_cons_succ]
              generalize X1.alloc (celO 1) = X2 at h2 ⊢
              generalize X1.heap.size = n2 at h2 ⊢
              as_aux_lemma =>
                refine wpL_ready (rs := [6, 9]) (by kernel_rfl) (by simp) ?_ hc
                intro i hi hc2
                simp only [List.mem_cons, List.mem_nil_iff, or_false] at hi
                rcases hi with rfl | rfl
                · clear hc; have hc := hc2; clear hc2
                  refine wpOp_step (o := { dst := some 220, op := Op.call { callee := Callee.builtin Builtin.append, args := #[Operand.tmp 218, Operand.tmp 219], argTypes := #[28, 28] }, type := 28, pos := "law.go:277", after := #[{ on := 4, ground := Ground.data }, { on := 5, ground := Ground.data }], guard := none }) rfl (fun K hK => ?_)
                  have HK := hide hK
                  clear hK
                  refine step_app1 HA.out h2 rfl _ _ rfl rfl rfl ?_
                  intro g3 d3 X3 h3
                  refine HK.out _ _ ⟨fun _ => R25.T h3, ?_⟩
                  clear HK K h2
                  try simp only [Act.put, List.setIfInBounds_toArray, List.set_cons_zero, List.set_cons_succ]
                  as_aux_lemma =>
                    refine wpL_ready (rs := [9]) (by kernel_rfl) (by simp) ?_ hc
                    intro i hi hc2
                    simp only [List.mem_cons, List.mem_nil_iff, or_false] at hi
                    subst hi
                    clear hc; have hc := hc2; clear hc2
                    refine wpOp_step (o := { dst := some 223, op := Op.buildSlice 28 1 #[(0, Operand.const (Value.int IntKind.i64 2))], type := 28, pos := "law.go:277", after := #[], guard := none }) rfl (fun K hK => ?_)
                    have HK := hide hK
                    clear hK
                    go_simp
                    have h4 := R25.alloc2 HA.out h3
                    refine HK.out _ _ ⟨fun _ => R25.T h4, ?_⟩
                    clear HK K h3
                    try simp only [Act.put, List.setIfInBounds_toArray, List.set_cons_zero, List.set_cons_succ]
                    generalize X3.alloc (celO 2) = X4 at h4 ⊢
                    generalize X3.heap.size = n4 at h4 ⊢
                    as_aux_lemma =>
                      refine wpL_ready (rs := [10]) (by kernel_rfl) (by simp) ?_ hc
                      intro i hi hc2
                      simp only [List.mem_cons, List.mem_nil_iff, or_false] at hi
                      subst hi
                      clear hc; have hc := hc2; clear hc2
                      refine wpOp_step (o := { dst := some 224, op := Op.call { callee := Callee.builtin Builtin.append, args := #[Operand.tmp 222, Operand.tmp 223], argTypes := #[28, 28] }, type := 28, pos := "law.go:277", after := #[{ on := 8, ground := Ground.data }, { on := 9, ground := Ground.data }, { on := 6, ground := Ground.chain }], guard := none }) rfl (fun K hK => ?_)
                      have HK := hide hK
                      clear hK
                      refine step_app2 HA.out h4 rfl _ _ rfl rfl rfl ?_
                      intro g5 d5 X5 h5
                      refine HK.out _ _ ⟨fun _ => R25.T h5, ?_⟩
                      clear HK K h4
                      try simp only [Act.put, List.setIfInBounds_toArray, List.set_cons_zero, List.set_cons_succ]
                      as_aux_lemma =>
                        refine wpL_ready (rs := [14]) (by kernel_rfl) (by simp) ?_ hc
                        intro i hi hc2
                        simp only [List.mem_cons, List.mem_nil_iff, or_false] at hi
                        subst hi
                        clear hc; have hc := hc2; clear hc2
                        refine wpOp_step (o := { dst := some 228, op := Op.call { callee := Callee.builtin Builtin.append, args := #[Operand.tmp 226, Operand.tmp 227], argTypes := #[28, 28] }, type := 28, pos := "law.go:277", after := #[{ on := 12, ground := Ground.data }, { on := 13, ground := Ground.data }, { on := 10, ground := Ground.chain }], guard := none }) rfl (fun K hK => ?_)
                        have HK := hide hK
                        clear hK
                        refine step_app3 HA.out h5 rfl _ _ rfl rfl rfl ?_
                        intro g6 d6 X6 h6
                        refine HK.out _ _ ⟨fun _ => R25.T h6, ?_⟩
                        clear HK K h5
                        try simp only [Act.put, List.setIfInBounds_toArray, List.set_cons_zero, List.set_cons_succ]
                        as_aux_lemma =>
                          refine wpL_pure (i := 15) (oi := { dst := some 229, op := Op.indexAddr 33 (Operand.tmp 214) (Operand.const (Value.int IntKind.i64 0)), type := 0, pos := "law.go:277", after := #[{ on := 0, ground := Ground.data }, { on := 0, ground := Ground.phase }, { on := 1, ground := Ground.phase }, { on := 2, ground := Ground.phase }, { on := 3, ground := Ground.phase }, { on := 4, ground := Ground.phase }, { on := 5, ground := Ground.phase }, { on := 6, ground := Ground.phase }, { on := 7, ground := Ground.textOnly Departure.lateStores }, { on := 8, ground := Ground.textOnly Departure.lateStores }, { on := 9, ground := Ground.textOnly Departure.lateStoresUnsure }, { on := 10, ground := Ground.phase }, { on := 11, ground := Ground.textOnly Departure.lateStores }, { on := 12, ground := Ground.textOnly Departure.lateStores }, { on := 13, ground := Ground.textOnly Departure.lateStoresUnsure }, { on := 14, ground := Ground.phase }], guard := none }) (v := ?_) rfl (by kernel_rfl) (by kernel_rfl) (by kernel_rfl) (fun _ _ _ h => h) (by decide) hc (Or.inl ⟨by rfl, ?_⟩) (fun _ => R25.T h6) (fun hc2 => ?_)
                          rotate_left
                          · (intro w _; go_simp; try with_reducible rfl)
                          clear hc; have hc := hc2; clear hc2
                          try simp only [Act.put, List.setIfInBounds_toArray, List.set_cons_zero, List.set_cons_succ]
                          refine wpL_pure (i := 16) (oi := { dst := some 230, op := Op.fieldAddr 30 (Operand.tmp 229) 4, type := 0, pos := "law.go:277", after := #[{ on := 15, ground := Ground.data }, { on := 0, ground := Ground.phase }, { on := 1, ground := Ground.phase }, { on := 2, ground := Ground.phase }, { on := 3, ground := Ground.phase }, { on := 4, ground := Ground.phase }, { on := 5, ground := Ground.phase }, { on := 6, ground := Ground.phase }, { on := 7, ground := Ground.textOnly Departure.lateStores }, { on := 8, ground := Ground.textOnly Departure.lateStores }, { on := 9, ground := Ground.textOnly Departure.lateStoresUnsure }, { on := 10, ground := Ground.phase }, { on := 11, ground := Ground.textOnly Departure.lateStores }, { on := 12, ground := Ground.textOnly Departure.lateStores }, { on := 13, ground := Ground.textOnly Departure.lateStoresUnsure }, { on := 14, ground := Ground.phase }], guard := none }) (v := ?_) rfl (by kernel_rfl) (by kernel_rfl) (by kernel_rfl) (fun _ _ _ h => h) (by decide) hc (Or.inl ⟨by rfl, ?_⟩) (fun _ => R25.T h6) (fun hc2 => ?_)
                          rotate_left
                          · (intro w _; go_simp; try with_reducible rfl)
                          clear hc; have hc := hc2; clear hc2
                          try simp only [Act.put, List.setIfInBounds_toArray, List.set_cons_zero, List.set_cons_succ]
                          refine wpL_ready (rs := [17]) (by kernel_rfl) (by simp) ?_ hc
                          intro i hi hc2
                          simp only [List.mem_cons, List.mem_nil_iff, or_false] at hi
                          subst hi
                          clear hc; have hc := hc2; clear hc2
                          refine wpOp_step (o := { dst := none, op := Op.store 28 (Operand.tmp 230) (Operand.tmp 220), type := 0, pos := "law.go:277", after := #[{ on := 16, ground := Ground.data }, { on := 6, ground := Ground.data }, { on := 14, ground := Ground.chain }, { on := 0, ground := Ground.phase }, { on := 1, ground := Ground.phase }, { on := 2, ground := Ground.phase }, { on := 3, ground := Ground.phase }, { on := 4, ground := Ground.phase }, { on := 5, ground := Ground.phase }, { on := 6, ground := Ground.phase }, { on := 7, ground := Ground.textOnly Departure.lateStores }, { on := 8, ground := Ground.textOnly Departure.lateStores }, { on := 9, ground := Ground.textOnly Departure.lateStoresUnsure }, { on := 10, ground := Ground.phase }, { on := 11, ground := Ground.textOnly Departure.lateStores }, { on := 12, ground := Ground.textOnly Departure.lateStores }, { on := 13, ground := Ground.textOnly Departure.lateStoresUnsure }, { on := 14, ground := Ground.phase }], guard := none }) rfl (fun K hK => ?_)
                          have HK := hide hK
                          clear hK
                          have hT := R25.T h6
                          have hF1 : X6.frozen? ⟨pb, 4, none⟩ = false := World.ownsRow.frozenAt (R25.rst h6).p 4
                          have hF2 : X6.frozen? ⟨xb, 4, none⟩ = false := blk_free (R25.rst h6).x 4
                          have hF3 : X6.frozen? ⟨yb, 4, none⟩ = false := blk_free (R25.rst h6).y 4
                          obtain ⟨hT1, hT2, hT3⟩ := hT
                          have hq := HA.out.pxy.2.1
                          dsimp only at hT1 hT2 hT3 hq
                          obtain ⟨hq1, hq2, hq3⟩ := hq
                          have hq4 := Ne.symm hq1
                          have hq5 := Ne.symm hq2
                          have hq6 := Ne.symm hq3
                          go_simp
                          refine HK.out _ _ ⟨fun hx => absurd hx (by decide), ?_⟩
                          clear HK K
                          try simp only [Act.put, List.setIfInBounds_toArray, List.set_cons_zero, List.set_cons_succ]
                          as_aux_lemma =>
                            refine wpL_pure (i := 18) (oi := { dst := some 231, op := Op.fieldAddr 30 (Operand.tmp 15) 4, type := 0, pos := "law.go:277", after := #[{ on := 0, ground := Ground.phase }, { on := 1, ground := Ground.phase }, { on := 2, ground := Ground.phase }, { on := 3, ground := Ground.phase }, { on := 4, ground := Ground.phase }, { on := 5, ground := Ground.phase }, { on := 6, ground := Ground.phase }, { on := 7, ground := Ground.phase }, { on := 8, ground := Ground.phase }, { on := 9, ground := Ground.phase }, { on := 10, ground := Ground.phase }, { on := 11, ground := Ground.textOnly Departure.lateStores }, { on := 12, ground := Ground.textOnly Departure.lateStores }, { on := 13, ground := Ground.textOnly Departure.lateStoresUnsure }, { on := 14, ground := Ground.phase }, { on := 15, ground := Ground.phase }, { on := 16, ground := Ground.phase }, { on := 17, ground := Ground.phase }], guard := none }) (v := ?_) rfl (by kernel_rfl) (by kernel_rfl) (by kernel_rfl) (fun _ _ _ h => h) (by decide) hc (Or.inl ⟨by rfl, ?_⟩) (fun hx => absurd hx (by decide)) (fun hc2 => ?_)
                            rotate_left
                            · (intro w _; go_simp; try with_reducible rfl)
                            clear hc; have hc := hc2; clear hc2
                            try simp only [Act.put, List.setIfInBounds_toArray, List.set_cons_zero, List.set_cons_succ]
                            refine wpL_ready (rs := [19]) (by kernel_rfl) (by simp) ?_ hc
                            intro i hi hc2
                            simp only [List.mem_cons, List.mem_nil_iff, or_false] at hi
                            subst hi
                            clear hc; have hc := hc2; clear hc2
                            refine wpOp_step (o := { dst := none, op := Op.store 28 (Operand.tmp 231) (Operand.tmp 224), type := 0, pos := "law.go:277", after := #[{ on := 18, ground := Ground.data }, { on := 10, ground := Ground.data }, { on := 17, ground := Ground.chain }, { on := 0, ground := Ground.phase }, { on := 1, ground := Ground.phase }, { on := 2, ground := Ground.phase }, { on := 3, ground := Ground.phase }, { on := 4, ground := Ground.phase }, { on := 5, ground := Ground.phase }, { on := 6, ground := Ground.phase }, { on := 7, ground := Ground.phase }, { on := 8, ground := Ground.phase }, { on := 9, ground := Ground.phase }, { on := 10, ground := Ground.phase }, { on := 11, ground := Ground.textOnly Departure.lateStores }, { on := 12, ground := Ground.textOnly Departure.lateStores }, { on := 13, ground := Ground.textOnly Departure.lateStoresUnsure }, { on := 14, ground := Ground.phase }, { on := 15, ground := Ground.phase }, { on := 16, ground := Ground.phase }, { on := 17, ground := Ground.phase }], guard := none }) rfl (fun K hK => ?_)
                            have HK := hide hK
                            clear hK
                            go_simp
                            refine HK.out _ _ ⟨fun hx => absurd hx (by decide), ?_⟩
                            clear HK K
                            try simp only [Act.put, List.setIfInBounds_toArray, List.set_cons_zero, List.set_cons_succ]
                            as_aux_lemma =>
                              refine wpL_pure (i := 20) (oi := { dst := some 232, op := Op.fieldAddr 30 (Operand.tmp 17) 4, type := 0, pos := "law.go:277", after := #[{ on := 0, ground := Ground.phase }, { on := 1, ground := Ground.phase }, { on := 2, ground := Ground.phase }, { on := 3, ground := Ground.phase }, { on := 4, ground := Ground.phase }, { on := 5, ground := Ground.phase }, { on := 6, ground := Ground.phase }, { on := 7, ground := Ground.phase }, { on := 8, ground := Ground.phase }, { on := 9, ground := Ground.phase }, { on := 10, ground := Ground.phase }, { on := 11, ground := Ground.phase }, { on := 12, ground := Ground.phase }, { on := 13, ground := Ground.phase }, { on := 14, ground := Ground.phase }, { on := 15, ground := Ground.phase }, { on := 16, ground := Ground.phase }, { on := 17, ground := Ground.phase }, { on := 18, ground := Ground.phase }, { on := 19, ground := Ground.phase }], guard := none }) (v := ?_) rfl (by kernel_rfl) (by kernel_rfl) (by kernel_rfl) (fun _ _ _ h => h) (by decide) hc (Or.inl ⟨by rfl, ?_⟩) (fun hx => absurd hx (by decide)) (fun hc2 => ?_)
                              rotate_left
                              · (intro w _; go_simp; try with_reducible rfl)
                              clear hc; have hc := hc2; clear hc2
                              try simp only [Act.put, List.setIfInBounds_toArray, List.set_cons_zero, List.set_cons_succ]
                              refine wpL_ready (rs := [21]) (by kernel_rfl) (by simp) ?_ hc
                              intro i hi hc2
                              simp only [List.mem_cons, List.mem_nil_iff, or_false] at hi
                              subst hi
                              clear hc; have hc := hc2; clear hc2
                              refine wpOp_step (o := { dst := none, op := Op.store 28 (Operand.tmp 232) (Operand.tmp 228), type := 0, pos := "law.go:277", after := #[{ on := 20, ground := Ground.data }, { on := 14, ground := Ground.data }, { on := 19, ground := Ground.chain }, { on := 0, ground := Ground.phase }, { on := 1, ground := Ground.phase }, { on := 2, ground := Ground.phase }, { on := 3, ground := Ground.phase }, { on := 4, ground := Ground.phase }, { on := 5, ground := Ground.phase }, { on := 6, ground := Ground.phase }, { on := 7, ground := Ground.phase }, { on := 8, ground := Ground.phase }, { on := 9, ground := Ground.phase }, { on := 10, ground := Ground.phase }, { on := 11, ground := Ground.phase }, { on := 12, ground := Ground.phase }, { on := 13, ground := Ground.phase }, { on := 14, ground := Ground.phase }, { on := 15, ground := Ground.phase }, { on := 16, ground := Ground.phase }, { on := 17, ground := Ground.phase }, { on := 18, ground := Ground.phase }, { on := 19, ground := Ground.phase }], guard := none }) rfl (fun K hK => ?_)
                              have HK := hide hK
                              clear hK
                              go_simp
                              refine HK.out _ _ ⟨fun hx => absurd hx (by decide), ?_⟩
                              clear HK K
                              try simp only [Act.put, List.setIfInBounds_toArray, List.set_cons_zero, List.set_cons_succ]
                              refine wpL_done (by kernel_rfl) ?_
                              have hfin := R25.fin HA.out h6 (.slice (some ⟨g6, 0, none⟩) 3 d6)
                              clear h6 hc
                              go_wp2_with fail
                              go_meet
                              case rel => exact ⟨_, _, _, _, hfin⟩
                · clear hc; have hc := hc2; clear hc2
                  refine wpOp_step (o := { dst := some 223, op := Op.buildSlice 28 1 #[(0, Operand.const (Value.int IntKind.i64 2))], type := 28, pos := "law.go:277", after := #[], guard := none }) rfl (fun K hK => ?_)
                  have HK := hide hK
                  clear hK
                  go_simp
                  have h3 := R25.alloc2 HA.out h2
                  refine HK.out _ _ ⟨fun _ => R25.T h3, ?_⟩
                  clear HK K h2
                  try simp only [Act.put, List.setIfInBounds_toArray, List.set_cons_zero, List.set_cons_succ]
                  generalize X2.alloc (celO 2) = X3 at h3 ⊢
                  generalize X2.heap.size = n3 at h3 ⊢
                  as_aux_lemma =>
                    refine wpL_ready (rs := [6]) (by kernel_rfl) (by simp) ?_ hc
                    intro i hi hc2
                    simp only [List.mem_cons, List.mem_nil_iff, or_false] at hi
                    subst hi
                    clear hc; have hc := hc2; clear hc2
                    refine wpOp_step (o := { dst := some 220, op := Op.call { callee := Callee.builtin Builtin.append, args := #[Operand.tmp 218, Operand.tmp 219], argTypes := #[28, 28] }, type := 28, pos := "law.go:277", after := #[{ on := 4, ground := Ground.data }, { on := 5, ground := Ground.data }], guard := none }) rfl (fun K hK => ?_)
                    have HK := hide hK
                    clear hK
                    refine step_app1 HA.out h3 rfl _ _ rfl rfl rfl ?_
                    intro g4 d4 X4 h4
                    refine HK.out _ _ ⟨fun _ => R25.T h4, ?_⟩
                    clear HK K h3
                    try simp only [Act.put, List.setIfInBounds_toArray, List.set_cons_zero, List.set_cons_succ]
                    as_aux_lemma =>
                      refine wpL_ready (rs := [10]) (by kernel_rfl) (by simp) ?_ hc
                      intro i hi hc2
                      simp only [List.mem_cons, List.mem_nil_iff, or_false] at hi
                      subst hi
                      clear hc; have hc := hc2; clear hc2
                      refine wpOp_step (o := { dst := some 224, op := Op.call { callee := Callee.builtin Builtin.append, args := #[Operand.tmp 222, Operand.tmp 223], argTypes := #[28, 28] }, type := 28, pos := "law.go:277", after := #[{ on := 8, ground := Ground.data }, { on := 9, ground := Ground.data }, { on := 6, ground := Ground.chain }], guard := none }) rfl (fun K hK => ?_)
                      have HK := hide hK
                      clear hK
                      refine step_app2 HA.out h4 rfl _ _ rfl rfl rfl ?_
                      intro g5 d5 X5 h5
                      refine HK.out _ _ ⟨fun _ => R25.T h5, ?_⟩
                      clear HK K h4
                      try simp only [Act.put, List.setIfInBounds_toArray, List.set_cons_zero, List.set_cons_succ]
                      as_aux_lemma =>
                        refine wpL_ready (rs := [14]) (by kernel_rfl) (by simp) ?_ hc
                        intro i hi hc2
                        simp only [List.mem_cons, List.mem_nil_iff, or_false] at hi
                        subst hi
                        clear hc; have hc := hc2; clear hc2
                        refine wpOp_step (o := { dst := some 228, op := Op.call { callee := Callee.builtin Builtin.append, args := #[Operand.tmp 226, Operand.tmp 227], argTypes := #[28, 28] }, type := 28, pos := "law.go:277", after := #[{ on := 12, ground := Ground.data }, { on := 13, ground := Ground.data }, { on := 10, ground := Ground.chain }], guard := none }) rfl (fun K hK => ?_)
                        have HK := hide hK
                        clear hK
                        refine step_app3 HA.out h5 rfl _ _ rfl rfl rfl ?_
                        intro g6 d6 X6 h6
                        refine HK.out _ _ ⟨fun _ => R25.T h6, ?_⟩
                        clear HK K h5
                        try simp only [Act.put, List.setIfInBounds_toArray, List.set_cons_zero, List.set_cons_succ]
                        as_aux_lemma =>
                          refine wpL_pure (i := 15) (oi := { dst := some 229, op := Op.indexAddr 33 (Operand.tmp 214) (Operand.const (Value.int IntKind.i64 0)), type := 0, pos := "law.go:277", after := #[{ on := 0, ground := Ground.data }, { on := 0, ground := Ground.phase }, { on := 1, ground := Ground.phase }, { on := 2, ground := Ground.phase }, { on := 3, ground := Ground.phase }, { on := 4, ground := Ground.phase }, { on := 5, ground := Ground.phase }, { on := 6, ground := Ground.phase }, { on := 7, ground := Ground.textOnly Departure.lateStores }, { on := 8, ground := Ground.textOnly Departure.lateStores }, { on := 9, ground := Ground.textOnly Departure.lateStoresUnsure }, { on := 10, ground := Ground.phase }, { on := 11, ground := Ground.textOnly Departure.lateStores }, { on := 12, ground := Ground.textOnly Departure.lateStores }, { on := 13, ground := Ground.textOnly Departure.lateStoresUnsure }, { on := 14, ground := Ground.phase }], guard := none }) (v := ?_) rfl (by kernel_rfl) (by kernel_rfl) (by kernel_rfl) (fun _ _ _ h => h) (by decide) hc (Or.inl ⟨by rfl, ?_⟩) (fun _ => R25.T h6) (fun hc2 => ?_)
                          rotate_left
                          · (intro w _; go_simp; try with_reducible rfl)
                          clear hc; have hc := hc2; clear hc2
                          try simp only [Act.put, List.setIfInBounds_toArray, List.set_cons_zero, List.set_cons_succ]
                          refine wpL_pure (i := 16) (oi := { dst := some 230, op := Op.fieldAddr 30 (Operand.tmp 229) 4, type := 0, pos := "law.go:277", after := #[{ on := 15, ground := Ground.data }, { on := 0, ground := Ground.phase }, { on := 1, ground := Ground.phase }, { on := 2, ground := Ground.phase }, { on := 3, ground := Ground.phase }, { on := 4, ground := Ground.phase }, { on := 5, ground := Ground.phase }, { on := 6, ground := Ground.phase }, { on := 7, ground := Ground.textOnly Departure.lateStores }, { on := 8, ground := Ground.textOnly Departure.lateStores }, { on := 9, ground := Ground.textOnly Departure.lateStoresUnsure }, { on := 10, ground := Ground.phase }, { on := 11, ground := Ground.textOnly Departure.lateStores }, { on := 12, ground := Ground.textOnly Departure.lateStores }, { on := 13, ground := Ground.textOnly Departure.lateStoresUnsure }, { on := 14, ground := Ground.phase }], guard := none }) (v := ?_) rfl (by kernel_rfl) (by kernel_rfl) (by kernel_rfl) (fun _ _ _ h => h) (by decide) hc (Or.inl ⟨by rfl, ?_⟩) (fun _ => R25.T h6) (fun hc2 => ?_)
                          rotate_left
                          · (intro w _; go_simp; try with_reducible rfl)
                          clear hc; have hc := hc2; clear hc2
                          try simp only [Act.put, List.setIfInBounds_toArray, List.set_cons_zero, List.set_cons_succ]
                          refine wpL_ready (rs := [17]) (by kernel_rfl) (by simp) ?_ hc
                          intro i hi hc2
                          simp only [List.mem_cons, List.mem_nil_iff, or_false] at hi
                          subst hi
                          clear hc; have hc := hc2; clear hc2
                          refine wpOp_step (o := { dst := none, op := Op.store 28 (Operand.tmp 230) (Operand.tmp 220), type := 0, pos := "law.go:277", after := #[{ on := 16, ground := Ground.data }, { on := 6, ground := Ground.data }, { on := 14, ground := Ground.chain }, { on := 0, ground := Ground.phase }, { on := 1, ground := Ground.phase }, { on := 2, ground := Ground.phase }, { on := 3, ground := Ground.phase }, { on := 4, ground := Ground.phase }, { on := 5, ground := Ground.phase }, { on := 6, ground := Ground.phase }, { on := 7, ground := Ground.textOnly Departure.lateStores }, { on := 8, ground := Ground.textOnly Departure.lateStores }, { on := 9, ground := Ground.textOnly Departure.lateStoresUnsure }, { on := 10, ground := Ground.phase }, { on := 11, ground := Ground.textOnly Departure.lateStores }, { on := 12, ground := Ground.textOnly Departure.lateStores }, { on := 13, ground := Ground.textOnly Departure.lateStoresUnsure }, { on := 14, ground := Ground.phase }], guard := none }) rfl (fun K hK => ?_)
                          have HK := hide hK
                          clear hK
                          have hT := R25.T h6
                          have hF1 : X6.frozen? ⟨pb, 4, none⟩ = false := World.ownsRow.frozenAt (R25.rst h6).p 4
                          have hF2 : X6.frozen? ⟨xb, 4, none⟩ = false := blk_free (R25.rst h6).x 4
                          have hF3 : X6.frozen? ⟨yb, 4, none⟩ = false := blk_free (R25.rst h6).y 4
                          obtain ⟨hT1, hT2, hT3⟩ := hT
                          have hq := HA.out.pxy.2.1
                          dsimp only at hT1 hT2 hT3 hq
                          obtain ⟨hq1, hq2, hq3⟩ := hq
                          have hq4 := Ne.symm hq1
                          have hq5 := Ne.symm hq2
                          have hq6 := Ne.symm hq3
                          go_simp
                          refine HK.out _ _ ⟨fun hx => absurd hx (by decide), ?_⟩
                          clear HK K
                          try simp only [Act.put, List.setIfInBounds_toArray, List.set_cons_zero, List.set_cons_succ]
                          as_aux_lemma =>
                            refine wpL_pure (i := 18) (oi := { dst := some 231, op := Op.fieldAddr 30 (Operand.tmp 15) 4, type := 0, pos := "law.go:277", after := #[{ on := 0, ground := Ground.phase }, { on := 1, ground := Ground.phase }, { on := 2, ground := Ground.phase }, { on := 3, ground := Ground.phase }, { on := 4, ground := Ground.phase }, { on := 5, ground := Ground.phase }, { on := 6, ground := Ground.phase }, { on := 7, ground := Ground.phase }, { on := 8, ground := Ground.phase }, { on := 9, ground := Ground.phase }, { on := 10, ground := Ground.phase }, { on := 11, ground := Ground.textOnly Departure.lateStores }, { on := 12, ground := Ground.textOnly Departure.lateStores }, { on := 13, ground := Ground.textOnly Departure.lateStoresUnsure }, { on := 14, ground := Ground.phase }, { on := 15, ground := Ground.phase }, { on := 16, ground := Ground.phase }, { on := 17, ground := Ground.phase }], guard := none }) (v := ?_) rfl (by kernel_rfl) (by kernel_rfl) (by kernel_rfl) (fun _ _ _ h => h) (by decide) hc (Or.inl ⟨by rfl, ?_⟩) (fun hx => absurd hx (by decide)) (fun hc2 => ?_)
                            rotate_left
                            · (intro w _; go_simp; try with_reducible rfl)
                            clear hc; have hc := hc2; clear hc2
                            try simp only [Act.put, List.setIfInBounds_toArray, List.set_cons_zero, List.set_cons_succ]
                            refine wpL_ready (rs := [19]) (by kernel_rfl) (by simp) ?_ hc
                            intro i hi hc2
                            simp only [List.mem_cons, List.mem_nil_iff, or_false] at hi
                            subst hi
                            clear hc; have hc := hc2; clear hc2
                            refine wpOp_step (o := { dst := none, op := Op.store 28 (Operand.tmp 231) (Operand.tmp 224), type := 0, pos := "law.go:277", after := #[{ on := 18, ground := Ground.data }, { on := 10, ground := Ground.data }, { on := 17, ground := Ground.chain }, { on := 0, ground := Ground.phase }, { on := 1, ground := Ground.phase }, { on := 2, ground := Ground.phase }, { on := 3, ground := Ground.phase }, { on := 4, ground := Ground.phase }, { on := 5, ground := Ground.phase }, { on := 6, ground := Ground.phase }, { on := 7, ground := Ground.phase }, { on := 8, ground := Ground.phase }, { on := 9, ground := Ground.phase }, { on := 10, ground := Ground.phase }, { on := 11, ground := Ground.textOnly Departure.lateStores }, { on := 12, ground := Ground.textOnly Departure.lateStores }, { on := 13, ground := Ground.textOnly Departure.lateStoresUnsure }, { on := 14, ground := Ground.phase }, { on := 15, ground := Ground.phase }, { on := 16, ground := Ground.phase }, { on := 17, ground := Ground.phase }], guard := none }) rfl (fun K hK => ?_)
                            have HK := hide hK
                            clear hK
                            go_simp
                            refine HK.out _ _ ⟨fun hx => absurd hx (by decide), ?_⟩
                            clear HK K
                            try simp only [Act.put, List.setIfInBounds_toArray, List.set_cons_zero, List.set_cons_succ]
                            as_aux_lemma =>
                              refine wpL_pure (i := 20) (oi := { dst := some 232, op := Op.fieldAddr 30 (Operand.tmp 17) 4, type := 0, pos := "law.go:277", after := #[{ on := 0, ground := Ground.phase }, { on := 1, ground := Ground.phase }, { on := 2, ground := Ground.phase }, { on := 3, ground := Ground.phase }, { on := 4, ground := Ground.phase }, { on := 5, ground := Ground.phase }, { on := 6, ground := Ground.phase }, { on := 7, ground := Ground.phase }, { on := 8, ground := Ground.phase }, { on := 9, ground := Ground.phase }, { on := 10, ground := Ground.phase }, { on := 11, ground := Ground.phase }, { on := 12, ground := Ground.phase }, { on := 13, ground := Ground.phase }, { on := 14, ground := Ground.phase }, { on := 15, ground := Ground.phase }, { on := 16, ground := Ground.phase }, { on := 17, ground := Ground.phase }, { on := 18, ground := Ground.phase }, { on := 19, ground := Ground.phase }], guard := none }) (v := ?_) rfl (by kernel_rfl) (by kernel_rfl) (by kernel_rfl) (fun _ _ _ h => h) (by decide) hc (Or.inl ⟨by rfl, ?_⟩) (fun hx => absurd hx (by decide)) (fun hc2 => ?_)
                              rotate_left
                              · (intro w _; go_simp; try with_reducible rfl)
                              clear hc; have hc := hc2; clear hc2
                              try simp only [Act.put, List.setIfInBounds_toArray, List.set_cons_zero, List.set_cons_succ]
                              refine wpL_ready (rs := [21]) (by kernel_rfl) (by simp) ?_ hc
                              intro i hi hc2
                              simp only [List.mem_cons, List.mem_nil_iff, or_false] at hi
                              subst hi
                              clear hc; have hc := hc2; clear hc2
                              refine wpOp_step (o := { dst := none, op := Op.store 28 (Operand.tmp 232) (Operand.tmp 228), type := 0, pos := "law.go:277", after := #[{ on := 20, ground := Ground.data }, { on := 14, ground := Ground.data }, { on := 19, ground := Ground.chain }, { on := 0, ground := Ground.phase }, { on := 1, ground := Ground.phase }, { on := 2, ground := Ground.phase }, { on := 3, ground := Ground.phase }, { on := 4, ground := Ground.phase }, { on := 5, ground := Ground.phase }, { on := 6, ground := Ground.phase }, { on := 7, ground := Ground.phase }, { on := 8, ground := Ground.phase }, { on := 9, ground := Ground.phase }, { on := 10, ground := Ground.phase }, { on := 11, ground := Ground.phase }, { on := 12, ground := Ground.phase }, { on := 13, ground := Ground.phase }, { on := 14, ground := Ground.phase }, { on := 15, ground := Ground.phase }, { on := 16, ground := Ground.phase }, { on := 17, ground := Ground.phase }, { on := 18, ground := Ground.phase }, { on := 19, ground := Ground.phase }], guard := none }) rfl (fun K hK => ?_)
                              have HK := hide hK
                              clear hK
                              go_simp
                              refine HK.out _ _ ⟨fun hx => absurd hx (by decide), ?_⟩
                              clear HK K
                              try simp only [Act.put, List.setIfInBounds_toArray, List.set_cons_zero, List.set_cons_succ]
                              refine wpL_done (by kernel_rfl) ?_
                              have hfin := R25.fin HA.out h6 (.slice (some ⟨g6, 0, none⟩) 3 d6)
                              clear h6 hc
                              go_wp2_with fail
                              go_meet
                              case rel => exact ⟨_, _, _, _, hfin⟩
            · clear hc; have hc := hc2; clear hc2
              refine wpOp_step (o := { dst := some 223, op := Op.buildSlice 28 1 #[(0, Operand.const (Value.int IntKind.i64 2))], type := 28, pos := "law.go:277", after := #[], guard := none }) rfl (fun K hK => ?_)
              have HK := hide hK
              clear hK
              go_simp
              have h2 := R25.alloc2 HA.out h1
              refine HK.out _ _ ⟨fun _ => R25.T h2, ?_⟩
              clear HK K h1
              try simp only [Act.put, List.setIfInBounds_toArray, List.set_cons_zero, List.set_cons_succ]
              generalize X1.alloc (celO 2) = X2 at h2 ⊢
              generalize X1.heap.size = n2 at h2 ⊢
              as_aux_lemma =>
                refine wpL_ready (rs := [5]) (by kernel_rfl) (by simp) ?_ hc
                intro i hi hc2
                simp only [List.mem_cons, List.mem_nil_iff, or_false] at hi
                subst hi
                clear hc; have hc := hc2; clear hc2
                refine wpOp_step (o := { dst := some 219, op := Op.buildSlice 28 1 #[(0, Operand.const (Value.int IntKind.i64 1))], type := 28, pos := "law.go:277", after := #[], guard := none }) rfl (fun K hK => ?_)
                have HK := hide hK
                clear hK
                go_simp
                have h3 := R25.alloc1 HA.out h2
                refine HK.out _ _ ⟨fun _ => R25.T h3, ?_⟩
                clear HK K h2
                try simp only [Act.put, List.setIfInBounds_toArray, List.set_cons_zero, List.set_cons_succ]
                generalize X2.alloc (celO 1) = X3 at h3 ⊢
                generalize X2.heap.size = n3 at h3 ⊢
                as_aux_lemma =>
                  refine wpL_ready (rs := [6]) (by kernel_rfl) (by simp) ?_ hc
                  intro i hi hc2
                  simp only [List.mem_cons, List.mem_nil_iff, or_false] at hi
                  subst hi
                  clear hc; have hc := hc2; clear hc2
                  refine wpOp_step (o := { dst := some 220, op := Op.call { callee := Callee.builtin Builtin.append, args := #[Operand.tmp 218, Operand.tmp 219], argTypes := #[28, 28] }, type := 28, pos := "law.go:277", after := #[{ on := 4, ground := Ground.data }, { on := 5, ground := Ground.data }], guard := none }) rfl (fun K hK => ?_)
                  have HK := hide hK
                  clear hK
                  refine step_app1 HA.out h3 rfl _ _ rfl rfl rfl ?_
                  intro g4 d4 X4 h4
                  refine HK.out _ _ ⟨fun _ => R25.T h4, ?_⟩
                  clear HK K h3
                  try simp only [Act.put, List.setIfInBounds_toArray, List.set_cons_zero, List.set_cons_succ]
                  as_aux_lemma =>
                    refine wpL_ready (rs := [10]) (by kernel_rfl) (by simp) ?_ hc
                    intro i hi hc2
                    simp only [List.mem_cons, List.mem_nil_iff, or_false] at hi
                    subst hi
                    clear hc; have hc := hc2; clear hc2
                    refine wpOp_step (o := { dst := some 224, op := Op.call { callee := Callee.builtin Builtin.append, args := #[Operand.tmp 222, Operand.tmp 223], argTypes := #[28, 28] }, type := 28, pos := "law.go:277", after := #[{ on := 8, ground := Ground.data }, { on := 9, ground := Ground.data }, { on := 6, ground := Ground.chain }], guard := none }) rfl (fun K hK => ?_)
                    have HK := hide hK
                    clear hK
                    refine step_app2 HA.out h4 rfl _ _ rfl rfl rfl ?_
                    intro g5 d5 X5 h5
                    refine HK.out _ _ ⟨fun _ => R25.T h5, ?_⟩
                    clear HK K h4
                    try simp only [Act.put, List.setIfInBounds_toArray, List.set_cons_zero, List.set_cons_succ]
                    as_aux_lemma =>
                      refine wpL_ready (rs := [14]) (by kernel_rfl) (by simp) ?_ hc
                      intro i hi hc2
                      simp only [List.mem_cons, List.mem_nil_iff, or_false] at hi
                      subst hi
                      clear hc; have hc := hc2; clear hc2
                      refine wpOp_step (o := { dst := some 228, op := Op.call { callee := Callee.builtin Builtin.append, args := #[Operand.tmp 226, Operand.tmp 227], argTypes := #[28, 28] }, type := 28, pos := "law.go:277", after := #[{ on := 12, ground := Ground.data }, { on := 13, ground := Ground.data }, { on := 10, ground := Ground.chain }], guard := none }) rfl (fun K hK => ?_)
                      have HK := hide hK
                      clear hK
                      refine step_app3 HA.out h5 rfl _ _ rfl rfl rfl ?_
                      intro g6 d6 X6 h6
                      refine HK.out _ _ ⟨fun _ => R25.T h6, ?_⟩
                      clear HK K h5
                      try simp only [Act.put, List.setIfInBounds_toArray, List.set_cons_zero, List.set_cons_succ]
                      as_aux_lemma =>
                        refine wpL_pure (i := 15) (oi := { dst := some 229, op := Op.indexAddr 33 (Operand.tmp 214) (Operand.const (Value.int IntKind.i64 0)), type := 0, pos := "law.go:277", after := #[{ on := 0, ground := Ground.data }, { on := 0, ground := Ground.phase }, { on := 1, ground := Ground.phase }, { on := 2, ground := Ground.phase }, { on := 3, ground := Ground.phase }, { on := 4, ground := Ground.phase }, { on := 5, ground := Ground.phase }, { on := 6, ground := Ground.phase }, { on := 7, ground := Ground.textOnly Departure.lateStores }, { on := 8, ground := Ground.textOnly Departure.lateStores }, { on := 9, ground := Ground.textOnly Departure.lateStoresUnsure }, { on := 10, ground := Ground.phase }, { on := 11, ground := Ground.textOnly Departure.lateStores }, { on := 12, ground := Ground.textOnly Departure.lateStores }, { on := 13, ground := Ground.textOnly Departure.lateStoresUnsure }, { on := 14, ground := Ground.phase }], guard := none }) (v := ?_) rfl (by kernel_rfl) (by kernel_rfl) (by kernel_rfl) (fun _ _ _ h => h) (by decide) hc (Or.inl ⟨by rfl, ?_⟩) (fun _ => R25.T h6) (fun hc2 => ?_)
                        rotate_left
                        · (intro w _; go_simp; try with_reducible rfl)
                        clear hc; have hc := hc2; clear hc2
                        try simp only [Act.put, List.setIfInBounds_toArray, List.set_cons_zero, List.set_cons_succ]
                        refine wpL_pure (i := 16) (oi := { dst := some 230, op := Op.fieldAddr 30 (Operand.tmp 229) 4, type := 0, pos := "law.go:277", after := #[{ on := 15, ground := Ground.data }, { on := 0, ground := Ground.phase }, { on := 1, ground := Ground.phase }, { on := 2, ground := Ground.phase }, { on := 3, ground := Ground.phase }, { on := 4, ground := Ground.phase }, { on := 5, ground := Ground.phase }, { on := 6, ground := Ground.phase }, { on := 7, ground := Ground.textOnly Departure.lateStores }, { on := 8, ground := Ground.textOnly Departure.lateStores }, { on := 9, ground := Ground.textOnly Departure.lateStoresUnsure }, { on := 10, ground := Ground.phase }, { on := 11, ground := Ground.textOnly Departure.lateStores }, { on := 12, ground := Ground.textOnly Departure.lateStores }, { on := 13, ground := Ground.textOnly Departure.lateStoresUnsure }, { on := 14, ground := Ground.phase }], guard := none }) (v := ?_) rfl (by kernel_rfl) (by kernel_rfl) (by kernel_rfl) (fun _ _ _ h => h) (by decide) hc (Or.inl ⟨by rfl, ?_⟩) (fun _ => R25.T h6) (fun hc2 => ?_)
                        rotate_left
                        · (intro w _; go_simp; try with_reducible rfl)
                        clear hc; have hc := hc2; clear hc2
                        try simp only [Act.put, List.setIfInBounds_toArray, List.set_cons_zero, List.set_cons_succ]
                        refine wpL_ready (rs := [17]) (by kernel_rfl) (by simp) ?_ hc
                        intro i hi hc2
                        simp only [List.mem_cons, List.mem_nil_iff, or_false] at hi
                        subst hi
                        clear hc; have hc := hc2; clear hc2
                        refine wpOp_step (o := { dst := none, op := Op.store 28 (Operand.tmp 230) (Operand.tmp 220), type := 0, pos := "law.go:277", after := #[{ on := 16, ground := Ground.data }, { on := 6, ground := Ground.data }, { on := 14, ground := Ground.chain }, { on := 0, ground := Ground.phase }, { on := 1, ground := Ground.phase }, { on := 2, ground := Ground.phase }, { on := 3, ground := Ground.phase }, { on := 4, ground := Ground.phase }, { on := 5, ground := Ground.phase }, { on := 6, ground := Ground.phase }, { on := 7, ground := Ground.textOnly Departure.lateStores }, { on := 8, ground := Ground.textOnly Departure.lateStores }, { on := 9, ground := Ground.textOnly Departure.lateStoresUnsure }, { on := 10, ground := Ground.phase }, { on := 11, ground := Ground.textOnly Departure.lateStores }, { on := 12, ground := Ground.textOnly Departure.lateStores }, { on := 13, ground := Ground.textOnly Departure.lateStoresUnsure }, { on := 14, ground := Ground.phase }], guard := none }) rfl (fun K hK => ?_)
                        have HK := hide hK
                        clear hK
                        have hT := R25.T h6
                        have hF1 : X6.frozen? ⟨pb, 4, none⟩ = false := World.ownsRow.frozenAt (R25.rst h6).p 4
                        have hF2 : X6.frozen? ⟨xb, 4, none⟩ = false := blk_free (R25.rst h6).x 4
                        have hF3 : X6.frozen? ⟨yb, 4, none⟩ = false := blk_free (R25.rst h6).y 4
                        obtain ⟨hT1, hT2, hT3⟩ := hT
                        have hq := HA.out.pxy.2.1
                        dsimp only at hT1 hT2 hT3 hq
                        obtain ⟨hq1, hq2, hq3⟩ := hq
                        have hq4 := Ne.symm hq1
                        have hq5 := Ne.symm hq2
                        have hq6 := Ne.symm hq3
                        go_simp
                        refine HK.out _ _ ⟨fun hx => absurd hx (by decide), ?_⟩
                        clear HK K
                        try simp only [Act.put, List.setIfInBounds_toArray, List.set_cons_zero, List.set_cons_succ]
                        as_aux_lemma =>
                          refine wpL_pure (i := 18) (oi := { dst := some 231, op := Op.fieldAddr 30 (Operand.tmp 15) 4, type := 0, pos := "law.go:277", after := #[{ on := 0, ground := Ground.phase }, { on := 1, ground := Ground.phase }, { on := 2, ground := Ground.phase }, { on := 3, ground := Ground.phase }, { on := 4, ground := Ground.phase }, { on := 5, ground := Ground.phase }, { on := 6, ground := Ground.phase }, { on := 7, ground := Ground.phase }, { on := 8, ground := Ground.phase }, { on := 9, ground := Ground.phase }, { on := 10, ground := Ground.phase }, { on := 11, ground := Ground.textOnly Departure.lateStores }, { on := 12, ground := Ground.textOnly Departure.lateStores }, { on := 13, ground := Ground.textOnly Departure.lateStoresUnsure }, { on := 14, ground := Ground.phase }, { on := 15, ground := Ground.phase }, { on := 16, ground := Ground.phase }, { on := 17, ground := Ground.phase }], guard := none }) (v := ?_) rfl (by kernel_rfl) (by kernel_rfl) (by kernel_rfl) (fun _ _ _ h => h) (by decide) hc (Or.inl ⟨by rfl, ?_⟩) (fun hx => absurd hx (by decide)) (fun hc2 => ?_)
                          rotate_left
                          · (intro w _; go_simp; try with_reducible rfl)
                          clear hc; have hc := hc2; clear hc2
                          try simp only [Act.put, List.setIfInBounds_toArray, List.set_cons_zero, List.set_cons_succ]
                          refine wpL_ready (rs := [19]) (by kernel_rfl) (by simp) ?_ hc
                          intro i hi hc2
                          simp only [List.mem_cons, List.mem_nil_iff, or_false] at hi
                          subst hi
                          clear hc; have hc := hc2; clear hc2
                          refine wpOp_step (o := { dst := none, op := Op.store 28 (Operand.tmp 231) (Operand.tmp 224), type := 0, pos := "law.go:277", after := #[{ on := 18, ground := Ground.data }, { on := 10, ground := Ground.data }, { on := 17, ground := Ground.chain }, { on := 0, ground := Ground.phase }, { on := 1, ground := Ground.phase }, { on := 2, ground := Ground.phase }, { on := 3, ground := Ground.phase }, { on := 4, ground := Ground.phase }, { on := 5, ground := Ground.phase }, { on := 6, ground := Ground.phase }, { on := 7, ground := Ground.phase }, { on := 8, ground := Ground.phase }, { on := 9, ground := Ground.phase }, { on := 10, ground := Ground.phase }, { on := 11, ground := Ground.textOnly Departure.lateStores }, { on := 12, ground := Ground.textOnly Departure.lateStores }, { on := 13, ground := Ground.textOnly Departure.lateStoresUnsure }, { on := 14, ground := Ground.phase }, { on := 15, ground := Ground.phase }, { on := 16, ground := Ground.phase }, { on := 17, ground := Ground.phase }], guard := none }) rfl (fun K hK => ?_)
                          have HK := hide hK
                          clear hK
                          go_simp
                          refine HK.out _ _ ⟨fun hx => absurd hx (by decide), ?_⟩
                          clear HK K
                          try simp only [Act.put, List.setIfInBounds_toArray, List.set_cons_zero, List.set_cons_succ]
                          as_aux_lemma =>
                            refine wpL_pure (i := 20) (oi := { dst := some 232, op := Op.fieldAddr 30 (Operand.tmp 17) 4, type := 0, pos := "law.go:277", after := #[{ on := 0, ground := Ground.phase }, { on := 1, ground := Ground.phase }, { on := 2, ground := Ground.phase }, { on := 3, ground := Ground.phase }, { on := 4, ground := Ground.phase }, { on := 5, ground := Ground.phase }, { on := 6, ground := Ground.phase }, { on := 7, ground := Ground.phase }, { on := 8, ground := Ground.phase }, { on := 9, ground := Ground.phase }, { on := 10, ground := Ground.phase }, { on := 11, ground := Ground.phase }, { on := 12, ground := Ground.phase }, { on := 13, ground := Ground.phase }, { on := 14, ground := Ground.phase }, { on := 15, ground := Ground.phase }, { on := 16, ground := Ground.phase }, { on := 17, ground := Ground.phase }, { on := 18, ground := Ground.phase }, { on := 19, ground := Ground.phase }], guard := none }) (v := ?_) rfl (by kernel_rfl) (by kernel_rfl) (by kernel_rfl) (fun _ _ _ h => h) (by decide) hc (Or.inl ⟨by rfl, ?_⟩) (fun hx => absurd hx (by decide)) (fun hc2 => ?_)
                            rotate_left
                            · (intro w _; go_simp; try with_reducible rfl)
                            clear hc; have hc := hc2; clear hc2
                            try simp only [Act.put, List.setIfInBounds_toArray, List.set_cons_zero, List.set_cons_succ]
                            refine wpL_ready (rs := [21]) (by kernel_rfl) (by simp) ?_ hc
                            intro i hi hc2
                            simp only [List.mem_cons, List.mem_nil_iff, or_false] at hi
                            subst hi
                            clear hc; have hc := hc2; clear hc2
                            refine wpOp_step (o := { dst := none, op := Op.store 28 (Operand.tmp 232) (Operand.tmp 228), type := 0, pos := "law.go:277", after := #[{ on := 20, ground := Ground.data }, { on := 14, ground := Ground.data }, { on := 19, ground := Ground.chain }, { on := 0, ground := Ground.phase }, { on := 1, ground := Ground.phase }, { on := 2, ground := Ground.phase }, { on := 3, ground := Ground.phase }, { on := 4, ground := Ground.phase }, { on := 5, ground := Ground.phase }, { on := 6, ground := Ground.phase }, { on := 7, ground := Ground.phase }, { on := 8, ground := Ground.phase }, { on := 9, ground := Ground.phase }, { on := 10, ground := Ground.phase }, { on := 11, ground := Ground.phase }, { on := 12, ground := Ground.phase }, { on := 13, ground := Ground.phase }, { on := 14, ground := Ground.phase }, { on := 15, ground := Ground.phase }, { on := 16, ground := Ground.phase }, { on := 17, ground := Ground.phase }, { on := 18, ground := Ground.phase }, { on := 19, ground := Ground.phase }], guard := none }) rfl (fun K hK => ?_)
                            have HK := hide hK
                            clear hK
                            go_simp
                            refine HK.out _ _ ⟨fun hx => absurd hx (by decide), ?_⟩
                            clear HK K
                            try simp only [Act.put, List.setIfInBounds_toArray, List.set_cons_zero, List.set_cons_succ]
                            refine wpL_done (by kernel_rfl) ?_
                            have hfin := R25.fin HA.out h6 (.slice (some ⟨g6, 0, none⟩) 3 d6)
                            clear h6 hc
                            go_wp2_with fail
                            go_meet
                            case rel => exact ⟨_, _, _, _, hfin⟩
        --END25
      case rest =>
       as_aux_lemma =>
        obtain ⟨g1, d1, g2, d2, hE⟩ := hcut
        have P1 := World.ownsRow.cellAt hE.p 1 (by decide)
        have F1 := World.ownsRow.frozenAt hE.p 1
        have HE := hide hE
        clear hE HST2
        dsimp only at P1 F1
        go_wp2_with fail
        have hE := HE.out
        have m1 : Mod [pb] wc (wc.setCell ⟨pb, 1, none⟩ (.int .i64 9)) := (Mod.refl _ wc).setCell (fun _ => by simp) _
        have p1 := (World.ownsRow.stored hE.p 1 (.int .i64 9)).1
        have hpx := HA.out.pxy
        have hn := HA.out.n
        simp only [List.nodup_cons, List.mem_cons, not_or] at hn
        have hoff := hE.off
        dsimp only at hpx hoff
        have s1 := hE.hs.put m1 (fun k hk => HA.out.old k (by simp at hk; simp [hk]))
        have q1 := row_far hE.q m1 (by simpa using Ne.symm hpx.2.2.1)
        have t1 := hE.qs.mod m1 (fun x hx => by rw [ob_sl hx]; simpa using Ne.symm hpx.2.2.2.1)
        have x1 := m1.at_ hE.x (by simpa using Ne.symm hpx.2.1.1)
        have ps1 := hE.ps.mod m1 (fun x hx => by rw [ob_sl hx]; simpa using hoff.1)
        have xs1 := hE.xs.mod m1 (fun x hx => by rw [ob_sl hx]; simpa using hoff.2)
        dsimp only at s1 p1 q1 t1 x1 ps1 xs1
        clear hE HE P1 F1 hn hoff hpx
        generalize wc.setCell ⟨pb, 1, none⟩ (.int .i64 9) = z1 at m1 s1 p1 q1 t1 x1 ps1 xs1 ⊢
        refine (get_one s1.hd 0 1 i64_0 i64_1 ow3).mono ?_
        rintro en z2 ⟨gz, cz, rfl, hz2, ltz, hmz⟩
        have g3 := (Gr.refl z2).alloc (objL 0 1 { data := #[97] } 2 (.slice (some ⟨gz, 0, none⟩) 2 cz) 30 1 31 false)
        have m3 := hmz.gr g3
        have b3 := heap_alloc_new z2 (objL 0 1 { data := #[97] } 2 (.slice (some ⟨gz, 0, none⟩) 2 cz) 30 1 31 false)
        have q3 := m3.row q1 (by simp)
        have t3 := t1.mod m3 (by simp)
        have p3 := m3.row p1 (by simp)
        have x3 := m3.at_ x1 (by simp)
        have ps3 := ps1.mod m3 (by simp)
        have xs3 := xs1.mod m3 (by simp)
        have z3 := hz2.gr g3
        have HF := hide (HW.out.then (s1.mod.then m3))
        have Z4 := blk_cell b3 4
        have Q1 := World.ownsRow.cellAt q3 1 (by decide)
        have Q4 := World.ownsRow.cellAt q3 4 (by decide)
        have T0 := t3.at0
        have T1 := t3.at1
        have Z0 := z3.at0
        have Z1 := z3.at1
        have P4 := World.ownsRow.cellAt p3 4 (by decide)
        have X4 := blk_cell x3 4
        have S0 := World.ownsRow.cellAt ps3 0 (by decide)
        have U0 := World.ownsRow.cellAt xs3 0 (by decide)
        clear m1 s1 p1 q1 t1 x1 ps1 xs1 hz2 ltz hmz g3 m3 b3 q3 t3 p3 x3 ps3 xs3 z3 HA HW
        simp only [List.getElem?_cons_zero, List.getElem?_cons_succ, List.set_cons_zero, List.set_cons_succ, List.map_cons] at Q1 Q4 P4 S0 U0
        go_wp2_with fail
        go_ret
        exact ⟨rfl, HF.out⟩
end Go.Proofs.Ytifllaeldcimgaa
