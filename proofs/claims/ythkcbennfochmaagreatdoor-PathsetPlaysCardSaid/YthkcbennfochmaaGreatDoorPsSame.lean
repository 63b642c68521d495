/-
  WALKS: layer 5: entries that are compared; the document's SameInts and Same.
-/
import Derived.Test.YthkcbennfochmaaGreatDoorPsClash
import Derived.Test.YthkcbennfochmaaGreatDoorInts
import Derived.BigQuiet
import Derived.IntWalk
import Derived.StillTailTactics
namespace Go.Proofs.YthkcbennfochmaaGreatDoor
open Go.RowKit Go.Maps Go.WideShapes

/-- two results, the first a struct in a block of its own -/
theorem res_cell2 {P : Program} {fn : Func} {p u : Tmp} {ty : TypeId} (h : fn.results = #[.cell p ty, .tmp u]) (tmps : Array Value) (w : World) {r : Nat} {cs : Array Value} {T : TypeId} (hp : tmps.getD p undef = .pointer (some ⟨r, 0, none⟩))
    (hb : w.heap[r]? = some (.cells cs T (0, 0))) (aE : ∀ w, (isAgg ty).run P w = .ok true w) (zE : ∀ w, (Go.sizeOf ty).run P w = .ok cs.size w) {e : Value} (he : e = .tuple #[.agg cs, tmps.getD u undef]) : (results fn tmps).run P w = .ok e w := by
  subst he
  rw [results_cell_tmp h, hp]
  have e1 : (asAddr (.pointer (some ⟨r, 0, none⟩))).run P w = .ok ⟨r, 0, none⟩ w := rfl
  rw [e1]
  have e2 : (loadVar ty ⟨r, 0, none⟩).run P w = .ok (.agg cs) w := by
    have e3 := run_loadCells_list (P := P) (w := w) ⟨r, 0, none⟩ cs.toList (fun i v hi => by
      rw [Addr.add_lit, Nat.zero_add, blk_cell hb]; simpa using hi)
    rw [Array.length_toList] at e3
    unfold loadVar
    simp only [Sem.run_bind, aE, Result.andThen, if_true, zE]
    simp [e3]
  simp only [Result.andThen]
  rw [e2]
/-- a new row of ints reads as its list -/
theorem RdN.of_row {w : World} {base : Nat} {T : TypeId} {v : Value} {m : List Int} (h : w.ownsRow base T 1 v m.length (m.map (Value.int .i64))) : RdN w v m := by
  rcases h.2 with ⟨rfl, hn⟩ | ⟨g, cap, cur, rfl, _, hg, hh1, hh2, _⟩
  · exact ⟨by omega, .inl ⟨none, 0, rfl, List.length_eq_zero_iff.1 hn⟩⟩
  · refine ⟨by omega, .inr ⟨g, 0, cap, rfl, lt_of_block hg, fun i hi => ?_⟩⟩
    rw [Nat.zero_add, h.cellAt _ (by omega)]
    simp [hi]
def SameRelN (w : World) (a b : List Int) (i : Value) (wr : World) : Prop := ∃ k : Nat, k ≤ a.length ∧ i = .int .i64 k ∧ (∀ j, j < k → a.getD j 0 = b.getD j 0) ∧ Gr w wr
theorem ext_getD {a b : List Int} (hl : a.length = b.length) (h : ∀ j, j < a.length → a.getD j 0 = b.getD j 0) : a = b := by
  refine List.ext_getElem hl fun j h1 h2 => ?_
  have := h j h1
  simpa [h1, h2] using this
set_option maxHeartbeats 1000000 in
set_option maxRecDepth 100000 in
theorem sameInts_any {w : World} {u v : Value} {a b : List Int} (hu : RdN w u a) (hv : RdN w v b) :
    Calls Tryz.prog 12 #[u, v] w fun e w' => e = .returned (.bool (decide (a = b))) ∧ Gr w w' := by
  have h1 : a.length ≤ 9223372036854775807 := hu.1
  have h2 : b.length ≤ 9223372036854775807 := hv.1
  obtain ⟨p, c, rfl⟩ := hu.len
  obtain ⟨q, d, rfl⟩ := hv.len
  go_enter Tryz.func12, Tryz.ntmps12
  by_cases hl : a.length = b.length
  · have HL := hide hl
    have b0 : ((a.length : Int) != (b.length : Int)) = false := by simp; omega
    clear hl
    go_wp2_with fail
    go_loopw [5] (fun i wr => SameRelN w a b i wr) (fun i _ => a.length - (intOf i).toNat)
    case atStart => exact ⟨0, Nat.zero_le _, rfl, by simp, Gr.refl _⟩
    case round =>
      obtain ⟨k, hk, rfl, hd, hg⟩ := hrel
      have HD := hide hd
      clear hd
      by_cases hlt : k < a.length
      · obtain ⟨b1, o1, rfl, hb1, c1⟩ := (hu.gr hg).at_ k hlt
        obtain ⟨b2, o2, rfl, hb2, c2⟩ := (hv.gr hg).at_ k (by rw [← HL.out]; exact hlt)
        generalize hx : a.getD k 0 = x at c1
        generalize hy : b.getD k 0 = y at c2
        have HX := hide hx
        have HY := hide hy
        clear hx hy
        have i1 : (0 : Int) ≤ (k : Int) := by omega
        have i2 : (k : Int) < (a.length : Int) := by omega
        have i3 : (k : Int) < (b.length : Int) := by rw [← HL.out]; omega
        by_cases he : x = y
        · subst he
          go_wp2_with fail
          go_quiet (fail)
          go_wp2_with fail
          go_roundw
          case rel => exact ⟨k + 1, by omega, by go_num, fun j hj => by
            by_cases e : j = k
            · subst e; rw [HX.out, HY.out]
            · exact HD.out j (by omega), hg.drewN _⟩
          case measure => simp [intOf]; omega
        · have hne : (x != y) = true := by simpa using he
          have HE := hide he
          clear he
          go_wp2_with fail
          go_quiet (fail)
          go_wp2_with fail
          go_ret
          exact ⟨by rw [decide_eq_false (fun e => HE.out (by rw [← HX.out, ← HY.out, e]))]; rfl, hg.drewN _⟩
      · clear hu hv
        go_wp2_with fail
        go_ret
        exact ⟨by rw [decide_eq_true (ext_getD HL.out (fun j hj => HD.out j (by omega)))]; rfl, hg⟩
  · have b0 : ((a.length : Int) != (b.length : Int)) = true := by simp; omega
    have HL := hide hl
    clear hl
    go_wp2_with fail
    go_ret
    exact ⟨by rw [decide_eq_false (fun e => HL.out (by rw [e]))]; rfl, Gr.refl _⟩
/-! ### entries compared -/
theorem guard_ent : Tryz.prog.eqGuardType Tryz.prog.depth 29 = false := by kernel_rfl
def eqE (x y : Ent) : Bool := x.id == y.id && (decide (x.path = y.path) && (x.mode == y.mode && x.who == y.who))
theorem path_iff (a b : ByteArray) : a.toList = b.toList ↔ a = b := ⟨fun h => by rw [ByteArray.toList_eq, ByteArray.toList_eq] at h; exact bytes_inj h, fun h => by rw [h]⟩
theorem eqE_iff (x y : Ent) : eqE x y = true ↔ x = y := by
  obtain ⟨a, b, c, d⟩ := x
  obtain ⟨a', b', c', d'⟩ := y
  simp [eqE]
theorem equalIn_ent (x y : Ent) (w : World) : (Op.equalIn 10000 29 (.agg #[.int .i64 x.id, .string x.path, .int .i64 x.mode, .int .i64 x.who]) (.agg #[.int .i64 y.id, .string y.path, .int .i64 y.mode, .int .i64 y.who])).run Tryz.prog w = .ok (eqE x y) w := by
  have u3 := Tryz.underlying3
  have a3 := Tryz.isAgg3
  have z3 := Tryz.sizeOf3
  have u4 := Tryz.underlying27
  have a4 := Tryz.isAgg27
  have z4 := Tryz.sizeOf27
  have u5 := Tryz.underlying9
  have a5 := Tryz.isAgg9
  have z5 := Tryz.sizeOf9
  have hS : Tryz.prog.underlying 29 = some (.struct (Tryz.prog.fieldsOf 29)) := by kernel_rfl
  have hp : Tryz.prog.stoodInHeld 29 = false := by kernel_rfl
  rw [show (10000 : Nat) = 9999 + 1 from rfl, run_equalIn_agg w 9999 29 _ _ hS hp]
  simp only [Program.fieldsOf, Tryz.underlying29]
  go_simp
  by_cases h1 : x.id = y.id <;> by_cases h2 : x.path = y.path <;> by_cases h3 : x.mode = y.mode <;> by_cases h4 : x.who = y.who <;> simp [eqE, path_iff, h1, h2, h3, h4]
theorem neq_ent (x y : Ent) (w : World) : (binOp .neq 29 (.agg #[.int .i64 x.id, .string x.path, .int .i64 x.mode, .int .i64 x.who]) (.agg #[.int .i64 y.id, .string y.path, .int .i64 y.mode, .int .i64 y.who])).run Tryz.prog w = .ok (.bool (!eqE x y)) w := by
  rw [run_neq_struct, equalIn_ent]; rfl
theorem eql_ent (x y : Ent) (w : World) : (binOp .eql 29 (.agg #[.int .i64 x.id, .string x.path, .int .i64 x.mode, .int .i64 x.who]) (.agg #[.int .i64 y.id, .string y.path, .int .i64 y.mode, .int .i64 y.who])).run Tryz.prog w = .ok (.bool (eqE x y)) w := by
  rw [run_eql_struct, equalIn_ent]; rfl
/-- a slice that reads as a list of entries -/
def RdE (w : World) (v : Value) (m : List Ent) : Prop :=
  m.length ≤ maxLen ∧ ((∃ p c, v = .slice p 0 c ∧ m = []) ∨ ∃ b off cap, v = .slice (some ⟨b, off, none⟩) m.length cap ∧ b < w.heap.size ∧
    ∀ i, i < m.length → w.cell? ⟨b, off + i * 4, none⟩ = some (.int .i64 (m.getD i default).id) ∧ w.cell? ⟨b, off + i * 4 + 1, none⟩ = some (.string (m.getD i default).path) ∧ w.cell? ⟨b, off + i * 4 + 2, none⟩ = some (.int .i64 (m.getD i default).mode) ∧ w.cell? ⟨b, off + i * 4 + 3, none⟩ = some (.int .i64 (m.getD i default).who))
theorem RdE.mod {w w' : World} {v : Value} {m : List Ent} (h : RdE w v m) {S : List Nat} (k : Mod S w w') (h1 : ∀ x, x ∈ obl v → x ∉ S) : RdE w' v m := by
  refine ⟨h.1, h.2.imp id ?_⟩
  rintro ⟨b, off, cap, rfl, hb, hc⟩
  have hs : b ∉ S := h1 b (by simp [obl, Value.ownBlock])
  exact ⟨b, off, cap, rfl, Nat.lt_of_lt_of_le hb k.size, fun i hi => ⟨k.kept (hc i hi).1 hs, k.kept (hc i hi).2.1 hs, k.kept (hc i hi).2.2.1 hs, k.kept (hc i hi).2.2.2 hs⟩⟩
theorem RdE.gr {w w' : World} {v : Value} {m : List Ent} (h : RdE w v m) (g : Gr w w') : RdE w' v m := h.mod (g.mod []) (by simp)
theorem RdE.same {w w' : World} {v : Value} {m : List Ent} (h : RdE w v m) (k : Mod [] w w') : RdE w' v m := h.mod k (by simp)
theorem RdE.len {w : World} {v : Value} {m : List Ent} (h : RdE w v m) : ∃ p c, v = .slice p m.length c := by
  rcases h.2 with ⟨p, c, rfl, rfl⟩ | ⟨b, off, cap, rfl, _⟩
  · exact ⟨p, c, rfl⟩
  · exact ⟨_, cap, rfl⟩
theorem RdE.at_ {w : World} {p : Option Addr} {n c : Nat} {m : List Ent} (h : RdE w (.slice p n c) m) {i : Nat} (hi : i < m.length) : ∃ b off, p = some ⟨b, off, none⟩ ∧ b < w.heap.size ∧
    w.cell? ⟨b, off + i * 4, none⟩ = some (.int .i64 (m.getD i default).id) ∧ w.cell? ⟨b, off + i * 4 + 1, none⟩ = some (.string (m.getD i default).path) ∧ w.cell? ⟨b, off + i * 4 + 2, none⟩ = some (.int .i64 (m.getD i default).mode) ∧ w.cell? ⟨b, off + i * 4 + 3, none⟩ = some (.int .i64 (m.getD i default).who) := by
  rcases h.2 with ⟨_, c, _, rfl⟩ | ⟨b, off, cap, hv, hb, hc⟩
  · simp at hi
  · simp only [Value.slice.injEq] at hv
    exact ⟨b, off, hv.1, hb, hc i hi⟩
theorem RdE.of_row {w : World} {base : Nat} {v : Value} {m : List Ent} (h : RowE w base v m) : RdE w v m := by
  obtain ⟨q, c, rfl⟩ := h.form
  have h2 := h.2
  rcases h2 with ⟨hv, hn⟩ | ⟨g, cap, cur, hv, _, hg, hh1, hh2, _⟩
  · rw [List.length_eq_zero_iff.1 hn]
    exact ⟨by unfold maxLen; simp, .inl ⟨q, c, rfl, rfl⟩⟩
  · injection hv with e1 e2 e3
    subst e1 e3
    refine ⟨by omega, .inr ⟨g, 0, c, rfl, lt_of_block hg, fun i hi => ?_⟩⟩
    obtain ⟨g', e, -, -, c0, c1, c2, c3⟩ := h.at_ hi
    cases e
    rw [Nat.zero_add]
    exact ⟨c0, c1, c2, c3⟩
def RSameE (w : World) (l m : List Ent) (i : Value) (wr : World) : Prop := ∃ k : Nat, k ≤ l.length ∧ i = .int .i64 k ∧ (∀ j, j < k → l.getD j default = m.getD j default) ∧ Gr w wr
theorem extE {l m : List Ent} (hl : l.length = m.length) (h : ∀ j, j < l.length → l.getD j default = m.getD j default) : l = m :=
  List.ext_getElem hl fun i h1 h2 => by have := h i h1; simpa [h1, h2] using this
set_option maxHeartbeats 1000000 in
set_option maxRecDepth 100000 in
theorem same_any {w : World} {u v : Value} {l m : List Ent} (hu : RdE w u l) (hv : RdE w v m) :
    Calls Tryz.prog 8 #[u, v] w fun e w' => e = .returned (.bool (decide (l = m))) ∧ Gr w w' := by
  have hm : l.length ≤ 9223372036854775807 := hu.1
  obtain ⟨p, cap, rfl⟩ := hu.len
  obtain ⟨p2, cap2, rfl⟩ := hv.len
  have hgd := guard_ent
  by_cases hl : l.length = m.length
  · have b0 : ((l.length : Int) != (m.length : Int)) = false := by simp; omega
    have HL := hide hl
    clear hl
    go_enter Tryz.func8, Tryz.ntmps8
    go_wp2_with fail
    go_loopw [5] (fun i wr => RSameE w l m i wr) (fun i _ => l.length - (intOf i).toNat)
    case atStart => exact ⟨0, Nat.zero_le _, rfl, fun j hj => absurd hj (Nat.not_lt_zero _), Gr.refl _⟩
    case round =>
      obtain ⟨k, hk, rfl, heq, hg⟩ := hrel
      have HEQ := hide heq
      clear heq
      by_cases hlt : k < l.length
      · obtain ⟨b1, o1, rfl, hb1, c0, c1, c2, c3⟩ := (hu.gr hg).at_ hlt
        obtain ⟨b2, o2, rfl, hb2, d0, d1, d2, d3⟩ := (hv.gr hg).at_ (i := k) (by rw [← HL.out]; exact hlt)
        obtain ⟨x, hx⟩ : ∃ x, l.getD k default = x := ⟨_, rfl⟩
        obtain ⟨y, hy⟩ : ∃ y, m.getD k default = y := ⟨_, rfl⟩
        rw [hx] at c0 c1 c2 c3
        rw [hy] at d0 d1 d2 d3
        have HX := hide hx
        have HY := hide hy
        have i1 : (0 : Int) ≤ (k : Int) := by omega
        have i2 : (k : Int) < (l.length : Int) := by omega
        have i3 : (k : Int) < (m.length : Int) := by rw [← HL.out]; omega
        clear hx hy hu hv
        have hn := neq_ent x y
        by_cases he : eqE x y = true
        · rw [he] at hn
          have HE := hide ((eqE_iff _ _).1 he)
          clear he
          go_wp2_with fail
          go_quiet (fail)
          go_wp2_with fail
          go_roundw
          case rel => exact ⟨k + 1, by omega, by go_num, fun j hj => by
            by_cases e : j = k
            · subst e; rw [HX.out, HY.out]; exact HE.out
            · exact HEQ.out j (by omega), hg.drewN _⟩
          case measure => simp [intOf]; omega
        · have hne : ¬ x = y := fun e => he ((eqE_iff _ _).2 e)
          have he' : eqE x y = false := by simpa using he
          rw [he'] at hn
          have HE := hide hne
          clear hne he he'
          go_wp2_with fail
          go_quiet (fail)
          go_wp2_with fail
          go_ret
          exact ⟨by rw [decide_eq_false (fun e => HE.out (by rw [← HX.out, ← HY.out, e]))]; rfl, hg.drewN _⟩
      · clear hu hv
        go_wp2_with fail
        go_ret
        exact ⟨by rw [decide_eq_true (extE HL.out (fun j hj => HEQ.out j (by omega)))]; rfl, hg⟩
  · have b0 : ((l.length : Int) != (m.length : Int)) = true := by simp; omega
    have HL := hide hl
    clear hl
    go_enter Tryz.func8, Tryz.ntmps8
    go_wp2_with fail
    go_ret
    exact ⟨by rw [decide_eq_false (fun e => HL.out (by rw [e]))]; rfl, Gr.refl _⟩
end Go.Proofs.YthkcbennfochmaaGreatDoor
