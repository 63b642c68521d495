/-
  WALKS: the document's answer for the agenda: Same, Take.
-/
import Derived.Test.YtbaphdaipacihaaRefPut
import Derived.Shelf.SlicesE.Kit
namespace Go.Proofs.Ytbaphdaipacihaa
open Go.RowKit Go.Sort Go.Shelf

theorem guard_item : Try.prog.eqGuardType Try.prog.depth 29 = false := by kernel_rfl
def eqB (x1 x2 x3 y1 y2 y3 : Int) : Bool := x1 == y1 && (x2 == y2 && x3 == y3)
theorem eqB_iff (x1 x2 x3 y1 y2 y3 : Int) : eqB x1 x2 x3 y1 y2 y3 = true ↔ ((x1, x2, x3) : Item) = (y1, y2, y3) := by simp [eqB]
theorem equalIn_item (x1 x2 x3 y1 y2 y3 : Int) (w : World) : (Op.equalIn 10000 29 (.agg #[.int .i64 x1, .int .i64 x2, .int .i64 x3]) (.agg #[.int .i64 y1, .int .i64 y2, .int .i64 y3])).run Try.prog w = .ok (eqB x1 x2 x3 y1 y2 y3) w := by
  have u3 := Try.underlying3
  have a3 := Try.isAgg3
  have z3 := Try.sizeOf3
  have u4 := Try.underlying27
  have a4 := Try.isAgg27
  have z4 := Try.sizeOf27
  have hS : Try.prog.underlying 29 = some (.struct (Try.prog.fieldsOf 29)) := by kernel_rfl
  have hp : Try.prog.stoodInHeld 29 = false := by kernel_rfl
  rw [show (10000 : Nat) = 9999 + 1 from rfl, run_equalIn_agg w 9999 29 _ _ hS hp]
  simp only [Program.fieldsOf, Try.underlying29]
  go_simp
  by_cases h1 : x1 = y1 <;> by_cases h2 : x2 = y2 <;> by_cases h3 : x3 = y3 <;> simp [eqB, h1, h2, h3]
theorem neq_item (x1 x2 x3 y1 y2 y3 : Int) (w : World) : (binOp .neq 29 (.agg #[.int .i64 x1, .int .i64 x2, .int .i64 x3]) (.agg #[.int .i64 y1, .int .i64 y2, .int .i64 y3])).run Try.prog w = .ok (.bool (!eqB x1 x2 x3 y1 y2 y3)) w := by
  rw [run_neq_struct, equalIn_item]; rfl
theorem eql_item (x1 x2 x3 y1 y2 y3 : Int) (w : World) : (binOp .eql 29 (.agg #[.int .i64 x1, .int .i64 x2, .int .i64 x3]) (.agg #[.int .i64 y1, .int .i64 y2, .int .i64 y3])).run Try.prog w = .ok (.bool (eqB x1 x2 x3 y1 y2 y3)) w := by
  rw [run_eql_struct, equalIn_item]; rfl

def RSameRel (w : World) (l m : List Item) (i : Value) (wr : World) : Prop := ∃ k : Nat, k ≤ l.length ∧ i = .int .i64 k ∧ (∀ j, j < k → get l j = get m j) ∧ Gr w wr
theorem list_eq_of_get {l m : List Item} (hl : l.length = m.length) (h : ∀ j, j < l.length → get l j = get m j) : l = m :=
  List.ext_getElem hl fun i h1 h2 => by have := h i h1; simpa [get, h1, h2] using this

set_option maxHeartbeats 1000000 in
theorem rsame_any {w : World} {u v : Value} {l m : List Item} (hu : RdI w u l) (hv : RdI w v m) :
    Calls Try.prog 19 #[u, v] w fun e w' => e = .returned (.bool (decide (l = m))) ∧ Gr w w' := by
  have hm : l.length ≤ 9223372036854775807 := hu.1
  obtain ⟨p, cap, rfl⟩ := hu.len
  obtain ⟨p2, cap2, rfl⟩ := hv.len
  have hgd := guard_item
  by_cases hl : l.length = m.length
  · have b0 : ((l.length : Int) != (m.length : Int)) = false := by simp; omega
    have HL := hide hl
    clear hl
    go_enter Try.func19, Try.ntmps19
    go_wp2
    go_loopw [4, 5] (fun _ i wr => RSameRel w l m i wr) (fun _ i _ => l.length - (intOf i).toNat)
    case atStart => exact ⟨0, Nat.zero_le _, rfl, fun j hj => absurd hj (Nat.not_lt_zero _), Gr.refl _⟩
    case round =>
      obtain ⟨k, hk, rfl, heq, hg⟩ := hrel
      have HEQ := hide heq
      clear heq
      by_cases hlt : k < l.length
      · obtain ⟨b, off, cap0, hx, hbw, hc⟩ := (hu.gr hg).at_ k hlt
        obtain ⟨b', off', cap0', hx', hbw', hc'⟩ := (hv.gr hg).at_ k (by rw [← HL.out]; exact hlt)
        simp only [Value.slice.injEq, true_and] at hx hx'
        obtain ⟨rfl, rfl⟩ := hx
        obtain ⟨rfl, rfl⟩ := hx'
        obtain ⟨c1, c2, c3⟩ := hc k hlt
        obtain ⟨d1, d2, d3⟩ := hc' k (by rw [← HL.out]; exact hlt)
        obtain ⟨⟨x1, x2, x3⟩, hxx⟩ : ∃ x, x = get l k := ⟨_, rfl⟩
        obtain ⟨⟨y1, y2, y3⟩, hyy⟩ : ∃ y, y = get m k := ⟨_, rfl⟩
        rw [← hxx] at c1 c2 c3
        rw [← hyy] at d1 d2 d3
        have HX := hide hxx
        have HY := hide hyy
        have i1 : (0 : Int) ≤ (k : Int) := by omega
        have i2 : (k : Int) < (l.length : Int) := by omega
        have i3 : (k : Int) < (m.length : Int) := by rw [← HL.out]; omega
        clear hc hc' hxx hyy hu hv
        have hn := neq_item x1 x2 x3 y1 y2 y3
        by_cases he : eqB x1 x2 x3 y1 y2 y3 = true
        · rw [he] at hn
          have HE := hide ((eqB_iff _ _ _ _ _ _).1 he)
          clear he
          go_wp2_with fail
          go_quiet (fail)
          go_wp2_with fail
          go_roundw
          case rel => exact ⟨k + 1, by omega, by go_num, fun j hj => by
            by_cases e : j = k
            · subst e; rw [← HX.out, ← HY.out]; exact HE.out
            · exact HEQ.out j (by omega), hg.drewN _⟩
          case measure => simp [intOf]; omega
        · have hne : ¬ ((x1, x2, x3) : Item) = (y1, y2, y3) := fun e => he ((eqB_iff _ _ _ _ _ _).2 e)
          have he' : eqB x1 x2 x3 y1 y2 y3 = false := by simpa using he
          rw [he'] at hn
          have HE := hide hne
          clear hne he he'
          go_wp2_with fail
          go_quiet (fail)
          go_wp2_with fail
          go_ret
          exact ⟨by rw [decide_eq_false (fun e => HE.out (by rw [HX.out, HY.out, e]))]; rfl, hg.drewN _⟩
      · clear hu hv
        go_wp2_with fail
        go_ret
        exact ⟨by rw [decide_eq_true (list_eq_of_get HL.out (fun j hj => HEQ.out j (by omega)))]; rfl, hg⟩
  · have b0 : ((l.length : Int) != (m.length : Int)) = true := by simp; omega
    have HL := hide hl
    clear hl
    go_enter Try.func19, Try.ntmps19
    go_wp2
    go_ret
    exact ⟨by rw [decide_eq_false (fun e => HL.out (by rw [e]))]; rfl, Gr.refl _⟩
end Go.Proofs.Ytbaphdaipacihaa
