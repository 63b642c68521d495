/-
  WALKS: layer 4: the later of two stamps; is it a stamp?
-/
import Derived.Test.YtifllaeldcimgaaGreatStamps
import Derived.Test.YtifllaeldcimgaaGreatAppend
namespace Go.Proofs.YtifllaeldcimgaaGreat
open Go.RowKit

def laterL (a b : List Int) : List Int := if cmpL a b < 0 then b else a
theorem info_int : (Tryz.prog.info? 3).map (fun i => (i.zero, i.size, i.bytes)) = some (some (.int .i64 0), 1, 8) := by kernel_rfl
theorem row_base {w : World} {base base' : Nat} {e : TypeId} {size : Nat} {v : Value} {n : Nat} {xs : List Value} (h : w.ownsRow base e size v n xs) (hb : base' ≤ base) : w.ownsRow base' e size v n xs :=
  ⟨h.1, h.2.imp id fun ⟨g, cap, cur, a, b, c⟩ => ⟨g, cap, cur, a, Nat.le_trans hb b, c⟩⟩
/-- a new row of ints -/
def NewInts (w : World) (m : List Int) (e : Ending) (w' : World) : Prop := ∃ v, e = .returned v ∧ w'.ownsRow w.heap.size 3 1 v m.length (m.map (Value.int .i64)) ∧ Mod [] w w'
set_option maxRecDepth 100000 in
theorem later_any {w : World} {u v : Value} {a b : List Int} (hu : RdN w u a) (hv : RdN w v b) (ha : a.length ≤ 1000000) (hb : b.length ≤ 1000000) :
    Calls Tryz.prog 38 #[u, v] w fun e w' => NewInts w (laterL a b) e w' := by
  obtain ⟨i0, hi0, hz0, hs0, hb0⟩ := info_parts info_int
  go_enter Tryz.func38, Tryz.ntmps38
  go_wp2_with fail
  refine (inOrder_any hu hv).mono ?_
  rintro e w' ⟨rfl, hg⟩
  by_cases h : cmpL a b < 0
  · have hl : laterL a b = b := by simp [laterL, h]
    go_wp2_with (at_builtin; refine wpList_append_copy w' rfl _ _ 34 rfl 3 i0 Tryz.underlying34 hi0 hz0 hs0 hb0 rfl rfl (hv.gr hg) hb ?_; intro v' w2 ho hm)
    go_wp2_with fail
    go_ret
    exact ⟨v', rfl, by rw [hl]; exact row_base ho hg.size, (hg.mod []).then hm⟩
  · have hl : laterL a b = a := by simp [laterL, h]
    go_wp2_with (at_builtin; refine wpList_append_copy w' rfl _ _ 34 rfl 3 i0 Tryz.underlying34 hi0 hz0 hs0 hb0 rfl rfl (hu.gr hg) ha ?_; intro v' w2 ho hm)
    go_wp2_with fail
    go_ret
    exact ⟨v', rfl, by rw [hl]; exact row_base ho hg.size, (hg.mod []).then hm⟩
end Go.Proofs.YtifllaeldcimgaaGreat
