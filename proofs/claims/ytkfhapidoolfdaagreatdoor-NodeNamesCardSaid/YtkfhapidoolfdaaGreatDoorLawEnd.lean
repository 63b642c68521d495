/-
  FOR EVERY LAW: its arguments read behind the call as they read before, when nothing that was has changed.
-/
import Derived.Test.YtkfhapidoolfdaaGreatDoorRows
import Derived.Test.YtkfhapidoolfdaaGreatDoorBase
import Derived.ProofKit
import Derived.OpenShut
namespace Go.Proofs.YtkfhapidoolfdaaGreatDoor
open Go.ChangeShapes Go.WideShapes Go.ChangeAt Go.RowKit

theorem own : ownKnob Tryz.prog.godebug = none := by kernel_rfl
theorem laidOut : laidOutB Tryz.prog = true := by kernel_rfl

theorem trodAll_below {H : Type} {enc : TypeId × Value → H} {W W' : World} (hb : Below W.heap.size W W') :
    ∀ (ts : List TypeId) (vs : List Value) (ds : List (DataW H)) (p : List MemPlace), (∀ t, t ∈ ts → Tryz.prog.readableRec t = true ∧ t < Tryz.prog.types.size) →
      DataW.TrodAll enc Tryz.prog W 0 (fun _ => true) true ts vs ds p → (∀ x, x ∈ p → x.block < W.heap.size) →
      DataW.TrodAll enc Tryz.prog W' 0 (fun b => decide (b < W.heap.size)) true ts vs ds p
  | [], vs, ds, p, _, h, _ => by
    obtain ⟨rfl, rfl, rfl⟩ := trodAll_nil h
    exact trodAll_mk0
  | t :: ts, vs, ds, p, hts, h, hlt => by
    obtain ⟨v, vs', d, ds', p1, p2, rfl, rfl, rfl, h0, h1⟩ := trodAll_cons h
    have ht := hts t List.mem_cons_self
    exact trodAll_cons_mk (Below.trod laidOut ht.1 ht.2 h0 hb (fun x hx => hlt x (List.mem_append_left _ hx)))
      (trodAll_below hb ts vs' ds' p2 (fun t' h' => hts t' (List.mem_cons_of_mem _ h')) h1 (fun x hx => hlt x (List.mem_append_right _ hx)))

/-- the end of every law: true, and all as it was -/
theorem law_post {H : Type} {enc : TypeId × Value → H} {fn : Func} {s : ChangeSpec} {W W' : World} {args : Array Value} {ds gs : List (DataW H)} {before : List MemPlace}
    (hr : fn.resultTypes.toList = [4]) (hv : s.vars = []) (hts : ∀ t, t ∈ fn.params.toList → Tryz.prog.readableRec t = true ∧ t < Tryz.prog.types.size)
    (hW : DataW.Whole enc Tryz.prog fn.params.toList s.vars false W args.toList ds gs before)
    (hlt : ∀ x, x ∈ before → x.block < W.heap.size)
    (h1 : (s.fn H (ds ++ gs)).results = [.lit (.bool true)]) (h2 : (s.fn H (ds ++ gs)).args = ds) (h3 : (s.fn H (ds ++ gs)).vars = []) (hm : Mod [] W W') :
    s.post enc Tryz.prog fn false true false false W args (.bool true) W' := by
  have hW' := hW
  obtain ⟨p, q, hA, hV, rfl, _, _⟩ := hW
  have hb : Below W.heap.size W W' := hm.below (Nat.le_refl _) (by simp)
  rw [hv] at hV
  obtain ⟨_, rfl⟩ := trodVars_none hV
  have hz : fn.resultTypes.size = 1 := by have := congrArg List.length hr; simpa using this
  refine ⟨ds, gs, _, [], p, [], hW', ?_, ?_, ?_, hb.frame _, fun h => by cases h⟩
  · rw [h1, hr, hz]
    exact trodAll_mk1 (shut_bool Tryz.underlying4 true)
  · rw [h2]
    exact trodAll_below hb _ _ _ _ hts hA (fun x hx => hlt x (List.mem_append_left _ hx))
  · rw [h3, hv]
    rfl
end Go.Proofs.YtkfhapidoolfdaaGreatDoor
