/-
  PLAIN LAW, OVER ANY PROGRAM: a call of a function as one step of a region that draws (for go_region_law, next to builtins).
-/
import Derived.Test.YtkfhapidoolfdaaGreatDoorBase
import Derived.Deep.RegionLaw
import Derived.Shelf.Abstract
namespace Go.Proofs.YtkfhapidoolfdaaGreatDoor
open Go.RowKit Go.Shelf

theorem step_call {P : Program} {ops : Array Oper} {o : Oper} {a : Act} {w : World} {K : Act → World → Prop} {Q : Exit → Act → World → Prop} {E : Prop} (hgd : o.guard = none) (f : FuncId) (xs : Array Operand) (ts : Array TypeId)
    (ho : o.op = .call { callee := .value (.func f), args := xs, argTypes := ts }) (hen : Enters P f) (vs : Array Value) (hv : xs.map a.eval = vs)
    (h : Calls P f vs w fun e w' => ∃ v, e = .returned v ∧ K (a.put o.dst v) w') : if Region.wanted o (yielded ops a.tmps) = true then Oper.wp P o a w K Q else E := by
  have hw : Region.wanted o (yielded ops a.tmps) = true := by simp [Region.wanted, hgd]
  rw [if_pos hw]
  unfold Oper.wp
  have hr := hen vs w
  simp [execOp, ho, resolve, invoke, hv, Act.eval]
  have hd : (Deferred.ofValue (.func (.func f) #[] #[]) vs).run P w = .ok { target := .fn (.func f) #[], args := vs } w := by simp [Deferred.ofValue]
  rw [hd]
  simp only [Result.andThen, Array.append_empty]
  rw [hr, Oper.upon_enter]
  refine h.mono fun e w' hx => ?_
  obtain ⟨v, rfl, hk⟩ := hx
  exact hk
end Go.Proofs.YtkfhapidoolfdaaGreatDoor
