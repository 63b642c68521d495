/-
  WALKS: layer 3: terms, and the document's.
-/
import Derived.Test.YtpphoeimakjjdaaGreatDoorMDecB
import Derived.Test.YtpphoeimakjjdaaGreatDoorProg
import Derived.IntWalk
import Derived.BigQuiet
namespace Go.Proofs.YtpphoeimakjjdaaGreatDoor
open Go.RowKit

def termOk (t rho:Int):Prop:=0≤t∧t≤1048576∧0≤rho∧rho≤999
instance (t rho:Int):Decidable (termOk t rho):=by unfold termOk;exact inferInstance
theorem legal_any (t:Int) (w:World):Calls Tryz.prog 115 #[.int .i64 t] w fun e w'=>e=.returned (.bool (decide (4≤t∧t≤1048576)))∧w'=w:=by
 go_enter Tryz.func115,Tryz.ntmps115
 by_cases h:4≤t
 · go_wp2
   go_ret
   exact ⟨by simp [h],rfl⟩
 · have e:decide (4≤t∧t≤1048576)=false:=decide_eq_false fun x=>h x.1
   rw [e]
   go_wp2
   go_ret
   exact ⟨rfl,rfl⟩
end Go.Proofs.YtpphoeimakjjdaaGreatDoor
