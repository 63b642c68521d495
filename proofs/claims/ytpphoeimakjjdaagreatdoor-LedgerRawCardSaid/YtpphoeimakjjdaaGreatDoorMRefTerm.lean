/-
  WALKS: the document's layer 3: terms. (The great seat alone.)
-/
import Derived.Test.YtpphoeimakjjdaaGreatDoorMTerm
import Derived.Lib.Hide
import Derived.LoopTactic
namespace Go.Proofs.YtpphoeimakjjdaaGreatDoor
open Go.RowKit

theorem rlegal_any (t:Int) (w:World):Calls Tryz.prog 128 #[.int .i64 t] w fun e w'=>e=.returned (.bool (decide (4≤t∧t≤1048576)))∧w'=w:=by
 go_enter Tryz.func128,Tryz.ntmps128
 by_cases h:4≤t
 · go_wp2
   go_ret
   exact ⟨by simp [h],rfl⟩
 · have e:decide (4≤t∧t≤1048576)=false:=decide_eq_false fun x=>h x.1
   rw [e]
   go_wp2
   go_ret
   exact ⟨rfl,rfl⟩
end Go.Proofs.YtpphoeimakjjdaaGreatDoor
