/-
  WALKS: cmp.Compare, cmp.Or at int.
-/
import Derived.Test.YtpphoeimakjjdaaGreatDoorProg
import Derived.Test.YtpphoeimakjjdaaGreatDoorMDecB
import Derived.Lib.Hide
namespace Go.Proofs.YtpphoeimakjjdaaGreatDoor
open Go.RowKit

def cmpInt (x y:Int):Int:=if x<y then -1 else if y<x then 1 else 0
theorem cmpInt_lt {x y:Int} (h:x<y):cmpInt x y = -1:=by simp [cmpInt,h]
theorem cmpInt_gt {x y:Int} (h:y<x):cmpInt x y=1:=by simp [cmpInt,h,show ¬ x<y by omega]
theorem cmpInt_cases (x y:Int):(x<y∧cmpInt x y = -1)∨(y<x∧cmpInt x y=1)∨(x=y∧cmpInt x y=0):=by
 by_cases h1:x<y
 · exact .inl ⟨h1,cmpInt_lt h1⟩
 · by_cases h2:y<x
   · exact .inr (.inl ⟨h2,cmpInt_gt h2⟩)
   · exact .inr (.inr ⟨by omega,by simp [cmpInt,h1,h2]⟩)
theorem compare_int (x y:Int) (w:World):Calls Tryz.prog 157 #[.int .i64 x,.int .i64 y] w fun e w'=>e=.returned (.int .i64 (cmpInt x y))∧w=w':=by
 rcases cmpInt_cases x y with ⟨h,e⟩ | ⟨h,e⟩ | ⟨h,e⟩
 · rw [e];clear e
   go_enter Tryz.func157,Tryz.ntmps157
   go_wp2
   go_ret
   exact ⟨rfl,rfl⟩
 · rw [e];clear e
   go_enter Tryz.func157,Tryz.ntmps157
   go_wp2
   go_ret
   exact ⟨rfl,rfl⟩
 · rw [e];clear e
   subst h
   go_enter Tryz.func157,Tryz.ntmps157
   go_wp2
   go_ret
   exact ⟨rfl,rfl⟩
end Go.Proofs.YtpphoeimakjjdaaGreatDoor
