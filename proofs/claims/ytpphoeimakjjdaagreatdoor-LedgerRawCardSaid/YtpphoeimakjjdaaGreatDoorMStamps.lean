/-
  WALKS: layer 4: stamps.
-/
import Derived.Test.YtpphoeimakjjdaaGreatDoorMCmpI
import Derived.Test.YtpphoeimakjjdaaGreatDoorMDecB
import Derived.BigQuiet
import Derived.IntWalk
import Derived.StillTailTactics
namespace Go.Proofs.YtpphoeimakjjdaaGreatDoor
set_option maxRecDepth 100000
set_option maxHeartbeats 1000000
open Go.RowKit

def SameRelN (w:World) (a b:List Int) (i:Value) (wr:World):Prop:=∃ k:Nat,k≤a.length∧i=.int .i64 k∧(∀ j,j<k→a.getD j 0=b.getD j 0)∧Gr w wr
theorem ext_getD {a b:List Int} (hl:a.length=b.length) (h:∀ j,j<a.length→a.getD j 0=b.getD j 0):a=b:=by
 refine List.ext_getElem hl fun j h1 h2=>?_
 have:=h j h1
 simpa [h1,h2] using this
theorem sameInts_any {w:World} {u v:Value} {a b:List Int} (hu:RdN w u a) (hv:RdN w v b) :
 Calls Tryz.prog 53 #[u,v] w fun e w'=>e=.returned (.bool (decide (a=b)))∧Gr w w':=by
 have h1:a.length≤9223372036854775807:=hu.1
 have h2:b.length≤9223372036854775807:=hv.1
 obtain ⟨p,c,rfl⟩:=hu.len
 obtain ⟨q,d,rfl⟩:=hv.len
 go_enter Tryz.func53,Tryz.ntmps53
 by_cases hl:a.length=b.length
 · have HL:=hide hl
   have b0:((a.length:Int) != (b.length:Int))=false:=by simp;omega
   clear hl
   go_wp2_with fail
   go_loopw [5] (fun i wr=>SameRelN w a b i wr) (fun i _=>a.length - (intOf i).toNat)
   case atStart=>exact ⟨0,Nat.zero_le _,rfl,by simp,Gr.refl _⟩
   case round =>
    obtain ⟨k,hk,rfl,hd,hg⟩:=hrel
    have HD:=hide hd
    clear hd
    by_cases hlt:k<a.length
    · obtain ⟨b1,o1,rfl,hb1,c1⟩:=(hu.gr hg).at_ k hlt
      obtain ⟨b2,o2,rfl,hb2,c2⟩:=(hv.gr hg).at_ k (by rw [← HL.out];exact hlt)
      generalize hx:a.getD k 0=x at c1
      generalize hy:b.getD k 0=y at c2
      have HX:=hide hx
      have HY:=hide hy
      clear hx hy
      have i1:(0:Int)≤(k:Int):=by omega
      have i2:(k:Int)<(a.length:Int):=by omega
      have i3:(k:Int)<(b.length:Int):=by rw [← HL.out];omega
      by_cases he:x=y
      · subst he
        go_wp2_with fail
        go_quiet (fail)
        go_wp2_with fail
        go_roundw
        case rel=>exact ⟨k+1,by omega,by go_num,fun j hj=>by
         by_cases e:j=k
         · subst e;rw [HX.out,HY.out]
         · exact HD.out j (by omega),hg.drewN _⟩
        case measure=>simp [intOf];omega
      · have hne:(x != y)=true:=by simpa using he
        have HE:=hide he
        clear he
        go_wp2_with fail
        go_quiet (fail)
        go_wp2_with fail
        go_ret
        exact ⟨by rw [decide_eq_false (fun e=>HE.out (by rw [← HX.out,← HY.out,e]))];rfl,hg.drewN _⟩
    · clear hu hv
      go_wp2_with fail
      go_ret
      exact ⟨by rw [decide_eq_true (ext_getD HL.out (fun j hj=>HD.out j (by omega)))];rfl,hg⟩
 · have b0:((a.length:Int) != (b.length:Int))=true:=by simp;omega
   have HL:=hide hl
   clear hl
   go_wp2_with fail
   go_ret
   exact ⟨by rw [decide_eq_false (fun e=>HL.out (by rw [e]))];rfl,Gr.refl _⟩
end Go.Proofs.YtpphoeimakjjdaaGreatDoor
