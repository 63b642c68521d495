/-
  Stamps2 Stamps3 LedRf1: see the remarks below.
-/
import Derived.Test.YtpphoeimakjjdaaGreatDoorMStamps
import Derived.Test.YtpphoeimakjjdaaGreatDoorMAppend
import Derived.Test.YtpphoeimakjjdaaGreatDoorMRefTerm
import Derived.LoopTactic
/-
  WALKS: layer 4: the later of two stamps; is it a stamp?
-/
namespace Go.Proofs.YtpphoeimakjjdaaGreatDoor
open Go.RowKit

theorem info_int:(Tryz.prog.info? 3).map (fun i=>(i.zero,i.size,i.bytes))=some (some (.int .i64 0),1,8):=by kernel_rfl
theorem row_base {w:World} {base base':Nat} {e:TypeId} {size:Nat} {v:Value} {n:Nat} {xs:List Value} (h:w.ownsRow base e size v n xs) (hb:base'≤base):w.ownsRow base' e size v n xs :=
 ⟨h.1,h.2.imp id fun ⟨g,cap,cur,a,b,c⟩=>⟨g,cap,cur,a,Nat.le_trans hb b,c⟩⟩
end Go.Proofs.YtpphoeimakjjdaaGreatDoor
/-
  WALKS: layer 4: is it a stamp?
-/
namespace Go.Proofs.YtpphoeimakjjdaaGreatDoor
set_option maxRecDepth 100000
open Go.RowKit

def countOk (n:Int):Prop:=1≤n∧n≤1099511627776
instance (n:Int):Decidable (countOk n):=by unfold countOk;exact inferInstance
def stampOk (a:List Int):Prop:=a.length≤4∧∀ n,n∈a→countOk n
instance (a:List Int):Decidable (stampOk a):=by unfold stampOk;exact inferInstance
theorem counts_any (n:Int) (w:World):Calls Tryz.prog 175 #[.int .i64 n] w fun e w'=>e=.returned (.bool (decide (countOk n)))∧w'=w:=by
 go_enter Tryz.func175,Tryz.ntmps175
 by_cases h:1≤n
 · go_wp2
   go_ret
   exact ⟨by simp [countOk,h],rfl⟩
 · have e:decide (countOk n)=false:=decide_eq_false fun x=>h x.1
   rw [e]
   go_wp2
   go_ret
   exact ⟨rfl,rfl⟩
theorem valid1_any (n:Int) (w:World):Calls Tryz.prog 174 #[.int .i64 n] w fun e w'=>e=.returned (.bool (!decide (countOk n)))∧w'=w:=by
 go_enter Tryz.func174,Tryz.ntmps174
 go_wp2_with fail
 refine (counts_any n _).mono ?_
 rintro e w' ⟨rfl,rfl⟩
 go_wp2_with fail
 go_ret
 exact ⟨rfl,rfl⟩
theorem index1_any {w:World} {u:Value} {a:List Int} (hu:RdN w u a) :
 Calls Tryz.prog 185 #[u,.func (.func 174) #[] #[]] w fun e w'=>∃ i:Int,e=.returned (.int .i64 i)∧w'=w∧(0≤i↔∃ n,n∈a∧¬ countOk n):=by
 have h1:a.length≤9223372036854775807:=hu.1
 obtain ⟨p,c,rfl⟩:=hu.len
 go_enter Tryz.func185,Tryz.ntmps185
 go_wp2_with fail
 go_loopw [8] (fun i wr=>∃ k:Nat,k≤a.length∧i=.int .i64 k∧(∀ j,j<k→countOk (a.getD j 0))∧wr=w) (fun i _=>a.length - (intOf i).toNat)
 case atStart=>exact ⟨0,Nat.zero_le _,rfl,by simp,rfl⟩
 case round =>
  obtain ⟨k,hk,rfl,hd,rfl⟩:=hrel
  have HD:=hide hd
  clear hd
  by_cases hlt:k<a.length
  · obtain ⟨b1,o1,rfl,hb1,c1⟩:=hu.at_ k hlt
    generalize hx:a.getD k 0=x at c1
    have HX:=hide hx
    clear hx
    have i1:(0:Int)≤(k:Int):=by omega
    have i2:(k:Int)<(a.length:Int):=by omega
    go_wp2_with fail
    refine (valid1_any x _).mono ?_
    rintro e w' ⟨rfl,rfl⟩
    by_cases hc:countOk x
    · have hb:(!decide (countOk x))=false:=by simp [hc]
      rw [hb]
      have HC:=hide hc
      clear hc hb
      go_wp2_with fail
      go_roundw
      case rel=>exact ⟨k+1,by omega,by go_num,fun j hj=>by
       by_cases e:j=k
       · subst e;rw [HX.out];exact HC.out
       · exact HD.out j (by omega),by trivial⟩
      case measure=>simp [intOf];omega
    · have hb:(!decide (countOk x))=true:=by simp [hc]
      rw [hb]
      have HC:=hide hc
      clear hc hb
      go_wp2_with fail
      go_ret
      exact ⟨k,rfl,rfl,fun _=>⟨x,by rw [← HX.out];simp [hlt],HC.out⟩,fun _=>i1⟩
  · clear hu
    go_wp2_with fail
    go_ret
    exact ⟨-1,rfl,rfl,fun h=>by omega,fun ⟨n,hn,hc⟩=>by
     obtain ⟨j,hj,rfl⟩:=List.getElem_of_mem hn
     exact absurd (by simpa [hj] using HD.out j (by omega)) hc⟩
theorem contains1_any {w:World} {u:Value} {a:List Int} (hu:RdN w u a) :
 Calls Tryz.prog 173 #[u,.func (.func 174) #[] #[]] w fun e w'=>e=.returned (.bool (!decide (∀ n,n∈a→countOk n)))∧w'=w:=by
 go_enter Tryz.func173,Tryz.ntmps173
 go_wp2_with fail
 refine (index1_any hu).mono ?_
 rintro e w' ⟨i,rfl,rfl,hi⟩
 have hr:decide (0≤i)=!decide (∀ n,n∈a→countOk n):=by
  by_cases h:∀ n,n∈a→countOk n
  · rw [decide_eq_true h,decide_eq_false (fun x=>by obtain ⟨n,hn,hc⟩:=hi.1 x;exact hc (h n hn))];rfl
  · rw [decide_eq_false h,decide_eq_true (hi.2 (by simpa using h))];rfl
 have HR:=hide hr
 clear hr hi
 go_wp2_with fail
 go_ret
 exact ⟨by rw [← HR.out];simp,rfl⟩
theorem svalid_any {w:World} {u:Value} {a:List Int} (hu:RdN w u a) :
 Calls Tryz.prog 154 #[u] w fun e w'=>e=.returned (.bool (decide (stampOk a)))∧w'=w:=by
 have h1:a.length≤9223372036854775807:=hu.1
 obtain ⟨p,c,rfl⟩:=hu.len
 go_enter Tryz.func154,Tryz.ntmps154
 by_cases h:a.length≤4
 · have h':(a.length:Int)≤4:=by omega
   go_wp2_with fail
   refine (contains1_any hu).mono ?_
   rintro e w' ⟨rfl,rfl⟩
   go_wp2_with fail
   go_ret
   exact ⟨by simp [stampOk,h],rfl⟩
 · have h':¬ (a.length:Int)≤4:=by omega
   have e:decide (stampOk a)=false:=decide_eq_false fun x=>h x.1
   rw [e]
   clear hu
   go_wp2_with fail
   go_ret
   exact ⟨rfl,rfl⟩
end Go.Proofs.YtpphoeimakjjdaaGreatDoor
/-
  WALKS: the document's layers 4, 5: stamps: Valid; Mode. (Lines of RefStamps and RefSmall.)
-/
namespace Go.Proofs.YtpphoeimakjjdaaGreatDoor
set_option maxRecDepth 100000
set_option maxHeartbeats 1000000
open Go.RowKit

def modeOk (m:Int):Prop:=m=1∨m=2
instance (m:Int):Decidable (modeOk m):=by unfold modeOk;exact inferInstance
def UpTo (a:List Int) (i:Value):Prop:=∃ k:Nat,k≤a.length∧i=.int .i64 (k:Int)∧∀ n,n∈a.take k→countOk n
theorem upto_step {a:List Int} {k:Nat} (hk:k<a.length) (h:∀ n,n∈a.take k→countOk n) (h2:countOk (a.getD k 0)):∀ n,n∈a.take (k+1)→countOk n:=by
 intro n hn
 have:a.take (k+1)=a.take k++[a.getD k 0]:=by rw [List.take_add_one];simp [hk]
 rw [this] at hn
 rcases List.mem_append.1 hn with e | e
 · exact h n e
 · rw [List.mem_singleton.1 e];exact h2
theorem rsvalid_any {w:World} {u:Value} {a:List Int} (hu:RdN w u a) :
 Calls Tryz.prog 132 #[u] w fun e w'=>e=.returned (.bool (decide (stampOk a)))∧w'=w:=by
 have h1:a.length≤9223372036854775807:=hu.1
 obtain ⟨p,c,rfl⟩:=hu.len
 by_cases h:a.length≤4
 · have h':(a.length:Int)≤4:=by omega
   go_enter Tryz.func132,Tryz.ntmps132
   go_wp2_with fail
   go_loop [3] (fun i=>UpTo a i) (fun i=>a.length - (intOf i).toNat)
   case atStart=>exact ⟨0,Nat.zero_le _,rfl,by simp⟩
   case round =>
    obtain ⟨k,hk,rfl,hall⟩:=hrel
    by_cases hlt:k<a.length
    · have hlt':(k:Int)<(a.length:Int):=by omega
      obtain ⟨b,o,rfl,hb,hc⟩:=hu.at_ k hlt
      have hst:=upto_step hlt hall
      have hbad:¬ countOk (a.getD k 0)→decide (stampOk a)=false:=fun hn=>decide_eq_false fun hs=>hn (hs.2 _ (by simp [hlt]))
      generalize a.getD k 0=x at hc hst hbad
      have HA:=hide hall
      have HST:=hide hst
      have HB:=hide hbad
      clear hall hst hbad hu
      by_cases hx:countOk x
      · have hx1:=hx.1
        have hx2:=hx.2
        have HX:=hide hx
        clear hx
        go_wp2_with fail
        go_round
        case rel=>exact ⟨k+1,by omega,by go_num,HST.out HX.out⟩
        case measure=>simp [intOf];omega
      · have hf:=HB.out hx
        have HF:=hide hf
        by_cases hx1:x<1
        · clear hx hf
          go_wp2_with fail
          go_ret
          exact ⟨by rw [HF.out];rfl,rfl⟩
        · have hx2:1099511627776<x:=by unfold countOk at hx;omega
          clear hx hf
          go_wp2_with fail
          go_ret
          exact ⟨by rw [HF.out];rfl,rfl⟩
    · obtain rfl:k=a.length:=by omega
      rw [List.take_length] at hall
      have e:decide (stampOk a)=true:=decide_eq_true ⟨h,hall⟩
      have HE:=hide e
      clear hall hu e
      go_wp2_with fail
      go_ret
      exact ⟨by rw [HE.out];rfl,rfl⟩
 · have h':¬ (a.length:Int)≤4:=by omega
   have e:decide (stampOk a)=false:=decide_eq_false fun x=>h x.1
   rw [e]
   clear hu
   go_enter Tryz.func132,Tryz.ntmps132
   go_wp2_with fail
   go_ret
   exact ⟨rfl,rfl⟩
theorem rmode_any (m:Int) (w:World):Calls Tryz.prog 162 #[.int .i64 m] w fun e w'=>e=.returned (.bool (decide (modeOk m)))∧w'=w:=by
 go_enter Tryz.func162,Tryz.ntmps162
 by_cases h1:m=1
 · subst h1
   go_wp2
   go_ret
   exact ⟨rfl,rfl⟩
 · by_cases h2:m=2
   · subst h2
     go_wp2
     go_ret
     exact ⟨rfl,rfl⟩
   · have e0:decide (modeOk m)=false:=decide_eq_false fun h=>h.elim h1 h2
     rw [e0]
     have b1:(m==1)=false:=by simpa using h1
     have b2:(m==2)=false:=by simpa using h2
     clear e0 h1 h2
     go_wp2
     go_ret
     exact ⟨rfl,rfl⟩
end Go.Proofs.YtpphoeimakjjdaaGreatDoor
