/-
  WALKS: layer 1: paths: fine.
-/
import Derived.Test.YtpphoeimakjjdaaGreatDoorProg
import Derived.Test.YtpphoeimakjjdaaGreatDoorMDecB
import Derived.Lib.Hide
import Derived.IntWalk
import Derived.WalkMore
import Derived.Deep.LoopGhost
namespace Go.Proofs.YtpphoeimakjjdaaGreatDoor
set_option maxRecDepth 100000
set_option maxHeartbeats 1000000
open Go.RowKit

def letter (c:Int):Bool:=(decide (97≤c)&&decide (c≤122))||(decide (48≤c)&&decide (c≤57))
def fineGo:List UInt8→Nat→Bool
 | [],n=>decide (0<n∧n≤6)
 | c::r,n=>if (c.toNat:Int)=47 then (if n=0 then false else fineGo r 0) else if letter c.toNat then (if 6<n+1 then false else fineGo r (n+1)) else false
def fineB (s:List UInt8):Bool:=fineGo s 0

def FineRel (s:ByteArray) (g:Nat) (n i:Value) (w wr:World):Prop:=∃ k m:Nat,k+g=s.size∧m≤6∧n=.int .i64 m∧i=.int .i64 k∧Hid (fineGo (s.data.toList.drop k) m=fineB s.data.toList)∧wr=w
theorem fine_step (s:ByteArray) (k:Nat) (hk:k<s.size) (n:Nat):fineGo (s.data.toList.drop k) n=(if ((s[k]).toNat:Int)=47 then (if n=0 then false else fineGo (s.data.toList.drop (k+1)) 0) else if letter (s[k]).toNat then (if 6<n+1 then false else fineGo (s.data.toList.drop (k+1)) (n+1)) else false):=by
 have hl:k<s.data.toList.length:=by simpa using hk
 rw [List.drop_eq_getElem_cons hl]
 rfl
theorem fine_any (s:ByteArray) (hs:s.size≤9223372036854775807) (w:World):Calls Tryz.prog 171 #[.string s] w fun e w'=>e=.returned (.bool (fineB s.data.toList))∧w'=w:=by
 go_enter Tryz.func171,Tryz.ntmps171
 go_wp2_with fail
 go_step3
 go_wp2_with fail
 go_step3
 go_wp2_with fail
 go_loopg [3,8] s.size (fun g n i wr=>FineRel s g n i w wr)
 case atStart=>exact ⟨0,0,by omega,by omega,rfl,rfl,rfl,rfl⟩
 case round =>
  obtain ⟨k,n,hk,hn,rfl,rfl,hd,rfl⟩:=hrel
  by_cases hlt:k<s.size
  · have i1:(0:Int)≤(k:Int):=by omega
    have i2:(k:Int)<(s.size:Int):=by omega
    have hst:=fine_step s k hlt n
    have HS:=hide (hst.symm.trans hd)
    obtain ⟨g,rfl⟩:∃ g,gk=g+1:=⟨gk - 1,by omega⟩
    have hcb:((s[k]).toNat:Int)≤255:=by have:=(s[k]).toNat_lt;omega
    clear hst hd
    generalize hx:((s[k]).toNat:Int)=x at HS hcb
    have HX:=hide hx
    by_cases q:x=47
    · have HS2:=HS.out
      rw [if_pos q] at HS2
      have HS3:=hide HS2
      clear HS HS2
      by_cases h0:n=0
      · have HS4:=HS3.out
        rw [if_pos h0] at HS4
        have HS5:=hide HS4
        clear HS3 HS4
        subst h0
        go_wp2_with fail
        try rw [Exit.noGoto_ret]
        go_ret
        exact ⟨by rw [← HS5.out];rfl,rfl⟩
      · have HS4:=HS3.out
        rw [if_neg h0] at HS4
        have HS5:=hide HS4
        clear HS3 HS4
        have h1:¬ (n:Int)=0:=by omega
        clear h0
        go_wp2_with fail
        go_roundg g
        case measure=>omega
        case rel=>exact ⟨k+1,0,by omega,by omega,rfl,by go_num,HS5.out,rfl⟩
    · have HS2:=HS.out
      rw [if_neg q] at HS2
      by_cases hl:letter x=true
      · rw [if_pos hl] at HS2
        have h3:(97≤x∧x≤122)∨(48≤x∧x≤57):=by
         simpa [letter] using hl
        by_cases h6:6<n+1
        · rw [if_pos h6] at HS2
          have HS5:=hide HS2
          clear HS HS2 hl
          have hn6:n=6:=by omega
          subst hn6
          rcases h3 with ⟨a1,a2⟩ | ⟨a1,a2⟩
          all_goals
           go_wp2_with fail
           try rw [Exit.noGoto_ret]
           go_ret
           exact ⟨by rw [← HS5.out];rfl,rfl⟩
        · rw [if_neg h6] at HS2
          have HS5:=hide HS2
          clear HS HS2 hl
          have h7:(n:Int)+1≤6:=by omega
          rcases h3 with ⟨a1,a2⟩ | ⟨a1,a2⟩
          all_goals
           go_wp2_with fail
           go_roundg g
           case measure=>omega
           case rel=>exact ⟨k+1,n+1,by omega,by omega,by go_num,by go_num,HS5.out,rfl⟩
      · rw [if_neg hl] at HS2
        have h3:¬ ((97≤x∧x≤122)∨(48≤x∧x≤57)):=by
         simpa [letter] using hl
        have HS5:=hide HS2
        clear HS HS2 hl
        rcases (by omega:(122<x)∨(57<x∧x<97)∨(x<48)) with a1 | ⟨a1,a2⟩ | a1
        all_goals
         clear h3
         go_wp2_with fail
         try rw [Exit.noGoto_ret]
         go_ret
         exact ⟨by rw [← HS5.out];rfl,rfl⟩
  · have hke:k=s.size:=by omega
    subst hke
    have hE:=hd.out
    rw [List.drop_of_length_le (by simp)] at hE
    have HE:=hide hE
    clear hE hd
    by_cases h0:n=0
    · subst h0
      go_wp2_with fail
      try rw [Exit.noGoto_ret]
      go_ret
      exact ⟨by rw [← HE.out];rfl,rfl⟩
    · have h1:0<(n:Int):=by omega
      have h2:(n:Int)≤6:=by omega
      go_wp2_with fail
      try rw [Exit.noGoto_ret]
      go_ret
      exact ⟨by rw [← HE.out];simp [fineGo];omega,rfl⟩
end Go.Proofs.YtpphoeimakjjdaaGreatDoor
