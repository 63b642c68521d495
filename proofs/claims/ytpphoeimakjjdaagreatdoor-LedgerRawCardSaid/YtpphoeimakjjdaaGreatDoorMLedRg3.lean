/-
  LedRg2 LedRg3: see the remarks below.
-/
import Derived.Test.YtpphoeimakjjdaaGreatDoorMOctR
import Derived.Test.YtpphoeimakjjdaaGreatDoorMOctS
/-
  WALKS: the document's layer 2: Text, Four, OfFour, Sum.
-/
namespace Go.Proofs.YtpphoeimakjjdaaGreatDoor
set_option maxRecDepth 100000
set_option maxHeartbeats 2000000
open Go.RowKit

def RtRel (w:World) (s:ByteArray) (v i:Value) (wr:World):Prop :=
 ∃ k:Nat,i=.int .i64 (k:Int)∧k≤s.size∧RowY wr w.heap.size v (numB s.size++s.data.toList.take k)∧Mod [] w wr
theorem rtext_any (s:ByteArray) (hs:s.size≤1000000) (w:World):Calls Tryz.prog 100 #[.string s] w fun e w'=>RgY w (textB s) e w':=by
 have hnl:=numB_len s.size
 go_enter Tryz.func100,Tryz.ntmps100
 go_wp2_with (go_at_call 139;refine (rgNum_any _ (by omega) _).mono ?_;rintro e w1 ⟨v1,rfl,h1,m1⟩)
 go_loopw [3,4] (fun v i wr=>RtRel w s v i wr) (fun _ i _=>s.size - (intOf i).toNat)
 case atStart=>exact ⟨0,rfl,Nat.zero_le _,by simpa using h1,m1⟩
 case round =>
  obtain ⟨k,rfl,hk,hrow,hm⟩:=hrel
  by_cases hlt:k<s.size
  · have hsz:=hm.size
    have hnx:s.data.toList.take (k+1)=s.data.toList.take k++[s[k]]:=by
     rw [List.take_succ_eq_append_getElem (by simpa using hlt)];rfl
    have HN:=hide hnx
    obtain ⟨L,hL⟩:∃ L,numB s.size++s.data.toList.take k=L:=⟨_,rfl⟩
    have hLl:L.length≤1000020:=by rw [← hL];simp;omega
    rw [hL] at hrow
    obtain ⟨q,cc,rfl⟩:=hrow.rd.len
    have HL:=hide hL
    clear hnx hL h1 m1
    go_wp2_with (at_builtin;refine wpList_app_1 _ rfl _ _ rfl w.heap.size (.slice q L.length cc) L rfl (hrow.mod_alloc _) wr.heap.size s[k] rfl (heap_alloc_new wr _) (by omega) (by simp;omega) ?_;intro g cap' w1 hrow1 hm1 hg1 hg2)
    go_roundw
    case rel=>exact ⟨k+1,by go_num,by omega,by rw [HN.out,← List.append_assoc,HL.out];simpa using hrow1,mod_new (hm.alloc _) hm1 (fun x hx=>(hrow.blk x hx).1)⟩
    case measure=>simp [intOf];omega
  · obtain rfl:k=s.size:=by omega
    clear h1 m1
    rw [List.take_of_length_le (by simp)] at hrow
    go_wp2_with fail
    go_ret
    exact ⟨_,rfl,hrow,hm⟩
/-! ### four bytes -/
theorem fourB_step (x k:Nat) (hk:k<4):(fourB x).take (k+1)=(fourB x).take k++[UInt8.ofNat (x / 256 ^ k % 256)]:=by
 have:k=0∨k=1∨k=2∨k=3:=by omega
 rcases this with rfl | rfl | rfl | rfl <;> simp [fourB]
def RfRel (w:World) (x:Nat) (u v i:Value) (wr:World):Prop :=
 ∃ k:Nat,u=.int .u32 ((x / 256 ^ k:Nat):Int)∧i=.int .i64 (k:Int)∧k≤4∧RowY wr w.heap.size v ((fourB x).take k)∧Mod [] w wr
theorem rfour_any (w:World) (x:Nat) (hx:x<4294967296):Calls Tryz.prog 165 #[.int .u32 (x:Int)] w fun e w'=>RgY w (fourB x) e w':=by
 go_enter Tryz.func165,Tryz.ntmps165
 go_wp2_with fail
 go_loopw [0,3,4] (fun u v i wr=>RfRel w x u v i wr) (fun _ _ i _=>4 - (intOf i).toNat)
 case atStart=>exact ⟨0,by simp,rfl,Nat.zero_le _,RowY.nil _ _,Mod.refl _ _⟩
 case round =>
  obtain ⟨k,rfl,rfl,hk,hrow,hm⟩:=hrel
  by_cases hlt:k<4
  · have hsz:=hm.size
    have HN:=hide (fourB_step x k hlt)
    obtain ⟨L,hL⟩:∃ L,(fourB x).take k=L:=⟨_,rfl⟩
    have hLl:L.length≤4:=by rw [← hL];simp [fourB];omega
    rw [hL] at hrow HN
    obtain ⟨q,cc,rfl⟩:=hrow.rd.len
    obtain ⟨y,hy⟩:∃ y,x / 256 ^ k=y:=⟨_,rfl⟩
    have hyx:y≤x:=by rw [← hy];exact Nat.div_le_self _ _
    have hnx:x / 256 ^ (k+1)=y / 256:=by rw [Nat.pow_succ,← Nat.div_div_eq_div_mul,hy]
    rw [hy] at HN ⊢
    have hob:IntKind.u8.wrap ((y:Int) % 256)=((UInt8.ofNat (y % 256)).toNat:Int):=by
     rw [ofNat_toNat (by omega),IntKind.wrap_u8']
     omega
    have hdv:IntKind.u32.wrap ((y:Int) / 256)=((y / 256:Nat):Int):=by rw [IntKind.wrap_u32'];omega
    have hob2:(y:Int) % 256 % 256=((UInt8.ofNat (y % 256)).toNat:Int):=by
     rw [ofNat_toNat (by omega)]
     omega
    generalize hc:UInt8.ofNat (y % 256)=c at hob hob2 HN
    have HY:=Hj2 hnx hL
    clear hc hnx hL hy
    go_wp2_with (at_builtin;refine wpList_app_1 _ rfl _ _ rfl w.heap.size (.slice q L.length cc) L rfl (hrow.mod_alloc _) wr.heap.size c rfl (heap_alloc_new wr _) (by omega) (by simp;omega) ?_;intro g cap' w1 hrow1 hm1 hg1 hg2)
    go_roundw
    case rel=>exact ⟨k+1,by rw [HY.out.1];go_num,by go_num,by omega,by rw [HN.out];simpa using hrow1,mod_new (hm.alloc _) hm1 (fun x hx=>(hrow.blk x hx).1)⟩
    case measure=>simp [intOf];omega
  · obtain rfl:k=4:=by omega
    go_wp2_with fail
    go_ret
    exact ⟨_,rfl,by simpa [fourB] using hrow,hm⟩
end Go.Proofs.YtpphoeimakjjdaaGreatDoor
/-
  WALKS: the document's layer 2: OfFour, Sum.
-/
namespace Go.Proofs.YtpphoeimakjjdaaGreatDoor
set_option maxRecDepth 100000
set_option maxHeartbeats 2000000
open Go.RowKit

def p4 (b:B8):Nat→Nat
 | 0=>0
 | j+1=>p4 b j * 256+(b.getD (3 - j) 0).toNat
theorem p4_lt (b:B8):∀ j,p4 b j<256 ^ j
 | 0=>by simp [p4]
 | j+1=>by have h1:=p4_lt b j;have h2:=byte_lt (b.getD (3 - j) 0);unfold p4;rw [Nat.pow_succ];omega
theorem p4_four (b:B8):p4 b 4=ofFour b:=by
 simp only [p4,ofFour,Nat.sub_zero,Nat.reduceSub,Nat.sub_self]
 omega
def OfRel (b:B8) (x k:Value):Prop:=∃ j:Nat,j≤4∧x=.int .u32 (p4 b j:Int)∧k=.int .i64 (3 - (j:Int))
theorem rofFour_any {w:World} {u:Value} {b:B8} (hu:RdY w u b):Calls Tryz.prog 138 #[u] w fun e w'=>e=.returned (.tuple #[.int .u32 ((if b.length<4 then 0 else ofFour b:Nat):Int),.bool (decide (4≤b.length))])∧w'=w:=by
 have hl:=hu.1
 obtain ⟨p,c,rfl⟩:=hu.len
 obtain ⟨R,hR⟩:∃ R:Nat,(if b.length<4 then 0 else ofFour b)=R:=⟨_,rfl⟩
 obtain ⟨t,ht⟩:∃ t,decide (4≤b.length)=t:=⟨_,rfl⟩
 rw [hR,ht]
 by_cases h4:b.length<4
 · have h4':decide ((b.length:Int)<4)=true:=by simp;omega
   rw [if_pos h4] at hR
   rw [decide_eq_false (by omega)] at ht
   subst hR ht
   go_enter Tryz.func138,Tryz.ntmps138
   go_wp2_with fail
   go_ret2
   exact ⟨rfl,rfl⟩
 have h4':decide ((b.length:Int)<4)=false:=by simp;omega
 rw [if_neg h4] at hR
 rw [decide_eq_true (by omega)] at ht
 subst ht
 have HR:=hide hR
 clear hR
 go_enter Tryz.func138,Tryz.ntmps138
 go_wp2_with fail
 go_loop [4,5] (fun x k=>OfRel b x k) (fun _ k=>(intOf k+1).toNat)
 case atStart=>exact ⟨0,by omega,rfl,rfl⟩
 case round =>
  obtain ⟨j,hj,rfl,rfl⟩:=hrel
  by_cases hlt:j<4
  · obtain ⟨b1,o1,rfl,hb1,c1⟩:=hu.at_ (3 - j) (by omega)
    have hx:=p4_lt b j
    have hp:(256:Nat) ^ j≤256 ^ 3:=Nat.pow_le_pow_right (by decide) (by omega)
    have hs:p4 b (j+1)=p4 b j * 256+(b.getD (3 - j) 0).toNat:=rfl
    generalize b.getD (3 - j) 0=z at c1 hs
    unfold y8 at c1
    have hz:=byte_lt z
    obtain ⟨X,hX⟩:∃ X,p4 b j=X:=⟨_,rfl⟩
    rw [hX] at hs hx ⊢
    have hX3:X<16777216:=by have:(256:Nat) ^ 3=16777216:=by decide
                            omega
    have ho:((o1+(3 - j):Nat):Int)=(o1:Int)+(3 - (j:Int)):=by omega
    have hS:=hide hs
    clear hs hX hp hx
    go_wp2_with fail
    go_round
    case rel=>exact ⟨j+1,by omega,by rw [hS.out];go_num,by go_num⟩
    case measure=>simp [intOf];omega
  · obtain rfl:j=4:=by omega
    have hp:=p4_four b
    rw [HR.out] at hp
    rw [hp]
    clear hp
    go_wp2_with fail
    go_ret2
    exact ⟨rfl,rfl⟩
/-! ### the sum, bit by bit -/
theorem crcRef_lt (c:UInt8) {x:Nat} (h:x<4294967296) (k:Nat):crcRef c x k<4294967296:=by
 unfold crcRef
 split
 · exact xor_lt (by omega) (by decide)
 · omega
def RgSRel (b:B8) (x i:Value):Prop:=∃ k y:Nat,k≤b.length∧x=.int .u32 (y:Int)∧i=.int .i64 (k:Int)∧y<4294967296∧Hid ((b.drop k).foldl crcByte y=b.foldl crcByte 4294967295)
def RgSIn (c:UInt8) (y:Nat) (x i:Value):Prop:=∃ j m:Nat,j≤8∧x=.int .u32 (m:Int)∧i=.int .i64 (j:Int)∧m<4294967296∧Hid (crcRefs c j y=m)
theorem rsum_any {w:World} {u:Value} {b:B8} (hu:RdY w u b) :
 Calls Tryz.prog 166 #[u] w fun e w'=>e=.returned (.int .u32 (sumB b:Int))∧w=w':=by
 have h1:b.length≤9223372036854775807:=hu.1
 obtain ⟨p,c,rfl⟩:=hu.len
 go_enter Tryz.func166,Tryz.ntmps166
 go_wp2_with fail
 go_loop [3,4] (fun x i=>RgSRel b x i) (fun _ i=>b.length - (intOf i).toNat)
 case atStart=>exact ⟨0,_,Nat.zero_le _,rfl,rfl,by decide,hide rfl⟩
 case round =>
  obtain ⟨k,y,hk,rfl,rfl,hy,hc⟩:=hrel
  by_cases hlt:k<b.length
  · obtain ⟨b1,o1,rfl,hb1,c1⟩:=hu.at_ k hlt
    have hdr:b.drop k=b.getD k 0::b.drop (k+1):=by
     rw [List.drop_eq_getElem_cons hlt];simp [hlt]
    rw [hdr] at hc
    generalize b.getD k 0=z at c1 hc
    unfold y8 at c1
    have hz:=byte_lt z
    have hfold:(b.drop (k+1)).foldl crcByte (crcByte y z)=b.foldl crcByte 4294967295:=hc.out
    rw [crcByte_ref] at hfold
    have HC:=hide hfold
    clear hdr hu hc hfold
    go_wp2_with fail
    go_loop [3,5] (fun x i=>RgSIn z y x i) (fun _ i=>8 - (intOf i).toNat)
    case atStart=>exact ⟨0,y,by omega,rfl,rfl,hy,hide rfl⟩
    case round =>
     obtain ⟨j,m,hj,rfl,rfl,hm,hb⟩:=hrel
     by_cases hj8:j<8
     · have hmk:bits .and .u32 (m:Int) 1=((m % 2:Nat):Int):=by
        have:=u32_and_nat m 1 hm (by decide)
        rw [nat_mask1] at this
        exact this
       obtain ⟨B,hB⟩:∃ B,z.toNat / 2 ^ j % 2=B:=⟨_,rfl⟩
       have hbz:bits .and .u32 ((z.toNat:Int) / 2 ^ j) 1=(B:Int):=by
        have h:=u32_and_nat (z.toNat / 2 ^ j) 1 (Nat.lt_of_le_of_lt (Nat.div_le_self _ _) (by omega)) (by decide)
        rw [nat_mask1,hB] at h
        rw [← h]
        simp
       have hxz:bits .xor .u32 ((m:Int) / 2) 3988292384=((m / 2 ^^^ 3988292384:Nat):Int):=by
        have h:=u32_xor_nat (m / 2) 3988292384 (by omega) (by decide)
        rw [show ((m / 2:Nat):Int)=(m:Int) / 2 by omega] at h
        exact h
       have hlt2:=crcRef_lt z hm j
       have hnx:crcRefs z (j+1) y=crcRef z m j:=by rw [← hb.out];rfl
       by_cases hbm:B=m % 2
       · have hcd:((B:Int) != (m:Int) % 2)=false:=by simp;omega
         have hv:crcRef z m j=m / 2:=by unfold crcRef;rw [if_neg (by omega)]
         rw [hv] at hnx hlt2
         have HX:=Hj2 hnx hlt2
         clear hbm hB hv hnx hlt2 hb
         go_wp2_with fail
         go_round
         case rel=>exact ⟨j+1,m / 2,by omega,by go_num,by go_num,HX.out.2,hide HX.out.1⟩
         case measure=>simp [intOf];omega
       · have hcd:((B:Int) != (m:Int) % 2)=true:=by simp;omega
         have hv:crcRef z m j=m / 2 ^^^ 3988292384:=by unfold crcRef;rw [if_pos (by omega)]
         rw [hv] at hnx hlt2
         obtain ⟨X,hX⟩:∃ X,m / 2 ^^^ 3988292384=X:=⟨_,rfl⟩
         rw [hX] at hnx hlt2 hxz
         have HX:=Hj2 hnx hlt2
         clear hbm hB hv hnx hlt2 hb hX
         go_wp2_with fail
         go_round
         case rel=>exact ⟨j+1,X,by omega,by go_num,by go_num,HX.out.2,hide HX.out.1⟩
         case measure=>simp [intOf];omega
     · have hj:j=8:=by omega
       have hb':=hb.out
       rw [hj] at hb'
       have HB:=hide hb'
       clear hb' hb hj
       go_wp2_with fail
       go_round
       case rel=>exact ⟨k+1,m,by omega,rfl,by go_num,hm,hide (by have h1:=HB.out;have h2:=HC.out;rw [← h1];exact h2)⟩
       case measure=>simp [intOf];omega
  · have hk:k=b.length:=by omega
    have hf:=hc.out
    rw [List.drop_of_length_le (by omega)] at hf
    have hs:sumB b=4294967295 - y:=by unfold sumB;rw [← hf];rfl
    have HS:=hide hs
    have hmx:=u32_xor_nat y 4294967295 hy (by decide)
    rw [Nat.xor_comm,xor_ones y hy] at hmx
    have hmx:bits .xor .u32 (y:Int) 4294967295=((4294967295 - y:Nat):Int):=hmx
    clear hs hf hc hu
    go_wp2_with fail
    go_ret
    rw [HS.out]
    exact ⟨rfl,rfl⟩
end Go.Proofs.YtpphoeimakjjdaaGreatDoor
