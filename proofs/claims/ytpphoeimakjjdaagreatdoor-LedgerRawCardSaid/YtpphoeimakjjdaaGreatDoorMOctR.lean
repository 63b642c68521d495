/-
  OctW LedRg1 OctR: see the remarks below.
-/
import Derived.Test.YtpphoeimakjjdaaGreatDoorMBytes
import Derived.Test.YtpphoeimakjjdaaGreatDoorMDecB
import Derived.BigQuiet
import Derived.IntWalk
import Derived.Laws.BitsAllLaws
import Derived.StillTailTactics
/-
  WALKS: layer 2: Writer.Num, put, each, Text, Bytes.
-/
namespace Go.Proofs.YtpphoeimakjjdaaGreatDoor
set_option maxRecDepth 100000
set_option maxHeartbeats 2000000
open Go.RowKit

structure WrM (w:World) (p:Nat) (v:Value) (l:B8):Prop where
 blk:w.heap[p]?=some (.cells #[v] 135 (0,0))
 row:RowY w 0 v l
 apart:p ∉ ob v
def WrTo (w:World) (p:Nat) (v:Value) (l:B8) (e:Ending) (w':World):Prop :=
 e=.returned (.tuple #[])∧∃ v',WrM w' p v' l∧(∀ k,k∈ob v'→k∈ob v∨w.heap.size≤k)∧Mod (p::ob v) w w'
theorem numF_step (f n:Nat) (h:¬ n<128):numF (f+1) n=UInt8.ofNat (n % 128+128)::numF f (n / 128):=by
 conv=>lhs;unfold numF
 rw [if_neg h]
theorem numF_end (f n:Nat) (h:n<128):numF f n=[UInt8.ofNat n]:=by
 cases f with
 | zero=>rfl
 | succ f=>unfold numF;rw [if_pos h]
theorem WrM.more {w wr w1:World} {p:Nat} {v v':Value} {d:B8} {c:UInt8} {g cap:Nat} (hw:WrM wr p v' d) (hlt:p<w.heap.size) (hf:∀ k,k∈ob v'→k∈ob v∨w.heap.size≤k) (hm:Mod (p::ob v) w wr) (o:Obj)
 (hr:RowY w1 0 (.slice (some ⟨g,0,none⟩) (d.length+1) cap) (d++[c])) (h1:Mod (ob v') (wr.alloc o) w1) (hg:g∈ob v'∨g=(wr.alloc o).heap.size) :
 WrM (w1.setCell ⟨p,0,none⟩ (.slice (some ⟨g,0,none⟩) (d.length+1) cap)) p (.slice (some ⟨g,0,none⟩) (d.length+1) cap) (d++[c])∧(∀ k,k∈ob (.slice (some ⟨g,0,none⟩) (d.length+1) cap)→k∈ob v∨w.heap.size≤k) ∧
  Mod (p::ob v) w (w1.setCell ⟨p,0,none⟩ (.slice (some ⟨g,0,none⟩) (d.length+1) cap)):=by
 have hs:=hm.size
 have hpg:p≠g:=by
  rcases hg with hg | hg
  · exact fun e=>hw.apart (e ▸ hg)
  · intro e;rw [hg] at e;simp at e;omega
 have hb1:w1.heap[p]?=some (.cells #[v'] 135 (0,0)):=h1.at_ (blk_alloc hw.blk _) hw.apart
 refine ⟨⟨blk_set hb1 0 _,?_,by simpa [ob,Value.ownBlock] using hpg⟩,?_,?_⟩
 · exact hr.mod (S:=[p]) ((Mod.refl [p] w1).setCell (by simp) _) (fun k hk e=>hpg (by simp [ob,Value.ownBlock] at hk e;omega))
 · intro k hk
   obtain rfl:k=g:=by simpa [ob,Value.ownBlock] using hk
   rcases hg with hg | hg
   · exact hf _ hg
   · exact .inr (by rw [hg];simp;omega)
 · refine Mod.setCell (Mod.trans (U:=p::ob v) (hm.alloc o) h1 (fun _ x _=>x) (fun x hx hlt2=>?_)) (by simp) _
   rcases hf x hx with h | h
   · exact List.mem_cons_of_mem _ h
   · omega
def NumRel (w:World) (p:Nat) (v:Value) (l:B8) (n:Nat) (x:Value) (wr:World):Prop :=
 ∃ (f m:Nat) (v':Value) (d:B8),x=.int .u64 (m:Int)∧m<128 ^ (f+1)∧Hid (d++numF f m=l++numF 9 n)∧WrM wr p v' d∧(∀ k,k∈ob v'→k∈ob v∨w.heap.size≤k)∧Mod (p::ob v) w wr∧f≤9∧d.length+f≤l.length+9
theorem or128 (m:Nat):bits .or .u8 ((m:Int) % 256) 128=((UInt8.ofNat (m % 128+128)).toNat:Int):=by
 have e:(m:Int) % 256=((m % 256:Nat):Int):=by omega
 rw [e,show (128:Int)=((128:Nat):Int) from rfl,u8_or_nat _ _ (by omega) (by decide),ofNat_toNat (by omega)]
 have h1:=nat_join 7 128 (m % 128) (by decide) (by omega)
 have h2:m % 256 ||| 128=128 ||| m % 128:=by
  by_cases h:m / 128 % 2=1
  · have h3:=nat_join 7 128 (m % 128) (by decide) (by omega)
    have h4:m % 256=128 ||| m % 128:=by rw [h3];omega
    rw [h4,Nat.or_assoc,Nat.or_comm (m % 128),← Nat.or_assoc,Nat.or_self]
  · have h4:m % 256=m % 128:=by omega
    rw [h4,Nat.or_comm]
 rw [h2,h1];omega
theorem num_any {w:World} {p:Nat} {v:Value} {l:B8} (h:WrM w p v l) (n:Int) (hn:n≤9223372036854775807) (hl:l.length≤1000000) :
 Calls Tryz.prog 84 #[.pointer (some ⟨p,0,none⟩),.int .i64 n] w fun e w'=>WrTo w p v (l++numB n) e w':=by
 have hbig0:(128:Nat) ^ (9+1)=1180591620717411303424:=by decide
 obtain ⟨m,hm,hq⟩:∃ m:Nat,numB n=numF 9 m∧((n<0∧m=0)∨n=(m:Int)):=by
  rcases Int.lt_or_le n 0 with hneg | hpos
  · exact ⟨0,by unfold numB;rw [show n.toNat=0 by omega],.inl ⟨hneg,rfl⟩⟩
  · exact ⟨n.toNat,rfl,.inr (by omega)⟩
 have hlt:m<128 ^ (9+1):=by rw [hbig0];omega
 clear hbig0
 rw [hm]
 clear hm
 rcases hq with ⟨hneg,rfl⟩ | rfl
 all_goals
  have HLT:=hide hlt
  clear hlt
  go_enter Tryz.func84,Tryz.ntmps84
  go_wp2_with fail
  go_loopw [4] (fun x wr=>NumRel w p v l _ x wr) (fun x _=>(intOf x).toNat)
  case atStart=>exact ⟨9,_,v,l,rfl,HLT.out,rfl,h,fun k hk=>.inl hk,Mod.refl _ _,by omega,by omega⟩
  case round =>
   obtain ⟨f,m',v',d,rfl,hm',hd,hw,hf,hmd,hf9,hdl⟩:=hrel
   have hbk:=hw.blk
   have hwr:=hmd.size
   have c1:wr.cell? ⟨p,0,none⟩=some v':=blk_cell hbk 0
   have c2:=blk_free hbk 0
   have hrow:=hw.row
   have hln:=hrow.small
   obtain ⟨q,cc,rfl⟩:=hrow.rd.len
   have hap:=hw.apart
   have hlp:p<w.heap.size:=lt_of_block h.blk
   have HB:=hide hbk
   clear hbk
   by_cases hbig:m'<128
   · have hb:decide (127<(m':Int))=false:=by simp;omega
     have hE:=numF_end f m' hbig
     obtain ⟨c,rfl⟩:∃ c:UInt8,m'=c.toNat:=⟨UInt8.ofNat m',by rw [ofNat_toNat (by omega)]⟩
     rw [ofNat_of_toNat] at hE
     have HX:=Hj3 hE hw h
     clear hE hw h
     go_wp2_with (at_builtin;refine wpList_app_1 _ rfl _ _ rfl 0 (.slice q d.length cc) d rfl (hrow.mod_alloc _) wr.heap.size c rfl (heap_alloc_new wr _) (by omega) (by simp) ?_;intro g cap' w1 hrow1 hm1 hg1 hg2;have hb1:w1.heap[p]?=some (.cells #[.slice q d.length cc] 135 (0,0)):=hm1.at_ (blk_alloc HB.out _) hap;have c1':w1.cell? ⟨p,0,none⟩=some (.slice q d.length cc):=blk_cell hb1 0;have c2':=blk_free hb1 0;have HB1:=hide hb1;clear hb1)
     go_end0
     obtain ⟨k1,k2,k3⟩:=HX.out.2.1.more hlp hf hmd _ hrow1 hm1 hg1
     have e:=hd.out
     rw [HX.out.1] at e
     rw [← e]
     exact ⟨rfl,_,k1,k2,k3⟩
   · have hb:decide (127<(m':Int))=true:=by simp;omega
     have hob:=or128 m'
     have hns:=numF_step (f - 1) m' hbig
     have hf0:0<f:=by
      refine Nat.pos_of_ne_zero fun e=>?_
      subst e
      simp at hm';omega
     have hmd8:m' / 128<128 ^ f:=by rw [Nat.div_lt_iff_lt_mul (by decide),← Nat.pow_succ];exact hm'
     generalize hc:UInt8.ofNat (m' % 128+128)=c at hob hns
     have HX:=Hj3 hns hw hmd8
     clear hns hw hc hmd8
     go_wp2_with (at_builtin;refine wpList_app_1 _ rfl _ _ rfl 0 (.slice q d.length cc) d rfl (hrow.mod_alloc _) wr.heap.size c rfl (heap_alloc_new wr _) (by omega) (by simp) ?_;intro g cap' w1 hrow1 hm1 hg1 hg2;have hb1:w1.heap[p]?=some (.cells #[.slice q d.length cc] 135 (0,0)):=hm1.at_ (blk_alloc HB.out _) hap;have c1':w1.cell? ⟨p,0,none⟩=some (.slice q d.length cc):=blk_cell hb1 0;have c2':=blk_free hb1 0;have HB1:=hide hb1;clear hb1)
     go_roundw
     case rel =>
      obtain ⟨k1,k2,k3⟩:=HX.out.2.1.more hlp hf hmd _ hrow1 hm1 hg1
      have e1:=HX.out.1
      rw [show f - 1+1=f by omega] at e1
      refine ⟨f - 1,m' / 128,_,d++[c],by go_num,by rw [show f - 1+1=f by omega];exact HX.out.2.2,?_,k1,k2,k3,by omega,by simp;omega⟩
      refine hide ?_
      rw [List.append_assoc,List.singleton_append,← e1]
      exact hd.out
     case measure=>simp [intOf];omega

theorem put_any {w:World} {p:Nat} {v:Value} {d:B8} (h:WrM w p v d) (c:UInt8) (hl:d.length≤100000000000) :
 Calls Tryz.prog 127 #[.pointer (some ⟨p,0,none⟩),.int .u8 (c.toNat:Int)] w fun e w'=>WrTo w p v (d++[c]) e w':=by
 have hbk:=h.blk
 have c1:w.cell? ⟨p,0,none⟩=some v:=blk_cell hbk 0
 have c2:=blk_free hbk 0
 have hrow:=h.row
 obtain ⟨q,cc,rfl⟩:=hrow.rd.len
 have hap:=h.apart
 have hlp:p<w.heap.size:=lt_of_block h.blk
 have HB:=hide hbk
 have HX:=hide h
 clear hbk h
 go_enter Tryz.func127,Tryz.ntmps127
 go_wp2_with (at_builtin;refine wpList_app_1 _ rfl _ _ rfl 0 (.slice q d.length cc) d rfl (hrow.mod_alloc _) w.heap.size c rfl (heap_alloc_new w _) (by omega) (by simp) ?_;intro g cap' w1 hrow1 hm1 hg1 hg2;have hb1:w1.heap[p]?=some (.cells #[.slice q d.length cc] 135 (0,0)):=hm1.at_ (blk_alloc HB.out _) hap;have c1':w1.cell? ⟨p,0,none⟩=some (.slice q d.length cc):=blk_cell hb1 0;have c2':=blk_free hb1 0;have HB1:=hide hb1;clear hb1)
 go_end0
 obtain ⟨k1,k2,k3⟩:=HX.out.more hlp (fun k hk=>.inl hk) (Mod.refl _ _) _ hrow1 hm1 hg1
 exact ⟨rfl,_,k1,k2,k3⟩
def EachRel (w:World) (p:Nat) (v:Value) (d:B8) (s:ByteArray) (x:Value) (wr:World):Prop :=
 ∃ (k:Nat) (v':Value),x=.int .i64 (k:Int)∧k≤s.size∧WrM wr p v' (d++s.data.toList.take k)∧Hid (∀ k,k∈ob v'→k∈ob v∨w.heap.size≤k)∧Mod (p::ob v) w wr
theorem WrTo.chain {w wr w':World} {p:Nat} {v v':Value} {l:B8} {e:Ending} (hf:∀ k,k∈ob v'→k∈ob v∨w.heap.size≤k) (hm:Mod (p::ob v) w wr) (h:WrTo wr p v' l e w') :
 e=.returned (.tuple #[])∧∃ v2,WrM w' p v2 l∧(∀ k,k∈ob v2→k∈ob v∨w.heap.size≤k)∧Mod (p::ob v) w w':=by
 obtain ⟨he,v2,h1,h2,h3⟩:=h
 have hs:=hm.size
 refine ⟨he,v2,h1,fun k hk=>?_,hm.trans h3 (fun _ x _=>x) (fun x hx hlt=>?_)⟩
 · rcases h2 k hk with h | h
   · exact hf k h
   · exact .inr (by omega)
 · rcases List.mem_cons.1 hx with rfl | hx
   · exact List.mem_cons_self
   · rcases hf x hx with h | h
     · exact List.mem_cons_of_mem _ h
     · omega
theorem each_any {w:World} {p:Nat} {v:Value} {d:B8} (h:WrM w p v d) (s:ByteArray) (hs:s.size≤1000000000) (hl:d.length≤1000000000) :
 Calls Tryz.prog 126 #[.string s,.func (.func 127) #[.pointer (some ⟨p,0,none⟩)] #[]] w fun e w'=>WrTo w p v (d++s.data.toList) e w':=by
 go_enter Tryz.func126,Tryz.ntmps126
 go_wp2_with fail
 go_loopw [7] (fun x wr=>EachRel w p v d s x wr) (fun x _=>s.size - (intOf x).toNat)
 case atStart=>exact ⟨0,v,rfl,Nat.zero_le _,by simpa using h,hide (fun k hk=>.inl hk),Mod.refl _ _⟩
 case round =>
  obtain ⟨k,v',rfl,hk,hw,hf,hm⟩:=hrel
  by_cases hlt:k<s.size
  · have hsz:=hm.size
    have hnx:s.data.toList.take (k+1)=s.data.toList.take k++[s[k]]:=by
     rw [List.take_succ_eq_append_getElem (by simpa using hlt)];rfl
    have HN:=hide hnx
    clear hnx
    go_wp2_with fail
    refine (put_any hw s[k] (by simp;omega)).mono ?_
    rintro e w' hto
    obtain ⟨rfl,v2,h1,h2,h3⟩:=WrTo.chain hf.out hm hto
    have H2:=hide h2
    clear h2 hto
    go_wp2_with fail
    go_roundw
    case rel=>exact ⟨k+1,v2,by go_num,by omega,by rw [HN.out,← List.append_assoc];exact h1,H2,h3⟩
    case measure=>simp [intOf];omega
  · obtain rfl:k=s.size:=by omega
    go_wp2_with fail
    go_end0
    refine ⟨rfl,v',?_,hf.out,hm⟩
    rw [List.take_of_length_le (by simp)] at hw
    exact hw
def textB (s:ByteArray):B8:=numB s.size++s.data.toList
theorem text_any {w:World} {p:Nat} {v:Value} {d:B8} (h:WrM w p v d) (s:ByteArray) (hs:s.size≤1000000) (hl:d.length≤1000000) :
 Calls Tryz.prog 86 #[.pointer (some ⟨p,0,none⟩),.string s] w fun e w'=>WrTo w p v (d++textB s) e w':=by
 have hmf:∀ (fn:Fn) (first cap:Array Value) (w:World),(Instr.makeFunc fn first cap).run Tryz.prog w=.ok (.func fn first cap) w:=fun _ _ _ _=>rfl
 go_enter Tryz.func86,Tryz.ntmps86
 go_wp2_with fail
 refine (num_any h (s.size:Int) (by omega) hl).mono ?_
 rintro e w' ⟨rfl,v1,h1,h2,h3⟩
 have hnl:=numB_len s.size
 go_wp2_with fail
 refine (each_any h1 s (by omega) (by simp;omega)).mono ?_
 rintro e w2 hto
 obtain ⟨rfl,v2,k1,k2,k3⟩:=WrTo.chain h2 h3 hto
 clear hto
 go_wp2_with fail
 go_end0
 refine ⟨rfl,v2,?_,k2,k3⟩
 unfold textB
 rw [← List.append_assoc]
 exact k1
end Go.Proofs.YtpphoeimakjjdaaGreatDoor
/-
  WALKS: the document's layer 2: Num, Four.
-/
namespace Go.Proofs.YtpphoeimakjjdaaGreatDoor
set_option maxRecDepth 100000
set_option maxHeartbeats 2000000
open Go.RowKit

def RgY (w:World) (l:B8) (e:Ending) (w':World):Prop:=∃ v,e=.returned v∧RowY w' w.heap.size v l∧Mod [] w w'
theorem mod_new {W W1 W2:World} {S:List Nat} (m:Mod [] W W1) (m2:Mod S W1 W2) (hS:∀ k,k∈S→W.heap.size≤k):Mod [] W W2:=m.trans m2 (fun _ x _=>x) (fun x hx hlt=>absurd (hS x hx) (by omega))
def RgNRel (w:World) (N:B8) (x v:Value) (wr:World):Prop :=
 ∃ (f m:Nat) (d:B8),x=.int .i64 (m:Int)∧m<128 ^ (f+1)∧m≤9223372036854775807∧Hid (d++numF f m=N)∧RowY wr w.heap.size v d∧Mod [] w wr∧d.length+f≤9
theorem rgNum_any (n:Int) (hn:n≤9223372036854775807) (w:World):Calls Tryz.prog 139 #[.int .i64 n] w fun e w'=>RgY w (numB n) e w':=by
 have hbig0:(128:Nat) ^ (9+1)=1180591620717411303424:=by decide
 obtain ⟨m,hm,hmm,hq⟩:∃ m:Nat,numB n=numF 9 m∧m≤9223372036854775807∧((n<0∧m=0)∨n=(m:Int)):=by
  rcases Int.lt_or_le n 0 with hneg | hpos
  · exact ⟨0,by unfold numB;rw [show n.toNat=0 by omega],by omega,.inl ⟨hneg,rfl⟩⟩
  · exact ⟨n.toNat,rfl,by omega,.inr (by omega)⟩
 have hlt:m<128 ^ (9+1):=by rw [hbig0];omega
 clear hbig0
 rw [hm]
 clear hm
 obtain ⟨N,hN⟩:∃ N,numF 9 m=N:=⟨_,rfl⟩
 rw [hN]
 have HLT:=Hj2 hlt hN
 clear hlt hN
 rcases hq with ⟨hneg,rfl⟩ | rfl
 all_goals
  go_enter Tryz.func139,Tryz.ntmps139
  go_wp2_with fail
  go_loopw [0,3] (fun x v wr=>RgNRel w N x v wr) (fun x _ _=>(intOf x).toNat)
  case atStart=>exact ⟨9,_,[],rfl,HLT.out.1,hmm,HLT.out.2,RowY.nil _ _,Mod.refl _ _,by simp⟩
  case round =>
   obtain ⟨f,m',d,rfl,hm',hmm',hd,hrow,hmd,hdl⟩:=hrel
   obtain ⟨q,cc,rfl⟩:=hrow.rd.len
   have hb0:=hmd.size
   by_cases hbig:m'<128
   · have hb:decide (128≤(m':Int))=false:=by simp;omega
     have hE:=numF_end f m' hbig
     obtain ⟨c,rfl⟩:∃ c:UInt8,m'=c.toNat:=⟨UInt8.ofNat m',by rw [ofNat_toNat (by omega)]⟩
     rw [ofNat_of_toNat] at hE
     have HX:=Hj2 hE hd.out
     clear hE
     go_wp2_with (at_builtin;refine wpList_app_1 _ rfl _ _ rfl w.heap.size (.slice q d.length cc) d rfl (hrow.mod_alloc _) wr.heap.size c rfl (heap_alloc_new wr _) (by omega) (by simp;omega) ?_;intro g cap' w1 hrow1 hm1 hg1 hg2)
     go_ret
     have e:=HX.out.2
     rw [HX.out.1] at e
     rw [← e]
     exact ⟨_,rfl,by simpa using hrow1,mod_new (hmd.alloc _) hm1 (fun k hk=>(hrow.blk k hk).1)⟩
   · have hb:decide (128≤(m':Int))=true:=by simp;omega
     have hns:=numF_step (f - 1) m' hbig
     have hf0:0<f:=by
      refine Nat.pos_of_ne_zero fun e=>?_
      subst e
      simp at hm';omega
     have hmd8:m' / 128<128 ^ f:=by rw [Nat.div_lt_iff_lt_mul (by decide),← Nat.pow_succ];exact hm'
     have hob:IntKind.u8.wrap ((m':Int) % 128+128)=((UInt8.ofNat (m' % 128+128)).toNat:Int):=by
      rw [ofNat_toNat (by omega),IntKind.wrap_u8']
      omega
     generalize hc:UInt8.ofNat (m' % 128+128)=c at hob hns
     have HX:=Hj3 hns hd.out hmd8
     clear hns hc hmd8
     go_wp2_with (at_builtin;refine wpList_app_1 _ rfl _ _ rfl w.heap.size (.slice q d.length cc) d rfl (hrow.mod_alloc _) wr.heap.size c rfl (heap_alloc_new wr _) (by omega) (by simp;omega) ?_;intro g cap' w1 hrow1 hm1 hg1 hg2)
     go_roundw
     case rel =>
      have e1:=HX.out.1
      rw [show f - 1+1=f by omega] at e1
      refine ⟨f - 1,m' / 128,d++[c],by go_num,by rw [show f - 1+1=f by omega];exact HX.out.2.2,by omega,hide ?_,by simpa using hrow1,mod_new (hmd.alloc _) hm1 (fun k hk=>(hrow.blk k hk).1),by simp;omega⟩
      rw [List.append_assoc,List.singleton_append,← e1]
      exact HX.out.2.1
     case measure=>simp [intOf];omega
end Go.Proofs.YtpphoeimakjjdaaGreatDoor
/-
  WALKS: layer 2: Bytes, NewReader, num, Reader.Num, Reader.Text.
-/
namespace Go.Proofs.YtpphoeimakjjdaaGreatDoor
set_option maxRecDepth 100000
set_option maxHeartbeats 4000000
open Go.RowKit

def NewY (w:World) (m:B8) (e:Ending) (w':World):Prop:=∃ p c,e=.returned (.slice p m.length c)∧RowY w' w.heap.size (.slice p m.length c) m∧Mod [] w w'
theorem bytes_any {w:World} {p:Nat} {v:Value} {d:B8} (h:WrM w p v d) (hl:d.length≤1000000000) :
 Calls Tryz.prog 87 #[.pointer (some ⟨p,0,none⟩)] w fun e w'=>NewY w d e w':=by
 have c1:w.cell? ⟨p,0,none⟩=some v:=blk_cell h.blk 0
 have c2:=blk_free h.blk 0
 have hrow:=h.row.rd
 obtain ⟨q,cc,rfl⟩:=hrow.len
 have HX:=hide h
 clear h
 go_enter Tryz.func87,Tryz.ntmps87
 go_wp2_with (at_builtin;refine wpList_copy_y _ rfl _ _ rfl rfl rfl hrow (by omega) ?_;intro p' c' w1 hr hm)
 go_ret
 exact ⟨_,_,rfl,hr,hm⟩
structure RrM (w:World) (p:Nat) (v:Value) (l:B8) (x:Int):Prop where
 blk:w.heap[p]?=some (.cells #[v,.int .i64 x] 209 (0,0))
 rd:RdY w v l
 apart:p ∉ ob v
theorem and127 (c:UInt8):bits .and .u8 (c.toNat:Int) 127=((c.toNat % 128:Nat):Int):=by
 have:=u8_and_nat c.toNat 127 (byte_lt c) (by decide)
 rw [nat_mask7] at this
 exact this
theorem or64 (m k n:Nat) (hk:k≤8) (hm:m<128 ^ k):bits .or .u64 (m:Int) (IntKind.u64.wrap ((n:Int) % 128 * 2 ^ (7 * k)))=((m+128 ^ k * (n % 128):Nat):Int):=by
 have hp:(2:Nat) ^ (7 * k)=128 ^ k:=by rw [Nat.pow_mul]
 have h1:(128:Nat) ^ k≤128 ^ 8:=Nat.pow_le_pow_right (by decide) hk
 have h2:(128:Nat) ^ 8=72057594037927936:=by decide
 have h3:=Nat.mul_le_mul h1 (show n % 128≤127 by omega)
 have e1:(n:Int) % 128 * 2 ^ (7 * k)=((128 ^ k * (n % 128):Nat):Int):=by
  have e0:((2 ^ (7 * k):Nat):Int)=2 ^ (7 * k):=by push_cast;rfl
  rw [← hp,Int.natCast_mul,e0,Int.mul_comm]
  rfl
 have e2:IntKind.u64.wrap ((128 ^ k * (n % 128):Nat):Int)=((128 ^ k * (n % 128):Nat):Int):=by
  rw [IntKind.wrap_u64]
  have:128 ^ k * (n % 128)<18446744073709551616:=by omega
  omega
 rw [e1,e2,u64_or_nat _ _ (by omega) (by omega)]
 have h4:=nat_join (7 * k) (128 ^ k * (n % 128)) m (by rw [hp];exact Nat.mul_mod_right _ _) (by rw [hp];exact hm)
 rw [Nat.or_comm,h4,Nat.add_comm]
theorem rnum_any {w:World} {u:Value} {b:B8} (hu:RdY w u b) :
 Calls Tryz.prog 151 #[u] w fun e w'=>e=.returned (.tuple #[.int .i64 (takeN b).1,.int .i64 (takeN b).2.1,.int .i64 (takeN b).2.2])∧w=w':=by
 have h1:b.length≤9223372036854775807:=hu.1
 obtain ⟨p,c,rfl⟩:=hu.len
 go_enter Tryz.func151,Tryz.ntmps151
 go_wp2_with fail
 go_loop [5,10] (fun x i=>∃ k m:Nat,k≤b.length∧k≤8∧i=.int .i64 (k:Int)∧x=.int .u64 (m:Int)∧m<128 ^ k∧Hid (comb m k (takeF k (b.drop k))=takeN b)) (fun _ i=>b.length - (intOf i).toNat)
 case atStart=>exact ⟨0,0,Nat.zero_le _,by omega,rfl,rfl,by decide,hide (comb_zero _ (takeN_bound b).2.2.2)⟩
 case round =>
  obtain ⟨k,m,hk,hk8,rfl,rfl,hm,hc⟩:=hrel
  by_cases hlt:k<b.length
  · obtain ⟨b1,o1,rfl,hb1,c1⟩:=hu.at_ k hlt
    have hdr:b.drop k=b.getD k 0::b.drop (k+1):=by
     rw [List.drop_eq_getElem_cons hlt];simp [hlt]
    rw [hdr] at hc
    generalize b.getD k 0=y at c1 hc
    unfold y8 at c1
    have hand:=and127 y
    have hn:=byte_lt y
    have hor:=or64 m k y.toNat hk8 hm
    have hN:m+128 ^ k * (y.toNat % 128)<9223372036854775808:=by
     have h1:(128:Nat) ^ k≤128 ^ 8:=Nat.pow_le_pow_right (by decide) hk8
     have h2:(128:Nat) ^ 8=72057594037927936:=by decide
     have h3:=Nat.mul_le_mul h1 (show y.toNat % 128≤127 by omega)
     omega
    have hN2:128≤y.toNat→m+128 ^ k * (y.toNat % 128)<128 ^ (k+1):=fun _=>by
     have h3:128 ^ k * (y.toNat % 128)≤128 ^ k * 127:=Nat.mul_le_mul (Nat.le_refl _) (by omega)
     rw [Nat.pow_succ];omega
    generalize hNe:m+128 ^ k * (y.toNat % 128)=N at hor hN hN2
    clear hdr hu
    by_cases h128:y.toNat<128
    · by_cases h0:y.toNat=0
      · by_cases hk0:0<k
        · have hR:takeN b=(0,0,21):=by
           rw [← hc.out,takeF_form _ h128 ⟨h0,hk0⟩,comb_err _ _ _ (by decide)]
          have HR:=hide hR
          clear hR hNe
          go_wp2_with fail
          go_ret3
          rw [HR.out]
          exact ⟨rfl,rfl⟩
        · have hR:takeN b=(N,k+1,0):=by
           rw [← hc.out,← hNe,takeF_num _ h128 (by omega),comb_ok,Nat.mod_eq_of_lt h128]
          have HR:=hide hR
          have b0:((y.toNat:Int)==0)=true:=by simp;omega
          have H0:=hide h0
          clear hR hNe hc h0
          go_wp2_with fail
          go_ret3
          rw [HR.out]
          exact ⟨rfl,rfl⟩
      · have hR:takeN b=(N,k+1,0):=by
         rw [← hc.out,← hNe,takeF_num _ h128 (by omega),comb_ok,Nat.mod_eq_of_lt h128]
        have HR:=hide hR
        have b0:((y.toNat:Int)==0)=false:=by simp;omega
        clear hR hNe hc
        go_wp2_with fail
        go_ret3
        rw [HR.out]
        exact ⟨rfl,rfl⟩
    · have h128':128≤y.toNat:=by omega
      by_cases hk7:k=8
      · have hR:takeN b=(0,0,21):=by
         rw [← hc.out,hk7,takeF_long _ h128,comb_err _ _ _ (by decide)]
        have HR:=hide hR
        have b8:((k:Int)==8)=true:=by simp;omega
        clear hR hNe hc hk7
        go_wp2_with fail
        go_ret3
        rw [HR.out]
        exact ⟨rfl,rfl⟩
      · have hR:=hc.out
        rw [comb_step h128' hk7] at hR
        rw [show y.toNat - 128=y.toNat % 128 by omega,hNe] at hR
        have HR:=hide hR
        have HN:=hide (hN2 h128')
        have b8:((k:Int)==8)=false:=by simp;omega
        clear hR hNe hc hN2 hm
        go_wp2_with fail
        go_round
        case rel=>exact ⟨k+1,N,by omega,by omega,by go_num,rfl,HN.out,HR⟩
        case measure=>simp [intOf];omega
  · have hR:takeN b=(0,0,20):=by
     rw [← hc.out,List.drop_of_length_le (by omega)];rfl
    have HR:=hide hR
    clear hR hc hu
    go_wp2_with fail
    go_ret3
    rw [HR.out]
    exact ⟨rfl,rfl⟩
def rdNum (l:B8) (x:Int):Int × B8 × Int:=if x=0 then ((takeN l).1,l.drop (takeN l).2.1,(takeN l).2.2) else (0,l,x)
def RdTo (p:Nat) (w:World) (v:Value) (r:Value) (l:B8) (x:Int) (e:Ending) (w':World):Prop :=
 e=.returned r∧∃ v',RrM w' p v' l x∧(∀ k,k∈ob v'→k∈ob v)∧Mod [p] w w'
theorem RrM.set {w:World} {p:Nat} {v v':Value} {l l':B8} {x:Int} (h:RrM w p v l x) (hr:RdY w v' l') (ho:∀ k,k∈ob v'→k∈ob v) (e:Int) :
 ∃ v2,RrM ((w.setCell ⟨p,0,none⟩ v').setCell ⟨p,1,none⟩ (.int .i64 e)) p v2 l' e∧(∀ k,k∈ob v2→k∈ob v)∧Mod [p] w ((w.setCell ⟨p,0,none⟩ v').setCell ⟨p,1,none⟩ (.int .i64 e)):=by
 have hm:Mod [p] w ((w.setCell ⟨p,0,none⟩ v').setCell ⟨p,1,none⟩ (.int .i64 e)):=((Mod.refl [p] w).setCell (by simp) _).setCell (by simp) _
 refine ⟨v',⟨blk_set (blk_set h.blk 0 _) 1 _,hr.mod hm (fun k hk e=>?_),fun hp=>h.apart (ho _ hp)⟩,ho,hm⟩
 simp at e
 subst e
 exact h.apart (ho _ hk)
theorem RrM.err {w:World} {p:Nat} {v:Value} {l:B8} {x:Int} (h:RrM w p v l x) (e:Int) :
 ∃ v2,RrM (w.setCell ⟨p,1,none⟩ (.int .i64 e)) p v2 l e∧(∀ k,k∈ob v2→k∈ob v)∧Mod [p] w (w.setCell ⟨p,1,none⟩ (.int .i64 e)):=by
 have hm:Mod [p] w (w.setCell ⟨p,1,none⟩ (.int .i64 e)):=(Mod.refl [p] w).setCell (by simp) _
 refine ⟨v,⟨blk_set h.blk 1 _,h.rd.mod hm (fun k hk e=>?_),h.apart⟩,fun _ h=>h,hm⟩
 simp at e
 subst e
 exact h.apart hk
theorem RrM.left {w:World} {p:Nat} {v v':Value} {l l':B8} {x:Int} (h:RrM w p v l x) (hr:RdY w v' l') (ho:∀ k,k∈ob v'→k∈ob v) :
 ∃ v2,RrM (w.setCell ⟨p,0,none⟩ v') p v2 l' x∧(∀ k,k∈ob v2→k∈ob v)∧Mod [p] w (w.setCell ⟨p,0,none⟩ v'):=by
 have hm:Mod [p] w (w.setCell ⟨p,0,none⟩ v'):=(Mod.refl [p] w).setCell (by simp) _
 refine ⟨v',⟨blk_set h.blk 0 _,hr.mod hm (fun k hk e=>?_),fun hp=>h.apart (ho _ hp)⟩,ho,hm⟩
 simp at e
 subst e
 exact h.apart (ho _ hk)
theorem readNum_any {w:World} {p:Nat} {v:Value} {l:B8} {x:Int} (h:RrM w p v l x) :
 Calls Tryz.prog 111 #[.pointer (some ⟨p,0,none⟩)] w fun e w'=>RdTo p w v (.int .i64 (rdNum l x).1) (rdNum l x).2.1 (rdNum l x).2.2 e w':=by
 have c1:w.cell? ⟨p,0,none⟩=some v:=blk_cell h.blk 0
 have c2:w.cell? ⟨p,1,none⟩=some (.int .i64 x):=blk_cell h.blk 1
 have f1:=blk_free h.blk 0
 have f2:=blk_free h.blk 1
 have hrd:=h.rd
 have hlen:l.length≤9223372036854775807:=hrd.1
 unfold rdNum
 have HX:=hide h
 clear h
 by_cases hx:x=0
 · subst hx
   rw [if_pos rfl]
   have hb:=takeN_bound l
   have hk:=hb.2.1
   obtain ⟨q,cc,rfl⟩:=hrd.len
   have hN:=rnum_any hrd
   generalize takeN l=t at *
   obtain ⟨n,k,x⟩:=t
   simp only at hk hb hN ⊢
   clear hb
   go_enter Tryz.func111,Tryz.ntmps111
   go_wp2_with (refine hN.mono ?_;rintro e w' ⟨rfl,rfl⟩)
   · have hcc:cc=k:=by assumption
     subst hcc
     go_ret
     exact ⟨rfl,HX.out.set (hrd.cut0 rfl hk) (ob_same _ _ _ _ _) x⟩
   · go_ret
     exact ⟨rfl,HX.out.set (hrd.cut hk) (ob_cut _ _ _ _ _ _) x⟩
 · rw [if_neg hx]
   have hb:(x != 0)=true:=by simpa using hx
   have H2:=hide hx
   clear hx
   go_enter Tryz.func111,Tryz.ntmps111
   go_wp2_with fail
   go_ret
   exact ⟨rfl,v,HX.out,fun _ h=>h,Mod.refl _ _⟩
def rdText (most:Int) (l:B8) (x:Int):B8 × B8 × Int :=
 if x≠0 then ([],l,x) else if (takeN l).2.2≠0 then ([],l,(takeN l).2.2) else if max most 0<((takeN l).1:Int) then ([],l,21)
 else if l.length - (takeN l).2.1<(takeN l).1 then ([],l,20) else ((l.drop (takeN l).2.1).take (takeN l).1,l.drop ((takeN l).2.1+(takeN l).1),0)
theorem readText_any {w:World} {p:Nat} {v:Value} {l:B8} {x:Int} (h:RrM w p v l x) (most:Int) (h0:0≤most) :
 Calls Tryz.prog 112 #[.pointer (some ⟨p,0,none⟩),.int .i64 most] w fun e w'=>RdTo p w v (.string ⟨(rdText most l x).1.toArray⟩) (rdText most l x).2.1 (rdText most l x).2.2 e w':=by
 have c1:w.cell? ⟨p,0,none⟩=some v:=blk_cell h.blk 0
 have c2:w.cell? ⟨p,1,none⟩=some (.int .i64 x):=blk_cell h.blk 1
 have f1:=blk_free h.blk 0
 have f2:=blk_free h.blk 1
 have hrd:=h.rd
 have hlen:l.length≤9223372036854775807:=hrd.1
 have HX:=hide h
 clear h
 unfold rdText
 by_cases hx:x=0
 · rw [if_neg (by simpa using hx)]
   have hmx:max most 0=most:=by omega
   rw [hmx]
   have hb:=takeN_bound l
   obtain ⟨q,cc,rfl⟩:=hrd.len
   have hN:=rnum_any hrd
   generalize takeN l=t at *
   obtain ⟨n,k,y⟩:=t
   simp only at hb hN ⊢
   have hk:=hb.2.1
   have hn:=hb.1
   subst hx
   by_cases hy:y=0
   · subst hy
     rw [if_neg (by simp)]
     clear hb
     by_cases hm:most<(n:Int)
     · rw [if_pos hm]
       have H1:=hide hmx
       clear hmx
       go_enter Tryz.func112,Tryz.ntmps112
       go_wp2_with (refine hN.mono ?_;rintro e w' ⟨rfl,rfl⟩)
       go_ret
       exact ⟨rfl,HX.out.err 21⟩
     · rw [if_neg hm]
       have hm':(n:Int)≤most:=by omega
       by_cases hr:l.length - k<n
       · rw [if_pos hr]
         have hr':(l.length:Int) - (k:Int)<(n:Int):=by omega
         have H1:=Hj3 hmx hm hr
         clear hmx hm hr
         go_enter Tryz.func112,Tryz.ntmps112
         go_wp2_with (refine hN.mono ?_;rintro e w' ⟨rfl,rfl⟩)
         go_ret
         exact ⟨rfl,HX.out.err 20⟩
       · rw [if_neg hr]
         have hr':¬ (l.length:Int) - (k:Int)<(n:Int):=by omega
         have hr2:(k:Int)+(n:Int)≤(l.length:Int):=by omega
         have hr3:k+n≤l.length:=by omega
         have hcap:=hrd.cap
         have hcap':(k:Int)+(n:Int)≤(cc:Int):=by omega
         have H1:=Hj3 hmx hm hr
         have hl1:((l.drop k).take n).length=n:=by simp;omega
         by_cases hcc:cc=k
         · obtain rfl:n=0:=by omega
           subst hcc
           have r2:=(RdY.nil w q 0).str
           have e1:(l.drop cc).take 0=[]:=by simp
           rw [e1]
           clear hmx hm hr hl1 e1
           go_enter Tryz.func112,Tryz.ntmps112
           go_wp2_with (refine hN.mono ?_;rintro e w' ⟨rfl,rfl⟩)
           go_ret
           rw [List.drop_of_length_le (by omega)]
           exact ⟨rfl,HX.out.left (RdY.nil _ _ _) (ob_same _ _ _ _ _)⟩
         · have r0:=hrd.cut hk
           rw [← List.length_drop] at r0
           have r1:=r0.take (k:=n) (by simp;omega)
           have r2:=r1.str
           clear r0
           by_cases hcn:cc=k+n
           · have r3:=hrd.cut0 hcn hr3
             rw [show l.length - (k+n)=0 by omega] at r3
             clear hmx hm hr hl1
             subst hcn
             rw [Nat.add_sub_cancel_left] at r2
             go_enter Tryz.func112,Tryz.ntmps112
             go_wp2_with (refine hN.mono ?_;rintro e w' ⟨rfl,rfl⟩)
             go_ret
             exact ⟨rfl,HX.out.left r3 (ob_same _ _ _ _ _)⟩
           · have r3:=hrd.cut hr3
             clear hmx hm hr hl1
             go_enter Tryz.func112,Tryz.ntmps112
             go_wp2_with (refine hN.mono ?_;rintro e w' ⟨rfl,rfl⟩)
             go_ret
             exact ⟨rfl,HX.out.left r3 (ob_cut _ _ _ _ _ _)⟩
   · rw [if_pos hy]
     have hb:(y != 0)=true:=by simpa using hy
     have H2:=hide hy
     clear hy
     go_enter Tryz.func112,Tryz.ntmps112
     go_wp2_with (refine hN.mono ?_;rintro e w' ⟨rfl,rfl⟩)
     go_ret
     exact ⟨rfl,HX.out.err y⟩
 · rw [if_pos hx]
   have hb:(x != 0)=true:=by simpa using hx
   have H2:=hide hx
   clear hx
   go_enter Tryz.func112,Tryz.ntmps112
   go_wp2_with fail
   go_ret
   exact ⟨rfl,v,HX.out,fun _ h=>h,Mod.refl _ _⟩
end Go.Proofs.YtpphoeimakjjdaaGreatDoor
