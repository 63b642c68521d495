/-
  WALKS: the document's layer 9: New, From, Same.
-/
import Derived.Test.YtpphoeimakjjdaaGreatDoorMLedRg8
import Derived.Test.YtpphoeimakjjdaaGreatDoorMLedRgA
import Derived.Test.YtpphoeimakjjdaaGreatDoorMStepC
import Derived.Test.YtpphoeimakjjdaaGreatDoorMDisk4
namespace Go.Proofs.YtpphoeimakjjdaaGreatDoor
set_option maxRecDepth 100000
set_option maxHeartbeats 2000000
open Go.RowKit

theorem step_app_rs {ops:Array Oper} {o:Oper} {a:Act} {w:World} {K:Act→World→Prop} {Q:Exit→Act→World→Prop} {E:Prop} (hgd:o.guard=none) (s x:Operand)
 (ho:o.op=.call { callee:=.builtin .append,args:=#[s,x],argTypes:=#[65,65] })
 (base:Nat) (v:Value) (vs:List Value) (ls:List B8) (hs:a.eval s=v) (hown:RdsY w base v vs ls) (k:Nat) (sv:Value) (b:B8) (hx:a.eval x=.slice (some ⟨k,0,none⟩) 1 1)
 (hc:w.heap[k]?=some (.cells #[sv] 71 (0,0))) (hone:sv.oneCell'=true) (hsv:ElY w base sv b) (hap:∀ k,k∈ob sv→k ∉ ob v) (hsz:ls.length≤1000000) (hbase:base≤w.heap.size)
 (h:∀ g cap w',RdsY w' base (.slice (some ⟨g,0,none⟩) (ls.length+1) cap) (vs++[sv]) (ls++[b])→Mod (ob v) w w'→(g∈ob v∨g=w.heap.size)→g<w'.heap.size→K (a.put o.dst (.slice (some ⟨g,0,none⟩) (ls.length+1) cap)) w') :
 if Region.wanted o (yielded ops a.tmps)=true then Oper.wp Tryz.prog o a w K Q else E:=by
 have hw:Region.wanted o (yielded ops a.tmps)=true:=by simp [Region.wanted,hgd]
 rw [if_pos hw]
 obtain ⟨i0,hi0,hz0,hs0,hb0⟩:=info_parts (show (Tryz.prog.info? 71).map (fun i=>(i.zero,i.size,i.bytes))=some (some (.slice none 0 0),1,24) by kernel_rfl)
 have hl:=hown.len
 refine wp_append_lies w s x 65 ho base 71 i0 _ 1 24 Tryz.underlying65 hi0 hz0 hs0 hb0 rfl (by decide) v ls.length vs hs hown.row ⟨k,0,none⟩ 1 1 [sv] hx rfl ?_ (by simp [hone]) (by decide) (by unfold maxLen;omega) (by omega) hbase _ rfl ?_
 · intro j u hu
   obtain ⟨hj,rfl⟩:=List.getElem?_eq_some_iff.1 hu
   obtain rfl:j=0:=by simp at hj;omega
   rw [Addr.add_lit]
   simp [World.cell?,hc]
 · intro g cap' w' hr hg hat _
   have hm:Mod (ob v) w w':=(Mod.refl (ob v) w).grown hg (fun k e _=>by simp [ob,e])
   have hat':g∈ob v∨g=w.heap.size:=hat.imp (fun e=>by simp [ob,e]) id
   have hrl:w'.ownsRow base 71 1 (.slice (some ⟨g,0,none⟩) (ls.length+1) cap') (ls++[b]).length (vs++[sv]):=by rw [List.length_append];exact hr
   have hg':g<w'.heap.size:=(World.ownsRow.lt hrl g rfl).2
   refine h g cap' w' ⟨hrl,fun i hi=>?_,fun i hi q hq=>?_⟩ hm hat' hg'
   · rcases Nat.lt_or_ge i ls.length with h1 | h1
     · have e1:(vs++[sv]).getD i nilS=vs.getD i nilS:=by simp [List.getD,List.getElem?_append_left (show i<vs.length by omega)]
       have e2:(ls++[b]).getD i []=ls.getD i []:=by simp [List.getD,List.getElem?_append_left h1]
       rw [e1,e2]
       exact (hown.el i h1).mod hm (hown.apart i h1)
     · obtain rfl:i=ls.length:=by simp at hi;omega
       have e1:(vs++[sv]).getD ls.length nilS=sv:=by rw [← hl];simp [List.getD]
       have e2:(ls++[b]).getD ls.length []=b:=by simp [List.getD]
       rw [e1,e2]
       exact hsv.mod hm hap
   · have hq':q ∉ ob v∧q<w.heap.size:=by
      rcases Nat.lt_or_ge i ls.length with h1 | h1
      · have e1:(vs++[sv]).getD i nilS=vs.getD i nilS:=by simp [List.getD,List.getElem?_append_left (show i<vs.length by omega)]
        rw [e1] at hq
        exact ⟨hown.apart i h1 q hq,((hown.el i h1).blk q hq).2⟩
      · obtain rfl:i=ls.length:=by simp at hi;omega
        have e1:(vs++[sv]).getD ls.length nilS=sv:=by rw [← hl];simp [List.getD]
        rw [e1] at hq
        exact ⟨hap q hq,(hsv.blk q hq).2⟩
     intro e
     have:q=g:=by simpa [ob,Value.ownBlock] using e
     subst this
     rcases hat' with h1 | h1
     · exact hq'.1 h1
     · omega
structure NwM (w wr:World) (xd:Nat) (sv:Value) (vs:List Value) (ls:List B8):Prop where
 blk:wr.heap[xd]?=some (.cells #[sv,.int .i64 0,.int .i64 (-1),.bool false] 68 (0,0))
 rows:RdsY wr (xd+1) sv vs ls
 lo:w.heap.size≤xd
 md:Mod [] w wr
theorem NwM.rdm {w wr:World} {xd:Nat} {sv:Value} {vs:List Value} {ls:List B8} (h:NwM w wr xd sv vs ls) {d:Dk} (hd:d=⟨ls,0,false,0,false⟩) (ok:d.Ok):RdM wr w.heap.size xd sv vs d:=by
 subst hd
 refine ⟨h.blk,h.rows.base (by have:=h.lo;omega),⟨h.lo,fun e=>by have:=(h.rows.blk xd e).1;omega,fun i hi e=>by have:=((h.rows.el i hi).blk xd e).1;omega⟩,ok⟩
def NwT (xd k:Nat) (q:Option Addr) (c:Nat) (w0 w':World):Prop:=w'.heap[xd]?=some (.cells #[.slice q k c,.int .i64 0,.int .i64 (-1),.bool false] 68 (0,0))∧Mod (ob (.slice q k c)) w0 w'
/-! ### From, Same -/
theorem imgD_ok {l:List B8} (h1:1≤l.length) (h2:l.length≤512) (h:okImg l):(imgD l).Ok:=⟨h,h1,h2,fun e=>Bool.noConfusion e,by simp [imgD]⟩
def RFromTo (w:World) (l:List B8) (e:Ending) (w':World):Prop :=
 ((1≤l.length∧l.length≤512∧okImg l)∧∃ xd sv vs,e=.returned (.tuple #[.pointer (some ⟨xd,0,none⟩),.int .i64 0])∧RdM w' w.heap.size xd sv vs (imgD l)∧Mod [] w w') ∨
 (¬ (1≤l.length∧l.length≤512∧okImg l)∧e=.returned (.tuple #[.pointer none,.int .i64 2])∧Mod [] w w')
def RfmRel (w:World) (xd:Nat) (L:List B8) (i:Value) (wr:World):Prop:=∃ (k:Nat) (q:Option Addr) (c:Nat) (vs:List Value),i=.int .i64 (k:Int)∧k≤L.length∧(∀ i,i<k→(L.getD i []).length=64)∧NwM w wr xd (.slice q k c) vs (L.take k)
def RfT (xd k:Nat) (q:Option Addr) (c bb o:Nat) (v:Value) (w0 w':World):Prop:=NwT xd k q c w0 w'∧w'.cell? ⟨bb,o,none⟩=some v
theorem rfrom_any {w:World} {u:Value} {ls:List B8} (hu:RdA w u ls):Calls Tryz.prog 39 #[u] w fun e w'=>RFromTo w ls e w':=by
 have hmx:ls.length≤9223372036854775807:=hu.1
 obtain ⟨qu,cu,rfl⟩:=hu.len
 by_cases hfit:1≤ls.length∧ls.length≤512
 · have hn1:decide ((ls.length:Int)<1)=false:=by simp;omega
   have hn2:decide (512<(ls.length:Int))=false:=by simp;omega
   obtain ⟨W1,hW1⟩:∃ x,x=w.alloc (.cells #[.slice none 0 0,.int .i64 0,.int .i64 (-1),.bool false] 68 (0,0)):=⟨_,rfl⟩
   have hb1:W1.heap[w.heap.size]?=some (.cells #[.slice none 0 0,.int .i64 0,.int .i64 (-1),.bool false] 68 (0,0)):=by rw [hW1];exact heap_alloc_new _ _
   have m1:Mod [] w W1:=by rw [hW1];exact (Mod.refl _ _).alloc _
   obtain ⟨xd,hxd⟩:∃ x,w.heap.size=x:=⟨_,rfl⟩
   have H1:=Hj4 hb1 m1 hu hxd
   clear hb1 m1 hu
   go_enter Tryz.func39,Tryz.ntmps39
   go_upto_region 4 with fail
   try rw [← hW1]
   clear hW1 hxd
   go_wp2_with fail
   go_loopw [5] (fun i wr=>RfmRel w xd ls i wr) (fun i _=>ls.length - (intOf i).toNat)
   case atStart=>exact ⟨0,none,0,[],rfl,Nat.zero_le _,fun i hi=>by omega,by rw [← H1.out.2.2.2];exact H1.out.1,by rw [List.take_zero];exact RdsY.nil _ _,by rw [H1.out.2.2.2];exact Nat.le_refl _,H1.out.2.1⟩
   case round =>
    obtain ⟨k,q,c,vs,rfl,hk,hall,hM⟩:=hrel
    by_cases hlt:k<ls.length
    · obtain ⟨bb,off,v,rfl,hbb,cv,hrd⟩:=H1.out.2.2.1.at_ k hlt
      have cvr:=hM.md.kept cv (by simp)
      have hrr:=hrd.mod hM.md (by simp)
      obtain ⟨bl,hbl⟩:∃ b,ls.getD k []=b:=⟨_,rfl⟩
      rw [hbl] at hrd hrr
      obtain ⟨qv,cv2,rfl⟩:=hrd.len
      by_cases h64:bl.length=64
      · have hL:(ls.take k).length=k:=by simp;omega
        have hL1:ls.take (k+1)=ls.take k++[bl]:=by rw [List.take_add_one,← hbl];simp [hlt]
        obtain ⟨D,hD⟩:∃ D,ls.take k=D:=⟨_,rfl⟩
        rw [hD] at hL hL1 hM
        have hcp:=fun (W:World) (m:Mod [] wr W)=>rcopied_any (hrr.mod m (by simp)) (by omega)
        rw [h64] at cvr hcp
        have hT0:RfT xd k q c bb (off+k) (.slice qv 64 cv2) wr wr.drew:=⟨⟨hM.blk,(Mod.refl _ _).drew⟩,cvr⟩
        have hbw:bb<xd:=by have:=H1.out.2.2.2;omega
        have HM:=Hj6 hM hL hL1 hall hbl h64
        clear hM hL hL1 hD hall hrd hrr hbl h64 cv
        go_upto_region 9 with fail
        have HCV:=hide cvr
        clear cvr
        refine pB 14 (RfT xd k q c bb (off+k) (.slice qv 64 cv2) wr) hT0 ?_
        clear hT0
        refine pP 0 ?_;refine pP 1 ?_;refine pP 2 ?_;refine pP 3 ?_
        refine pT 4 rfl [11,14] (fun w2 h=>by have A:=blk_cell h.1.1;go_simp;try with_reducible rfl) ?_
        refine pP 5 ?_;refine pP 6 ?_;refine pP 7 ?_
        refine pT 8 rfl [9,10,11,14] (fun w2 h=>by have A:=h.2;go_simp;try with_reducible rfl) ?_
        refine pX 9 fun hT K HK=>?_
        go_simp
        refine (hcp _ (Mod.refl [] wr).drew).mono ?_
        rintro e w5 ⟨v5,rfl,r5,m5⟩
        obtain ⟨q5,c5,rfl⟩:=r5.rd.len
        rw [HM.out.2.2.2.2.2] at r5 ⊢
        have m5':Mod [] wr w5:=(Mod.refl [] wr).drew.then m5
        have hT5:RfT xd k q c bb (off+k) (.slice qv 64 cv2) wr w5:=⟨⟨m5'.at_ HM.out.1.blk (by simp),m5'.mono (by simp)⟩,m5'.kept HCV.out (by simp)⟩
        have H5:=Hj2 m5' (show RowY w5 wr.heap.size (.slice q5 64 c5) bl from r5)
        clear m5 m5' r5 hcp
        refine HK.out _ _ _ hT5 ?_
        clear HK K hT hT5
        refine pX 10 fun hT K HK=>?_
        go_simp
        obtain ⟨W6,hW6⟩:∃ x,x=w5.alloc (.cells #[.slice q5 64 c5] 71 (0,0)):=⟨_,rfl⟩
        rw [← hW6]
        have hm6:Mod [] wr W6:=by rw [hW6];exact H5.out.1.alloc _
        have hb6:W6.heap[w5.heap.size]?=some (.cells #[.slice q5 64 c5] 71 (0,0)):=by rw [hW6];exact heap_alloc_new _ _
        have hr6:RowY W6 wr.heap.size (.slice q5 64 c5) bl:=by rw [hW6];exact H5.out.2.mod_alloc _
        have hT6:RfT xd k q c bb (off+k) (.slice qv 64 cv2) wr W6:=⟨⟨hm6.at_ HM.out.1.blk (by simp),hm6.mono (by simp)⟩,hm6.kept HCV.out (by simp)⟩
        have H6:=Hj3 hm6 hb6 hr6
        clear hW6 hm6 hb6 hr6
        refine HK.out _ _ _ hT6 ?_
        clear HK K hT hT6
        refine pX 11 fun hT K HK=>?_
        refine step_app_rs rfl (.tmp 32) (.tmp 38) rfl (xd+1) (.slice q k c) vs D (by simp [Act.eval]) (HM.out.1.rows.mod H6.out.1 (by simp)) w5.heap.size (.slice q5 64 c5) bl (by simp [Act.eval]) H6.out.2.1 rfl (H6.out.2.2.el.base (lt_of_block HM.out.1.blk)) (fun x hx hx2=>by have a1:=(H6.out.2.2.blk x hx).1;have a2:=(HM.out.1.rows.blk x hx2).2;omega) (by rw [HM.out.2.1];omega) (by have a1:=lt_of_block HM.out.1.blk;have a2:=H6.out.1.size;omega) ?_
        intro g cap' w7 hr7 hm7 hg1 hg2
        have hmr:Mod (ob (.slice q k c)) wr w7:=(H6.out.1.mono (by simp)).trans hm7 (fun _ x _=>x) (fun _ x _=>x)
        have hno:∀ y,y∈ob (.slice q k c)→xd<y:=fun y hy=>(HM.out.1.rows.blk y hy).1
        have hb7:w7.heap[xd]?=some (.cells #[.slice q k c,.int .i64 0,.int .i64 (-1),.bool false] 68 (0,0)):=hmr.at_ HM.out.1.blk (fun e=>by have:=hno xd e;omega)
        have hc7:w7.cell? ⟨bb,off+k,none⟩=some (.slice qv 64 cv2):=hmr.kept HCV.out (fun e=>by have e2:xd<bb:=hno bb e;omega)
        have H7:=Hj3 hr7 hmr hb7
        clear hr7 hm7 hg1 hg2
        refine HK.out _ _ _ ⟨⟨hb7,hmr⟩,hc7⟩ ?_
        clear HK K hT hb7 hmr hc7 hno
        refine pP 12 ?_;refine pP 13 ?_
        refine pY 14 fun hT K HK=>?_
        have C7:=blk_cell H7.out.2.2
        have F7:=blk_free H7.out.2.2
        go_simp
        clear C7 F7
        refine HK.out _ _ _ ?_
        clear HK K hT
        refine pD ?_
        go_wp2_with fail
        go_roundw
        case rel =>
         have hms:Mod [xd] w7 (w7.setCell ⟨xd,0,none⟩ (.slice (some ⟨g,0,none⟩) (k+1) cap')):=(Mod.refl _ _).setCell (fun _=>by simp) _
         have hr7:=H7.out.1
         rw [HM.out.2.1,← HM.out.2.2.1] at hr7
         have hxw:=HM.out.1.lo
         rw [HM.out.2.1]
         refine ⟨k+1,some ⟨g,0,none⟩,cap',vs++[.slice q5 64 c5],by go_num,by omega,fun i hi=>?_,blk_set H7.out.2.2 0 _,hr7.mod hms (fun x hx=>by simp at hx;omega),hxw,?_⟩
         · rcases Nat.lt_or_ge i k with h | h
           · exact HM.out.2.2.2.1 i h
           · rw [show i=k by omega,HM.out.2.2.2.2.1];exact HM.out.2.2.2.2.2
         have h1:=mod_new HM.out.1.md H7.out.2.1 (fun x hx=>by have:=(HM.out.1.rows.blk x hx).1;omega)
         exact mod_new h1 hms (fun x hx=>by simp at hx;omega)
        case measure=>simp [intOf];omega
      · have hb64:((bl.length:Int) != 64)=true:=by simp;omega
        have HM:=Hj3 hM.md hbl h64
        clear hM hall hrd hrr hbl h64 cv
        go_wp2_with fail
        go_ret2
        refine .inr ⟨fun h=>HM.out.2.2 ?_,rfl,HM.out.1⟩
        have:=h.2.2 k hlt
        rw [HM.out.2.1] at this
        exact this
    · obtain rfl:k=ls.length:=by omega
      rw [List.take_length] at hM
      have HM:=Hj2 hM hall
      clear hM hall
      go_wp2_with fail
      go_ret2
      have hok:okImg ls:=fun i hi=>HM.out.2 i hi
      exact .inl ⟨⟨hfit.1,hfit.2,hok⟩,xd,_,vs,rfl,HM.out.1.rdm rfl (imgD_ok hfit.1 hfit.2 hok),HM.out.1.md⟩
 · have hbad:RFromTo w ls (.returned (.tuple #[.pointer none,.int .i64 2])) w:=.inr ⟨fun h=>hfit ⟨h.1,h.2.1⟩,rfl,Mod.refl _ _⟩
   clear hu
   by_cases h1:1≤ls.length
   · have hn1:decide ((ls.length:Int)<1)=false:=by simp;omega
     have hn2:decide (512<(ls.length:Int))=true:=by simp;omega
     have HBA:=hide hbad
     clear hbad hfit h1
     go_enter Tryz.func39,Tryz.ntmps39
     go_wp2_with fail
     go_ret2
     exact HBA.out
   · have hn1:decide ((ls.length:Int)<1)=true:=by simp;omega
     have HBA:=hide hbad
     clear hbad hfit h1
     go_enter Tryz.func39,Tryz.ntmps39
     go_wp2_with fail
     go_ret2
     exact HBA.out
end Go.Proofs.YtpphoeimakjjdaaGreatDoor
