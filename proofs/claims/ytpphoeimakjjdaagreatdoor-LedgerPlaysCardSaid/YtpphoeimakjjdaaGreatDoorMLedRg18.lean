/-
  WALKS: the document's layer 9: New, From, Same.
-/
import Derived.Test.YtpphoeimakjjdaaGreatDoorMLedRg8
import Derived.Test.YtpphoeimakjjdaaGreatDoorMLedRgA
import Derived.Test.YtpphoeimakjjdaaGreatDoorMStepC
import Derived.Test.YtpphoeimakjjdaaGreatDoorMDisk4
namespace Go.Proofs.YtpphoeimakjjdaaGreatDoor
set_option maxRecDepth 100000
set_option maxHeartbeats 2000000
open Go.RowKit

theorem step_app_rs {ops:Array Oper} {o:Oper} {a:Act} {w:World} {K:Act→World→Prop} {Q:Exit→Act→World→Prop} {E:Prop} (hgd:o.guard=none) (s x:Operand)
 (ho:o.op=.call { callee:=.builtin .append,args:=#[s,x],argTypes:=#[65,65] })
 (base:Nat) (v:Value) (vs:List Value) (ls:List B8) (hs:a.eval s=v) (hown:RdsY w base v vs ls) (k:Nat) (sv:Value) (b:B8) (hx:a.eval x=.slice (some ⟨k,0,none⟩) 1 1)
 (hc:w.heap[k]?=some (.cells #[sv] 71 (0,0))) (hone:sv.oneCell'=true) (hsv:ElY w base sv b) (hap:∀ k,k∈ob sv→k ∉ ob v) (hsz:ls.length≤1000000) (hbase:base≤w.heap.size)
 (h:∀ g cap w',RdsY w' base (.slice (some ⟨g,0,none⟩) (ls.length+1) cap) (vs++[sv]) (ls++[b])→Mod (ob v) w w'→(g∈ob v∨g=w.heap.size)→g<w'.heap.size→K (a.put o.dst (.slice (some ⟨g,0,none⟩) (ls.length+1) cap)) w') :
 if Region.wanted o (yielded ops a.tmps)=true then Oper.wp Tryz.prog o a w K Q else E:=by
 have hw:Region.wanted o (yielded ops a.tmps)=true:=by simp [Region.wanted,hgd]
 rw [if_pos hw]
 obtain ⟨i0,hi0,hz0,hs0,hb0⟩:=info_parts (show (Tryz.prog.info? 71).map (fun i=>(i.zero,i.size,i.bytes))=some (some (.slice none 0 0),1,24) by kernel_rfl)
 have hl:=hown.len
 refine wp_append_lies w s x 65 ho base 71 i0 _ 1 24 Tryz.underlying65 hi0 hz0 hs0 hb0 rfl (by decide) v ls.length vs hs hown.row ⟨k,0,none⟩ 1 1 [sv] hx rfl ?_ (by simp [hone]) (by decide) (by unfold maxLen;omega) (by omega) hbase _ rfl ?_
 · intro j u hu
   obtain ⟨hj,rfl⟩:=List.getElem?_eq_some_iff.1 hu
   obtain rfl:j=0:=by simp at hj;omega
   rw [Addr.add_lit]
   simp [World.cell?,hc]
 · intro g cap' w' hr hg hat _
   have hm:Mod (ob v) w w':=(Mod.refl (ob v) w).grown hg (fun k e _=>by simp [ob,e])
   have hat':g∈ob v∨g=w.heap.size:=hat.imp (fun e=>by simp [ob,e]) id
   have hrl:w'.ownsRow base 71 1 (.slice (some ⟨g,0,none⟩) (ls.length+1) cap') (ls++[b]).length (vs++[sv]):=by rw [List.length_append];exact hr
   have hg':g<w'.heap.size:=(World.ownsRow.lt hrl g rfl).2
   refine h g cap' w' ⟨hrl,fun i hi=>?_,fun i hi q hq=>?_⟩ hm hat' hg'
   · rcases Nat.lt_or_ge i ls.length with h1 | h1
     · have e1:(vs++[sv]).getD i nilS=vs.getD i nilS:=by simp [List.getD,List.getElem?_append_left (show i<vs.length by omega)]
       have e2:(ls++[b]).getD i []=ls.getD i []:=by simp [List.getD,List.getElem?_append_left h1]
       rw [e1,e2]
       exact (hown.el i h1).mod hm (hown.apart i h1)
     · obtain rfl:i=ls.length:=by simp at hi;omega
       have e1:(vs++[sv]).getD ls.length nilS=sv:=by rw [← hl];simp [List.getD]
       have e2:(ls++[b]).getD ls.length []=b:=by simp [List.getD]
       rw [e1,e2]
       exact hsv.mod hm hap
   · have hq':q ∉ ob v∧q<w.heap.size:=by
      rcases Nat.lt_or_ge i ls.length with h1 | h1
      · have e1:(vs++[sv]).getD i nilS=vs.getD i nilS:=by simp [List.getD,List.getElem?_append_left (show i<vs.length by omega)]
        rw [e1] at hq
        exact ⟨hown.apart i h1 q hq,((hown.el i h1).blk q hq).2⟩
      · obtain rfl:i=ls.length:=by simp at hi;omega
        have e1:(vs++[sv]).getD ls.length nilS=sv:=by rw [← hl];simp [List.getD]
        rw [e1] at hq
        exact ⟨hap q hq,(hsv.blk q hq).2⟩
     intro e
     have:q=g:=by simpa [ob,Value.ownBlock] using e
     subst this
     rcases hat' with h1 | h1
     · exact hq'.1 h1
     · omega
structure NwM (w wr:World) (xd:Nat) (sv:Value) (vs:List Value) (ls:List B8):Prop where
 blk:wr.heap[xd]?=some (.cells #[sv,.int .i64 0,.int .i64 (-1),.bool false] 68 (0,0))
 rows:RdsY wr (xd+1) sv vs ls
 lo:w.heap.size≤xd
 md:Mod [] w wr
theorem NwM.rdm {w wr:World} {xd:Nat} {sv:Value} {vs:List Value} {ls:List B8} (h:NwM w wr xd sv vs ls) {d:Dk} (hd:d=⟨ls,0,false,0,false⟩) (ok:d.Ok):RdM wr w.heap.size xd sv vs d:=by
 subst hd
 refine ⟨h.blk,h.rows.base (by have:=h.lo;omega),⟨h.lo,fun e=>by have:=(h.rows.blk xd e).1;omega,fun i hi e=>by have:=((h.rows.el i hi).blk xd e).1;omega⟩,ok⟩
def NwRel (w:World) (xd n:Nat) (L:List B8) (i:Value) (wr:World):Prop:=∃ (k:Nat) (q:Option Addr) (c:Nat) (vs:List Value),i=.int .i64 (k:Int)∧k≤n∧NwM w wr xd (.slice q k c) vs (L.take k)
def NwT (xd k:Nat) (q:Option Addr) (c:Nat) (w0 w':World):Prop:=w'.heap[xd]?=some (.cells #[.slice q k c,.int .i64 0,.int .i64 (-1),.bool false] 68 (0,0))∧Mod (ob (.slice q k c)) w0 w'
theorem rnew9_any {n:Nat} (h1:1≤n) (h2:n≤512) (w:World):Calls Tryz.prog 28 #[.int .i64 (n:Int)] w fun e w'=>∃ xd sv vs,e=.returned (.tuple #[.pointer (some ⟨xd,0,none⟩),.int .i64 0])∧RdM w' w.heap.size xd sv vs (newD n)∧Mod [] w w'∧w.heap.size≤xd:=by
 have hn1:decide ((n:Int)<1)=false:=by simp;omega
 have hn2:decide (512<(n:Int))=false:=by simp;omega
 have hok:=newD_ok h1 h2
 have hmk:∀ w,(Instr.makeSlice 71 (.int .i64 64) (.int .i64 64)).run Tryz.prog w=.ok (.slice (some ⟨w.heap.size,0,none⟩) 64 64) (w.alloc (zObj 64)):=fun w=>make_y w 64 (by decide)
 obtain ⟨W1,hW1⟩:∃ x,x=w.alloc (.cells #[.slice none 0 0,.int .i64 0,.int .i64 (-1),.bool false] 68 (0,0)):=⟨_,rfl⟩
 have hb1:W1.heap[w.heap.size]?=some (.cells #[.slice none 0 0,.int .i64 0,.int .i64 (-1),.bool false] 68 (0,0)):=by rw [hW1];exact heap_alloc_new _ _
 have m1:Mod [] w W1:=by rw [hW1];exact (Mod.refl _ _).alloc _
 obtain ⟨xd,hxd⟩:∃ x,w.heap.size=x:=⟨_,rfl⟩
 have H1:=Hj4 hb1 m1 hok hxd
 clear hb1 m1 hok
 go_enter Tryz.func28,Tryz.ntmps28
 go_upto_region 4 with fail
 try rw [← hW1]
 clear hW1 hxd
 go_wp2_with fail
 go_loopw [5] (fun i wr=>NwRel w xd n (List.replicate n zeroSec) i wr) (fun i _=>n - (intOf i).toNat)
 case atStart=>exact ⟨0,none,0,[],rfl,Nat.zero_le _,by rw [← H1.out.2.2.2];exact H1.out.1,by rw [List.take_zero];exact RdsY.nil _ _,by rw [H1.out.2.2.2];exact Nat.le_refl _,H1.out.2.1⟩
 case round =>
  obtain ⟨k,q,c,vs,rfl,hk,hM⟩:=hrel
  by_cases hlt:k<n
  · have hL:((List.replicate n zeroSec).take k).length=k:=by simp;omega
    have hL1:(List.replicate n zeroSec).take (k+1)=(List.replicate n zeroSec).take k++[zeroSec]:=by rw [List.take_add_one];simp [hlt]
    obtain ⟨D,hD⟩:∃ D,(List.replicate n zeroSec).take k=D:=⟨_,rfl⟩
    rw [hD] at hL hL1 hM
    have hT0:NwT xd k q c wr wr.drew:=⟨hM.blk,(Mod.refl _ _).drew⟩
    have HM:=Hj3 hM hL hL1
    clear hM hL hL1 hD
    go_upto_region 7 with fail
    refine pB 10 (NwT xd k q c wr) hT0 ?_
    clear hT0
    refine pP 0 ?_;refine pP 1 ?_;refine pP 2 ?_;refine pP 3 ?_
    refine pT 4 rfl [7,10] (fun w2 h=>by have A:=blk_cell h.1;go_simp;try with_reducible rfl) ?_
    refine pX 5 fun hT K HK=>?_
    go_simp
    obtain ⟨W5,hW5⟩:∃ x,x=wr.drew.alloc (zObj 64):=⟨_,rfl⟩
    first | rw [← hW5] | (rw [show (wr.alloc (zObj 64)).drew=wr.drew.alloc (zObj 64) from rfl,← hW5])
    have hm5:Mod [] wr W5:=by rw [hW5];exact (Mod.refl [] wr).drew.alloc _
    have hy5:YBlk W5 wr.heap.size zeroSec:=by rw [hW5];exact zObj_blk wr.drew 64
    have hz5:W5.heap.size=wr.drew.heap.size+1:=by rw [hW5];simp
    have hT5:NwT xd k q c wr W5:=⟨hm5.at_ HM.out.1.blk (by simp),hm5.mono (by simp)⟩
    have H5:=Hj3 hm5 hy5 (show W5.heap.size=wr.heap.size+1 from hz5)
    clear hW5 hm5 hy5 hz5
    refine HK.out _ _ _ hT5 ?_
    clear HK K hT hT5
    refine pX 6 fun hT K HK=>?_
    go_simp
    obtain ⟨W6,hW6⟩:∃ x,x=W5.alloc (.cells #[.slice (some ⟨wr.heap.size,0,none⟩) 64 64] 71 (0,0)):=⟨_,rfl⟩
    rw [← hW6]
    have hm6:Mod [] wr W6:=by rw [hW6];exact H5.out.1.alloc _
    have hb6:W6.heap[W5.heap.size]?=some (.cells #[.slice (some ⟨wr.heap.size,0,none⟩) 64 64] 71 (0,0)):=by rw [hW6];exact heap_alloc_new _ _
    have hr6:RowY W6 wr.heap.size (.slice (some ⟨wr.heap.size,0,none⟩) 64 64) zeroSec:=(H5.out.2.1.mod (w':=W6) (S:=[]) (by rw [hW6];exact (Mod.refl _ _).alloc _) (by simp)).row (Nat.le_refl _) (by unfold zeroSec;simp [maxLen])
    have hT6:NwT xd k q c wr W6:=⟨hm6.at_ HM.out.1.blk (by simp),hm6.mono (by simp)⟩
    have H6:=Hj3 hm6 hb6 hr6
    clear hW6 hm6 hb6 hr6
    refine HK.out _ _ _ hT6 ?_
    clear HK K hT hT6
    refine pX 7 fun hT K HK=>?_
    refine step_app_rs rfl (.tmp 23) (.tmp 25) rfl (xd+1) (.slice q k c) vs D (by simp [Act.eval]) (HM.out.1.rows.mod H6.out.1 (by simp)) W5.heap.size (.slice (some ⟨wr.heap.size,0,none⟩) 64 64) zeroSec (by simp [Act.eval]) H6.out.2.1 rfl (H6.out.2.2.el.base (lt_of_block HM.out.1.blk)) (fun x hx hx2=>by have a1:=(H6.out.2.2.blk x hx).1;have a2:=(HM.out.1.rows.blk x hx2).2;omega) (by rw [HM.out.2.1];omega) (by have a1:=lt_of_block HM.out.1.blk;have a2:=H6.out.1.size;omega) ?_
    intro g cap' w7 hr7 hm7 hg1 hg2
    have hmr:Mod (ob (.slice q k c)) wr w7:=(H6.out.1.mono (by simp)).trans hm7 (fun _ x _=>x) (fun _ x _=>x)
    have hb7:w7.heap[xd]?=some (.cells #[.slice q k c,.int .i64 0,.int .i64 (-1),.bool false] 68 (0,0)):=hmr.at_ HM.out.1.blk (fun e=>by have:=(HM.out.1.rows.blk xd e).1;omega)
    have H7:=Hj3 hr7 hmr hb7
    clear hr7 hm7 hg1 hg2
    refine HK.out _ _ _ ⟨hb7,hmr⟩ ?_
    clear HK K hT hb7 hmr
    refine pP 8 ?_;refine pP 9 ?_
    refine pY 10 fun hT K HK=>?_
    have C7:=blk_cell H7.out.2.2
    have F7:=blk_free H7.out.2.2
    go_simp
    clear C7 F7
    refine HK.out _ _ _ ?_
    clear HK K hT
    refine pD ?_
    go_wp2_with fail
    go_roundw
    case rel =>
     have hms:Mod [xd] w7 (w7.setCell ⟨xd,0,none⟩ (.slice (some ⟨g,0,none⟩) (k+1) cap')):=(Mod.refl _ _).setCell (fun _=>by simp) _
     have hr7:=H7.out.1
     rw [HM.out.2.1,← HM.out.2.2] at hr7
     have hxw:=HM.out.1.lo
     rw [HM.out.2.1]
     refine ⟨k+1,some ⟨g,0,none⟩,cap',vs++[.slice (some ⟨wr.heap.size,0,none⟩) 64 64],by go_num,by omega,blk_set H7.out.2.2 0 _,hr7.mod hms (fun x hx=>by simp at hx;omega),hxw,?_⟩
     have h1:=mod_new HM.out.1.md H7.out.2.1 (fun x hx=>by have:=(HM.out.1.rows.blk x hx).1;omega)
     exact mod_new h1 hms (fun x hx=>by simp at hx;omega)
    case measure=>simp [intOf];omega
  · obtain rfl:k=n:=by omega
    go_wp2_with fail
    go_ret2
    have ht:(List.replicate k zeroSec).take k=List.replicate k zeroSec:=List.take_of_length_le (by simp)
    rw [ht] at hM
    exact ⟨xd,_,vs,rfl,hM.rdm rfl H1.out.2.2.1,hM.md,hM.lo⟩
/-! ### From, Same -/
end Go.Proofs.YtpphoeimakjjdaaGreatDoor
