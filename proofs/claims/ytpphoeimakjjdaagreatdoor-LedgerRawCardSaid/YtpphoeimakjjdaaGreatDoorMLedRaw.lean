/-
  THE LAW LedgerRaw: its walk.
-/
import Derived.Test.YtpphoeimakjjdaaGreatDoorMLedPr
import Derived.Test.YtpphoeimakjjdaaGreatDoorMLedOr
import Derived.Test.YtpphoeimakjjdaaGreatDoorMWpL
import Derived.Test.YtpphoeimakjjdaaGreatDoorMLedRg19
import Derived.Test.YtpphoeimakjjdaaGreatDoorMLedRg18
import Derived.Test.YtpphoeimakjjdaaGreatDoorMDisk4
import Derived.Deep.CutBlock
namespace Go.Proofs.YtpphoeimakjjdaaGreatDoor
set_option maxRecDepth 100000
set_option maxHeartbeats 8000000
open Go.RowKit Go.Shelf Go.Deep

theorem wpList_app_ye {ops:Array Oper} {rest:List Oper} {o:Oper} {a:Act} {Q:Exit→Act→World→Prop} (w:World) (hgd:o.guard=none) (s x:Operand)
 (ho:o.op=.call { callee:=.builtin .append,args:=#[s,x],argTypes:=#[71,71] })
 (base k:Nat) (hs:a.eval s=.slice (some ⟨k,0,none⟩) 0 0) (hown:RowY w base (.slice (some ⟨k,0,none⟩) 0 0) []) {v:Value} {m:B8} (hx:a.eval x=v) (hv:RdY w v m) (hsm:m.length≤140737488355328) (hbase:base≤w.heap.size)
 (h:∀ p c w',RowY w' base (.slice p m.length c) m→Mod [k] w w'→wpList Tryz.prog ops Q rest (a.put o.dst (.slice p m.length c)) w'):wpList Tryz.prog ops Q (o::rest) a w:=by
 by_cases hm:m=[]
 · subst hm
   obtain ⟨i0,hi0,hz0,hs0,hb0⟩:=info_parts info_byte
   obtain ⟨p,c,rfl⟩:=hv.len
   have src:Src Tryz.prog i0.size 71 (.slice p 0 c) 0 [] w:=by
    cases p with
    | none=>exact Src.ofNil w Tryz.underlying71 c
    | some ad=>exact Src.ofSlice w Tryz.underlying71 ad 0 c [] (by simp) (fun _ _ h=>by simp at h) (fun _ h=>by cases h)
   have hr:=run_append_nothing w 71 71 o.type 5 i0 Tryz.underlying71 hi0 (some ⟨k,0,none⟩) 0 0 (Nat.le_refl _) _ src
   refine wpList_plain hgd fun K hK=>?_
   unfold Oper.wp execOp
   simp only [List.length_nil] at hx
   simp only [ho,resolve,invoke,builtin,Sem.run_bind,Sem.run_pure,Result.andThen_ok,List.map_toArray,List.map_cons,List.map_nil,hs,hx,hr]
   exact hK _ _ (h _ _ _ hown (Mod.refl _ _))
 · have hpos:0<m.length:=List.length_pos_iff.2 hm
   rcases hv.2 with ⟨p,c,_,rfl⟩ | ⟨b,off,cap,rfl,_,hb,hc⟩
   · exact absurd rfl hm
   · refine wpList_app_y w hgd s x ho base (.slice (some ⟨k,0,none⟩) 0 0) [] hs hown ⟨b,off,none⟩ m.length cap m hx rfl (fun j hj=>by rw [Addr.add_lit];exact hc j hj) hpos (by simpa using hsm) hbase ?_
     intro g cap' w' hown' hg hat _
     simp only [List.length_nil,Nat.zero_add,List.nil_append] at hown' ⊢
     exact h _ _ _ hown' (hg.mono (fun x hx _=>by simpa [ob,Value.ownBlock] using hx))
theorem wpList_app_rsb {ops:Array Oper} {rest:List Oper} {o:Oper} {a:Act} {Q:Exit→Act→World→Prop} (w:World) (hgd:o.guard=none) (s x:Operand)
 (ho:o.op=.call { callee:=.builtin .append,args:=#[s,x],argTypes:=#[65,65] })
 (base:Nat) (v:Value) (vs:List Value) (ls:List B8) (hs:a.eval s=v) (hown:RdsY w base v vs ls) (k:Nat) (sv:Value) (b:B8) (hx:a.eval x=.slice (some ⟨k,0,none⟩) 1 1)
 (hc:w.heap[k]?=some (.cells #[sv] 71 (0,0))) (hone:sv.oneCell'=true) (hsv:ElY w base sv b) (hap:∀ k,k∈ob sv→k ∉ ob v) (hsz:(ls.length+1) * 24≤140737488355328) (hbase:base≤w.heap.size)
 (h:∀ g cap w',RdsY w' base (.slice (some ⟨g,0,none⟩) (ls.length+1) cap) (vs++[sv]) (ls++[b])→Mod (ob v) w w'→(g∈ob v∨g=w.heap.size)→g<w'.heap.size→wpList Tryz.prog ops Q rest (a.put o.dst (.slice (some ⟨g,0,none⟩) (ls.length+1) cap)) w') :
 wpList Tryz.prog ops Q (o::rest) a w:=by
 obtain ⟨i0,hi0,hz0,hs0,hb0⟩:=info_parts (show (Tryz.prog.info? 71).map (fun i=>(i.zero,i.size,i.bytes))=some (some (.slice none 0 0),1,24) by kernel_rfl)
 have hl:=hown.len
 refine wpList_append_lies w hgd s x 65 ho base 71 i0 _ 1 24 Tryz.underlying65 hi0 hz0 hs0 hb0 rfl (by decide) v ls.length vs hs hown.row ⟨k,0,none⟩ 1 1 [sv] hx rfl ?_ (by simp [hone]) (by decide) (by unfold maxLen;omega) (by omega) hbase ?_
 · intro j u hu
   obtain ⟨hj,rfl⟩:=List.getElem?_eq_some_iff.1 hu
   obtain rfl:j=0:=by simp at hj;omega
   rw [Addr.add_lit]
   simp [World.cell?,hc]
 · intro g cap' w' hr hg hat
   have hm:Mod (ob v) w w':=(Mod.refl (ob v) w).grown hg (fun k e _=>by simp [ob,e])
   have hat':g∈ob v∨g=w.heap.size:=hat.imp (fun e=>by simp [ob,e]) id
   have hrl:w'.ownsRow base 71 1 (.slice (some ⟨g,0,none⟩) (ls.length+1) cap') (ls++[b]).length (vs++[sv]):=by rw [List.length_append];exact hr
   have hg':g<w'.heap.size:=(World.ownsRow.lt hrl g rfl).2
   refine h g cap' w' ⟨hrl,fun i hi=>?_,fun i hi q hq=>?_⟩ hm hat' hg'
   · rcases Nat.lt_or_ge i ls.length with h1 | h1
     · have e1:(vs++[sv]).getD i nilS=vs.getD i nilS:=by simp [List.getD,List.getElem?_append_left (show i<vs.length by omega)]
       have e2:(ls++[b]).getD i []=ls.getD i []:=by simp [List.getD,List.getElem?_append_left h1]
       rw [e1,e2]
       exact (hown.el i h1).mod hm (hown.apart i h1)
     · obtain rfl:i=ls.length:=by simp at hi;omega
       have e1:(vs++[sv]).getD ls.length nilS=sv:=by rw [← hl];simp [List.getD]
       have e2:(ls++[b]).getD ls.length []=b:=by simp [List.getD]
       rw [e1,e2]
       exact hsv.mod hm hap
   · have hq':q ∉ ob v∧q<w.heap.size:=by
      rcases Nat.lt_or_ge i ls.length with h1 | h1
      · have e1:(vs++[sv]).getD i nilS=vs.getD i nilS:=by simp [List.getD,List.getElem?_append_left (show i<vs.length by omega)]
        rw [e1] at hq
        exact ⟨hown.apart i h1 q hq,((hown.el i h1).blk q hq).2⟩
      · obtain rfl:i=ls.length:=by simp at hi;omega
        have e1:(vs++[sv]).getD ls.length nilS=sv:=by rw [← hl];simp [List.getD]
        rw [e1] at hq
        exact ⟨hap q hq,(hsv.blk q hq).2⟩
     intro e
     have:q=g:=by simpa [ob,Value.ownBlock] using e
     subst this
     rcases hat' with h1 | h1
     · exact hq'.1 h1
     · omega
def MnRel (W:World) (l:List B8) (s5 s20:Value) (wr:World):Prop :=
 ∃ (k:Nat) (q:Option Addr) (c:Nat) (vs:List Value),s20=.int .i64 (k:Int)∧k≤l.length∧s5=.slice q k c∧RdsY wr W.heap.size (.slice q k c) vs (l.take k)∧Mod [] W wr
theorem lraw_any {W:World} {l:List B8} {q0:Option Addr} {c0:Nat} (hl:RdA W (.slice q0 l.length c0) l) (hb:∀ b,b∈l→b.length≤140737488355328) (hbig:l.length * 24≤140737488351232) {r:Rcd} {rs rt:Value} (hs:RdN W rs r.grant.stamp) (ht:RdN W rt r.stamp) (hr:inR r) :
 Calls Tryz.prog 8 #[.slice q0 l.length c0,aggR r rs rt] W fun e w'=>e=.returned (.bool true)∧Mod [] W w':=by
 obtain ⟨p1,d1,rfl⟩:=hs.len
 obtain ⟨p2,d2,rfl⟩:=ht.len
 obtain ⟨n1,hn1⟩:∃ x,r.grant.stamp.length=x:=⟨_,rfl⟩
 obtain ⟨n2,hn2⟩:∃ x,r.stamp.length=x:=⟨_,rfl⟩
 rw [hn1] at hs ⊢
 rw [hn2] at ht ⊢
 obtain ⟨C0,hC0⟩:∃ C0:Array Value,C0=(cellsR r (.slice p1 n1 d1) (.slice p2 n2 d2)).toArray:=⟨_,rfl⟩
 obtain ⟨W1,hW1⟩:∃ W1,W1=W.alloc (.cells C0 42 (0,0)):=⟨_,rfl⟩
 have hb1:W1.heap[W.heap.size]?=some (.cells C0 42 (0,0)):=by rw [hW1];exact heap_alloc_new W _
 have m1:Mod [] W W1:=by rw [hW1];exact (Mod.refl _ _).alloc _
 have HA:=Hj8 hl hb hbig hs ht hr hn1 hn2
 have hll:l.length≤9223372036854775807:=by omega
 have hC0':=hC0
 unfold cellsR at hC0'
 rw [hC0'] at hW1
 unfold aggR cellsR
 have HB:=Hj3 hb1 m1 hC0
 clear hl hb hbig hs ht hr hn1 hn2 hb1 m1 hC0 hC0'
 go_enter Tryz.func8,Tryz.ntmps8
 go_upto_region 1 with fail
 rw [← hW1]
 clear hW1
 go_wp2_with (first
  | (go_at_call 12;refine (awake_any _).mono ?_;rintro e w1 ⟨rfl,m⟩;have H1:=hide (HB.out.2.1.then m);have H1b:=hide (m.at_ HB.out.1 (by simp));clear m)
  | fail)
 go_loopw [5,20] (fun s5 s20 wr=>MnRel w1 l s5 s20 wr) (fun _ i _=>l.length - (intOf i).toNat)
 case atStart=>exact ⟨0,none,0,[],rfl,Nat.zero_le _,rfl,RdsY.nil _ _,Mod.refl _ _⟩
 case round =>
  obtain ⟨k,q,c,vs,rfl,hk,rfl,hrw,hm⟩:=hrel
  by_cases hlt:k<l.length
  · have hki:(k:Int)<(l.length:Int):=by omega
    obtain ⟨ob0,off,u,rfl,hobw,hc,hu⟩:=HA.out.1.at_ k hlt
    have hmW:=H1.out.then hm
    have hc:=(hmW.cell (x:=⟨ob0,off+k,none⟩) hobw (by simp)).trans hc
    have hu:=hu.mod hmW (by simp)
    have hub:=HA.out.2.1 (l.getD k []) (by rw [List.getD_eq_getElem?_getD,List.getElem?_eq_getElem hlt];exact List.getElem_mem _)
    have hL:l.take (k+1)=l.take k++[l.getD k []]:=by rw [List.take_add_one];simp [hlt]
    generalize l.getD k []=b at hu hub hL
    obtain ⟨D,hD⟩:∃ D,l.take k=D:=⟨_,rfl⟩
    have hDl:D.length=k:=by rw [← hD,List.length_take];omega
    rw [hD] at hrw hL
    obtain ⟨pu,cu,rfl⟩:=hu.len
    obtain ⟨nb,hnb⟩:∃ x,b.length=x:=⟨_,rfl⟩
    rw [hnb] at hc hu hub
    obtain ⟨Wa,hWa⟩:∃ Wa,Wa=wr.alloc (.cells #[] 5 (0,0)):=⟨_,rfl⟩
    have ma:Mod [] wr Wa:=by rw [hWa];exact (Mod.refl _ _).alloc _
    have hown:RowY Wa wr.heap.size (.slice (some ⟨wr.heap.size,0,none⟩) 0 0) []:=by rw [hWa];exact World.ownsRow_made wr #[] 0 (Nat.le_refl _) (Nat.zero_le _) rfl
    have hza:Wa.heap.size=wr.heap.size+1:=by rw [hWa];simp
    have hua:=hu.mod ma (by simp)
    have hsw:=hm.size
    have HR:=Hj7 hrw hm ma hza hnb hL hDl
    have HO:=Hj3 hown hua hub
    clear hrw hm ma hown hua hub hu hL hD hnb hDl
    go_wp2_with (first
     | (at_builtin
        rw [← hWa]
        refine wpList_app_ye Wa rfl _ _ rfl wr.heap.size wr.heap.size rfl HO.out.1 rfl HO.out.2.1 (by have:=HO.out.2.2;have:=HR.out.2.2.2.2.1;omega) (by have:=HR.out.2.2.2.1;omega) ?_
        intro p5 c5 w5 r5 m5
        rw [HR.out.2.2.2.2.1] at r5 ⊢
        have M5:=(HR.out.2.2.1.mono (T:=[wr.heap.size]) (by simp)).then m5
        have H5:=Hj3 r5 M5 (HR.out.1.mod M5 (fun y hy=>.inr (by simp at hy;omega)))
        clear r5 m5 M5 HO)
     | (at_builtin
        refine wpList_app_rsb _ rfl _ _ rfl w1.heap.size (.slice q k c) vs D rfl (H5.out.2.2.mod ((Mod.refl [] _).alloc _) (by simp)) w5.heap.size (.slice p5 nb c5) b rfl (heap_alloc_new _ _) rfl ((H5.out.1.mod_alloc _).el.base hsw) (fun y hy hy2=>by have a1:=(H5.out.1.blk y hy).1;have a2:=(HR.out.1.blk y hy2).2;omega) (by have:=HA.out.2.2.1;have:=HR.out.2.2.2.2.2.2;omega) (by have:=HR.out.2.1.size;have:=H5.out.2.1.size;simp;omega) ?_
        intro g6 c6 w6 r6 m6 hg6 hg6'
        rw [HR.out.2.2.2.2.2.2,← HR.out.2.2.2.2.2.1] at r6
        rw [HR.out.2.2.2.2.2.2]
        have M6:=mod_fresh (mod_fresh HR.out.2.1 (H5.out.2.1.alloc _) (fun y hy=>by simp at hy;omega)) m6 (fun y hy=>(HR.out.1.blk y hy).1)
        have H6:=Hj2 r6 M6
        clear M6
        clear r6 m6 hg6 hg6')
     | fail)
    go_roundw
    case rel=>exact ⟨k+1,_,_,_,by go_num,by omega,rfl,H6.out.1,H6.out.2⟩
    case measure=>simp [intOf];omega
  · obtain rfl:k=l.length:=by omega
    rw [List.take_length] at hrw
    have hsz:=hm.size
    have hlw:W.heap.size<w1.heap.size:=lt_of_block H1b.out
    by_cases hfit:1≤l.length∧l.length≤512∧okImg l
    · have hfr:=from_any hrw
      have hrf:=fun (w2:World) (m:Mod [] wr w2)=>rfrom_any (HA.out.1.quiet ((H1.out.then hm).then m))
      have HM:=Hj2 hm hrw
      clear hm hrw
      go_upto_region 11 with (first
       | (go_at_call 38;refine hfr.mono ?_;rintro e w2 hx
          rcases hx with ⟨-,pd,bs,rfl,hd,hpd,hbs,m2⟩ | ⟨hno,-⟩
          rotate_left
          · exact absurd hfit hno
          have H2:=Hj4 hd m2 hpd hbs
          clear hd m2 hpd hbs hfr)
       | (go_at_call 39;refine (hrf _ H2.out.2.1).mono ?_;rintro e w3 hx
          rcases hx with ⟨-,xd,sv,vs3,rfl,hr3,m3⟩ | ⟨hno,-⟩
          rotate_left
          · exact absurd hfit hno
          have H3:=hide (show D2 w1 w3 pd bs xd w2.heap.size sv (imgD l) (imgD l) from ⟨H2.out.1.mod m3 (by simp) (by simp),⟨vs3,hr3⟩,(HM.out.1.then H2.out.2.1).then m3,by have:=H2.out.1.lt;have:=H2.out.2.2;omega⟩)
          clear hr3 m3 hrf)
       | fail)
      obtain ⟨e0,d',o,hop⟩:∃ e0 d' o,openD (imgD l)=(e0,d',o):=⟨_,_,_,rfl⟩
      cases o with
      | none =>
        have i0:(e0 != e0)=false:=by simp
        go_wp2_with (first
         | (go_at_call 11;refine (popen_eq H3.out hop).mono ?_;rintro e w4 ⟨rfl,h4⟩;have H4:=hide h4;clear h4 H3)
         | (go_at_call 29;refine (dopen_none H4.out hop).mono ?_;rintro e w5 ⟨rfl,h5⟩;have H5:=hide h5;clear h5 H4)
         | fail)
        go_ret
        exact ⟨rfl,H1.out.then H5.out.md⟩
      | some l' =>
        have hok:=open_okk hop
        go_upto_region 21 with (first
         | (go_at_call 11;refine (popen_eq H3.out hop).mono ?_;rintro e w4 ⟨pl,rfl,h4⟩;have H4:=hide h4;clear h4 H3)
         | (go_at_call 29;refine (dopen_some H4.out hop).mono ?_;rintro e w5 ⟨xm,rfl,h5⟩;have H5:=hide h5;clear h5 H4)
         | fail)
        obtain ⟨t,ht⟩:∃ t,appendD d' l' r=t:=⟨_,rfl⟩
        have hok1:t.2.2.Ok:=by rw [← ht];exact append_okk hok.1
        have hln1:49≤t.2.1.secs.length:=by rw [← ht,append_len];have:=hok.2.2;omega
        obtain ⟨u,hu⟩:∃ u,compactD t.2.1 t.2.2=u:=⟨_,rfl⟩
        have hok2:u.2.2.Ok:=by rw [← hu];exact compact_okk hok1
        have HT:=Hj7 ht hok.1 (show 49≤d'.secs.length by have:=hok.2.2;omega) hok1 hln1 hu hok2
        have HW:=Hj2 (H1.out.then H5.out.s.md) (H5.out.s.md.at_ H1b.out (by simp))
        have hst:∀ w',RdN W (.slice p1 n1 d1) r.grant.stamp∧RdN W (.slice p2 n2 d2) r.stamp→Mod [] W w'→RdN w' (.slice p1 n1 d1) r.grant.stamp∧RdN w' (.slice p2 n2 d2) r.stamp:=fun w' h m=>⟨h.1.mod m (by simp),h.2.mod m (by simp)⟩
        have hir:=HA.out.2.2.2.2.2.1
        have how:=fun (w:World) (m:Mod [] W w)=>ownRec_any (w:=w) (r:=r) (sv:=.slice p1 n1 d1) (tv:=.slice p2 n2 d2) (HA.out.2.2.2.1.mod m (by simp)) (HA.out.2.2.2.2.1.mod m (by simp)) hir.1.2.2 hir.2.2
        unfold aggR cellsR at how
        have hps:r.grant.path.size≤140737488355328:=hir.1.2.1
        obtain ⟨T,hT⟩:∃ T,T=pl::pd::bs::xm::xd::ob sv:=⟨_,rfl⟩
        have hTl:∀ k,k∈T→w1.heap.size≤k:=fun k hk=>by
         rw [hT] at hk
         have h1:=H5.out.own
         have h2:=H5.out.s.lo
         rcases List.mem_cons.1 hk with rfl | hk
         · omega
         rcases List.mem_cons.1 hk with rfl | hk
         · omega
         rcases List.mem_cons.1 hk with rfl | hk
         · omega
         exact (h1 k hk).1
        have hTp:∀ k,k∈[pl,pd,bs]→k∈T:=fun k hk=>by rw [hT];simp at hk ⊢;omega
        have hTd:∀ k,k∈xm::xd::ob sv→k∈T:=fun k hk=>by rw [hT];exact List.mem_cons_of_mem _ (List.mem_cons_of_mem _ (List.mem_cons_of_mem _ hk))
        have HTT:=Hj3 hTl hTp hTd
        clear hTl hTp hTd hT ht hu hok1 hok2 hln1 hok hop hst hir
        have hlw':=hlw
        refine pB 999 (Mod T w5) ((Mod.refl _ _).drew) ?_
        refine pP 0 ?_;refine pP 1 ?_;refine pP 2 ?_
        refine pX 3 fun hT K HK=>?_
        go_simp
        refine (psame_eq (H5.out.quiet (Mod.refl [] w5).drew) HT.out.2.1).mono ?_
        rintro e w6 ⟨rfl,m6⟩
        have m6':Mod [] w5 w6:=(Mod.refl [] w5).drew.then m6
        have H6:=Hj2 m6' (H5.out.quiet m6')
        refine HK.out _ _ _ (hT.then (m6.mono (by simp))) ?_
        clear HK K hT m6 m6'
        refine pP 4 ?_;refine pP 5 ?_;refine pP 6 ?_;refine pP 10 ?_
        refine pH 7 rfl (fun w h=>by have D:=blk_cell (Mod.at_ h HW.out.2 (fun e=>by have:=HTT.out.1 _ e;omega));rw [HB.out.2.2] at D;unfold cellsR at D;go_simp;try with_reducible rfl) ?_
        refine pH 11 rfl (fun w h=>by have D:=blk_cell (Mod.at_ h HW.out.2 (fun e=>by have:=HTT.out.1 _ e;omega));rw [HB.out.2.2] at D;unfold cellsR at D;go_simp;try with_reducible rfl) ?_
        refine pX 8 fun hT K HK=>?_
        go_simp
        refine (how _ (HW.out.1.then H6.out.1)).mono ?_
        rintro e w7 ⟨x1,y1,z1,x2,y2,z2,rfl,hr1,hr2,-,m7⟩
        simp only [aggR,cellsR]
        have H7:=Hj3 (rdN_of_row hr1) (rdN_of_row hr2) (H6.out.2.quiet m7)
        refine HK.out _ _ _ (hT.then (m7.mono (by simp))) ?_
        clear HK K hT hr1 hr2 m7 how H6
        refine pX 9 fun hT K HK=>?_
        go_simp
        refine (pappend_eq (r:=r) H7.out.2.2 HT.out.2.1 HT.out.2.2.1 H7.out.1 H7.out.2.1 (by omega) HT.out.1).mono ?_
        rintro e w8 ⟨rfl,h8,m8⟩
        have H8:=hide h8
        refine HK.out _ _ _ (hT.then (m8.mono (fun k hk _=>HTT.out.2.1 k hk))) ?_
        clear HK K hT h8 m8 H7
        refine pX 12 fun hT K HK=>?_
        go_simp
        refine (dappend_eq (r:=r) (rs:=.slice p1 n1 d1) (rt:=.slice p2 n2 d2) H8.out HT.out.2.1 HT.out.2.2.1 ((HA.out.2.2.2.1.mod HW.out.1 (by simp)).mod_ne hT (fun he k hk hkT=>by have:=HA.out.2.2.2.1.lt0 he k hk;have:=HTT.out.1 k hkT;omega)) ((HA.out.2.2.2.2.1.mod HW.out.1 (by simp)).mod_ne hT (fun he k hk hkT=>by have:=HA.out.2.2.2.2.1.lt0 he k hk;have:=HTT.out.1 k hkT;omega)) (by omega) (fun he k hk=>by have:=HA.out.2.2.2.1.lt0 he k hk;omega) (fun he k hk=>by have:=HA.out.2.2.2.2.1.lt0 he k hk;omega) HT.out.1).mono ?_
        rintro e w9 ⟨rfl,h9,m9⟩
        have H9:=hide h9
        refine HK.out _ _ _ (hT.then (m9.mono (fun k hk _=>HTT.out.2.2 k hk))) ?_
        clear HK K hT h9 m9 H8
        refine pP 13 ?_;refine pP 14 ?_;refine pP 15 ?_;refine pP 16 ?_;refine pP 17 ?_;refine pP 18 ?_
        refine pX 19 fun hT K HK=>?_
        go_simp
        refine (psame_eq H9.out HT.out.2.2.2.1).mono ?_
        rintro e w10 ⟨rfl,m10⟩
        have H10:=hide (H9.out.quiet m10)
        refine HK.out _ _ _ (hT.then (m10.mono (by simp))) ?_
        clear HK K hT m10 H9
        refine pP 20 ?_;refine pP 21 ?_;refine pP 22 ?_;refine pP 23 ?_;refine pP 25 ?_
        refine pX 24 fun hT K HK=>?_
        go_simp
        refine (pcompact_eq H10.out HT.out.2.2.2.1 HT.out.2.2.2.2.1 HT.out.2.2.2.2.2.1).mono ?_
        rintro e w11 ⟨rfl,h11,m11⟩
        have H11:=hide h11
        refine HK.out _ _ _ (hT.then (m11.mono (fun k hk _=>HTT.out.2.1 k hk))) ?_
        clear HK K hT h11 m11 H10
        refine pX 26 fun hT K HK=>?_
        go_simp
        refine (dcompact_eq H11.out HT.out.2.2.2.1 HT.out.2.2.2.2.1 HT.out.2.2.2.2.2.1).mono ?_
        rintro e w12 ⟨rfl,h12,m12⟩
        have H12:=hide h12
        refine HK.out _ _ _ (hT.then (m12.mono (fun k hk _=>HTT.out.2.2 k hk))) ?_
        clear HK K hT h12 m12 H11
        refine pP 27 ?_;refine pP 28 ?_
        refine pE fun hT=>?_
        clear hT
        obtain ⟨vs',b1,gv,lv,hr⟩:=H12.out.r
        have HR:=Hj2 hr.dm H12.out.s.dk
        clear hr
        go_upto_region 23 with fail
        refine pB 999 (Mod [] w12) ((Mod.refl _ _).drew) ?_
        refine pP 0 ?_;refine pP 1 ?_;refine pP 2 ?_
        refine pX 3 fun hT K HK=>?_
        go_simp
        refine (psame_eq (H12.out.quiet hT) HT.out.2.2.2.2.2.2).mono ?_
        rintro e w13 ⟨rfl,m13⟩
        refine HK.out _ _ _ (hT.then m13) ?_
        clear HK K hT m13
        refine pP 4 ?_;refine pP 5 ?_;refine pP 7 ?_;refine pP 8 ?_;refine pP 9 ?_
        refine pH 10 rfl (fun w h=>by have D:=blk_cell (Mod.at_ h HR.out.1.blk (by simp));go_simp;try with_reducible rfl) ?_
        refine pX 6 fun hT K HK=>?_
        go_simp
        refine (image_any (HR.out.2.mod hT (by simp) (by simp))).mono ?_
        rintro e w14 ⟨v,vs6,rfl,hv,m14⟩
        have H14:=hide hv
        refine HK.out _ _ _ (hT.then m14) ?_
        clear HK K hT hv m14
        refine pX 11 fun hT K HK=>?_
        go_simp
        refine (rsame9_any H14.out.rda (HR.out.1.quiet hT).rows.rda).mono ?_
        rintro e w15 ⟨rfl,m15⟩
        refine HK.out _ _ _ (hT.then m15) ?_
        clear HK K hT m15 H14
        refine pP 12 ?_;refine pP 13 ?_
        refine pE fun hT=>?_
        have HE:=hide (H1.out.then (H12.out.s.md.then hT))
        clear hT
        go_wp2_with fail
        go_ret
        exact ⟨rfl,HE.out⟩
    · have hfr:=from_any hrw
      have hrf:=fun (w2:World) (m:Mod [] wr w2)=>rfrom_any (HA.out.1.quiet ((H1.out.then hm).then m))
      have HM:=Hj2 hm hrw
      clear hm hrw
      go_wp2_with (first
       | (go_at_call 38;refine hfr.mono ?_;rintro e w2 hx
          rcases hx with ⟨hyes,-⟩ | ⟨-,rfl,m2⟩
          · exact absurd hyes hfit
          have H2:=hide m2
          clear m2 hfr)
       | (go_at_call 39;refine (hrf _ H2.out).mono ?_;rintro e w3 hx
          rcases hx with ⟨hyes,-⟩ | ⟨-,rfl,m3⟩
          · exact absurd hyes hfit
          have H3:=hide (((H1.out.then HM.out.1).then H2.out).then m3)
          clear m3 hrf)
       | fail)
      go_ret
      exact ⟨rfl,H3.out⟩
end Go.Proofs.YtpphoeimakjjdaaGreatDoor
