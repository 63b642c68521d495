/-
  LedRf5 Chg BookA Dmp: see the remarks below.
-/
import Derived.Test.YtpphoeimakjjdaaGreatDoorMCtr
import Derived.Test.YtpphoeimakjjdaaGreatDoorMGrD
import Derived.Test.YtpphoeimakjjdaaGreatDoorMWpL
import Derived.Test.YtpphoeimakjjdaaGreatDoorMStepC
import Derived.Deep.DeepCutAuto
/-
  WALKS: the document's layer 11: a book copied. (Written by wip/gen_ledrf5.py.)
-/
namespace Go.Proofs.YtpphoeimakjjdaaGreatDoor
set_option maxRecDepth 100000
set_option maxHeartbeats 4000000
open Go.RowKit Go.Shelf

theorem step_app_gr {ops:Array Oper} {o:Oper} {a:Act} {w:World} {K:Act→World→Prop} {Q:Exit→Act→World→Prop} {E:Prop} (hgd:o.guard=none) (s x:Operand)
 (ho:o.op=.call { callee:=.builtin .append,args:=#[s,x],argTypes:=#[32,32] })
 {base:Nat} {u:Value} {sl:List (Grt × Value)} (hs:a.eval s=u) (h:GrM w base u sl) (hn:sl.length≤1000000) (hbase:base≤w.heap.size) {k:Nat} (hx:a.eval x=.slice (some ⟨k,0,none⟩) 1 1) {g:Grt} {sv:Value}
 (hk:w.heap[k]?=some (.cells (cellsG g sv).toArray 40 (0,0))) (hst:w.ownsRow base 3 1 sv g.stamp.length (g.stamp.map (Value.int .i64))) (hap:∀ k,k∈ob sv→k ∉ ob u)
 (hK:∀ u' w',GrM w' base u' (sl++[(g,sv)])→Mod (ob u) w w'→(∃ p c,u'=.slice p (sl.length+1) c)→(∀ k,k∈ob u'→k∈ob u∨w.heap.size≤k)→K (a.put o.dst u') w') :
 if Region.wanted o (yielded ops a.tmps)=true then Oper.wp Tryz.prog o a w K Q else E:=by
 have hw:Region.wanted o (yielded ops a.tmps)=true:=by simp [Region.wanted,hgd]
 rw [if_pos hw]
 obtain ⟨i0,hi0,hz0,hs0,hb0⟩:=info_parts info_grant
 refine wp_append_lies w s x 32 ho base 40 i0 _ 6 72 Tryz.underlying32 hi0 hz0 hs0 hb0 rfl (by decide) u sl.length _ hs h.row ⟨k,0,none⟩ 1 1 (cellsG g sv) hx rfl (World.news_of_block (cs:=(cellsG g sv).toArray) (t:=40) (fr:=(0,0)) hk) (one_G (one_row hst)) (by decide) (by unfold maxLen;omega) (by omega) hbase _ rfl ?_
 intro g' cap w' hr hg hat _
 have hm:Mod (ob u) w w':=(Mod.refl (ob u) w).grown hg (fun k e _=>by simp [ob,e])
 have hu:∀ k,k∈ob (.slice (some ⟨g',0,none⟩) (sl.length+1) cap)→k∈ob u∨w.heap.size≤k:=fun k hk=>by
  have:k=g':=by simpa [ob,Value.ownBlock] using hk
  subst this
  rcases hat with e | e
  · exact .inl (by simp [ob,e])
  · exact .inr (by omega)
 exact hK _ _ (h.app hst hap hr hm hu) hm ⟨_,_,rfl⟩ hu
def TC (b1 b3 g k:Nat) (s1 s3:Value) (C:List Value) (w:World):Prop:=w.cell? ⟨b1,3,none⟩=some s1∧w.cell? ⟨b3,3,none⟩=some s3∧(∀ j,j<6→w.cell? ⟨g,k * 6+j,none⟩=some (C.getD j undef))
theorem TC.mod {b1 b3 g k:Nat} {s1 s3:Value} {C:List Value} {w w':World} (h:TC b1 b3 g k s1 s3 C w) (m:Mod [] w w'):TC b1 b3 g k s1 s3 C w' :=
 ⟨m.kept h.1 (by simp),m.kept h.2.1 (by simp),fun j hj=>m.kept (h.2.2 j hj) (by simp)⟩
def CbRel (w W1:World) (x y z:Int) (lv:List (Grt × Value)) (i:Value) (wr:World):Prop :=
 ∃ (k:Nat) (sl:List (Grt × Value)) (q:Option Addr) (c:Nat),i=.int .i64 (k:Int)∧k≤lv.length∧sl.map Prod.fst=(lv.take k).map Prod.fst∧GrM wr (w.heap.size+3) (.slice q k c) sl ∧
   wr.heap[w.heap.size+2]?=some (.cells #[.int .i64 x,.int .i64 y,.int .i64 z,.slice q k c] 34 (0,0))∧Mod [w.heap.size+2] W1 wr
theorem rcopyB_any {w:World} {base n c:Nat} {q:Option Addr} {b:Bk} {lv:List (Grt × Value)} (h:BkM w base (.slice q n c) b lv) (hn:lv.length≤1000) (hst:∀ p,p∈lv→p.1.stamp.length * 8≤140737488355328) :
 Calls Tryz.prog 55 #[.agg #[.int .i64 b.next,.int .i64 b.boots,.int .i64 b.longest,.slice q n c]] w fun e w'=>∃ q' n' c' lv',e=.returned (.agg #[.int .i64 b.next,.int .i64 b.boots,.int .i64 b.longest,.slice q' n' c'])∧BkM w' w.heap.size (.slice q' n' c') b lv'∧Mod [] w w':=by
 obtain ⟨x,y,z,gs⟩:=b
 obtain ⟨q1,c1,hv1,hx1⟩:=h.gr.shape
 simp only [Value.slice.injEq] at hv1
 obtain ⟨rfl,rfl,rfl⟩:=hv1
 have heq:gs=lv.map Prod.fst:=h.eq
 simp only
 obtain ⟨W1,hW1⟩:∃ W1,W1=((w.alloc (.cells #[.int .i64 x,.int .i64 y,.int .i64 z,.slice q lv.length c] 34 (0,0))).alloc (.cells #[.int .i64 0,.int .i64 0,.int .i64 0,.slice none 0 0] 34 (0,0))).alloc (.cells #[.int .i64 x,.int .i64 y,.int .i64 z,.slice none 0 0] 34 (0,0)):=⟨_,rfl⟩
 have hm1:Mod [] w W1:=by rw [hW1];exact (((Mod.refl _ _).alloc _).alloc _).alloc _
 have ha:W1.heap[w.heap.size]?=some (.cells #[.int .i64 x,.int .i64 y,.int .i64 z,.slice q lv.length c] 34 (0,0)):=by rw [hW1];exact blk_alloc (blk_alloc (heap_alloc_new w _) _) _
 have hb:W1.heap[w.heap.size+1]?=some (.cells #[.int .i64 0,.int .i64 0,.int .i64 0,.slice none 0 0] 34 (0,0)):=by
  rw [hW1]
  refine blk_alloc ?_ _
  have:=heap_alloc_new (w.alloc (.cells #[.int .i64 x,.int .i64 y,.int .i64 z,.slice q lv.length c] 34 (0,0))) (.cells #[.int .i64 0,.int .i64 0,.int .i64 0,.slice none 0 0] 34 (0,0))
  simpa using this
 have hc1:W1.heap[w.heap.size+2]?=some (.cells #[.int .i64 x,.int .i64 y,.int .i64 z,.slice none 0 0] 34 (0,0)):=by
  rw [hW1]
  have:=heap_alloc_new ((w.alloc (.cells #[.int .i64 x,.int .i64 y,.int .i64 z,.slice q lv.length c] 34 (0,0))).alloc (.cells #[.int .i64 0,.int .i64 0,.int .i64 0,.slice none 0 0] 34 (0,0))) (.cells #[.int .i64 x,.int .i64 y,.int .i64 z,.slice none 0 0] 34 (0,0))
  simpa using this
 have hz1:W1.heap.size=w.heap.size+3:=by rw [hW1];simp
 have HB:=Hj5 ha hb hc1 hm1 hz1
 have HH:=Hj3 h hst heq
 clear h hst heq ha hb hc1 hm1 hz1 hx1
 go_enter Tryz.func55,Tryz.ntmps55
 go_upto_region 3 with fail
 rw [← hW1]
 clear hW1
 go_loopw [4] (fun i wr=>CbRel w W1 x y z lv i wr) (fun i _=>lv.length - (intOf i).toNat)
 case atStart=>exact ⟨0,[],none,0,rfl,Nat.zero_le _,rfl,GrM.nil _ _,HB.out.2.2.1,Mod.refl _ _⟩
 case round =>
  obtain ⟨k,sl,bq,bc,rfl,hk,hmap,hgm,hbx,hm⟩:=hrel
  have hsl:sl.length=k:=by have:=congrArg List.length hmap;simp at this;omega
  have hzr:=hm.size
  have hz1:=HB.out.2.2.2.2
  have hmw:Mod [] w wr:=HB.out.2.2.2.1.trans hm (fun _ x _=>x) (fun x hx hlt=>by simp at hx;omega)
  have hA:=hm.at_ HB.out.1 (by simp)
  have A1:=blk_cell hA
  by_cases hlt:k<lv.length
  · have hki:(k:Int)<(lv.length:Int):=by omega
    have hk0:(0:Int)≤(k:Int):=by omega
    obtain ⟨gb,rfl,hgb,hgb2,hc,-,hrd⟩:=(HH.out.1.gr.mod hmw (by simp)).at_ k hlt
    have hgw:gb<w.heap.size:=(ob_of_row HH.out.1.gr.row gb (by simp [ob,Value.ownBlock])).2
    have hls:=HH.out.2.1 _ (show lv.getD k default∈lv by simp [hlt])
    have htk:(lv.take (k+1)).map Prod.fst=(lv.take k).map Prod.fst++[(lv.getD k default).1]:=by rw [List.take_add_one,List.map_append];simp [hlt]
    generalize lv.getD k default=pr at hc hls htk hrd
    obtain ⟨⟨id,ho,pa,mo,st,te⟩,sv⟩:=pr
    simp only at hls htk hrd
    obtain ⟨qs,cs,hsv⟩:=hrd.len
    obtain ⟨ns,hns⟩:∃ n,st.length=n:=⟨_,rfl⟩
    rw [hns] at hsv
    subst hsv
    have hcg:=copyG_any (w:=wr.drew) (g:=⟨id,ho,pa,mo,st,te⟩) (v:=.slice qs ns cs) (hrd.mod (Mod.refl [] wr).drew (by simp)) hls
    have hTC:TC w.heap.size (w.heap.size+2) gb k (.slice (some ⟨gb,0,none⟩) lv.length c) (.slice bq k bc) [.int .i64 id,.int .i64 ho,.string pa,.int .i64 mo,.slice qs ns cs,.int .i64 te] wr.drew:=by
     refine ⟨A1 3,blk_cell (w:=wr) hbx 3,fun j hj=>?_⟩
     have:=hc j hj
     match j,hj with
     | 0,_=>exact this
     | 1,_=>exact this
     | 2,_=>exact this
     | 3,_=>exact this
     | 4,_=>exact this
     | 5,_=>exact this
    have HNS:=hide hns
    have HGM:=Hj3 hgm (show sl.length≤1000 by omega) hbx
    have HE:=Hj4 hmap hsl hm htk
    clear hgm hbx hmap hsl htk hc hrd hls hns hm
    go_upto_region 5 with fail
    clear A1
    refine pB 11 (TC w.heap.size (w.heap.size+2) gb k (.slice (some ⟨gb,0,none⟩) lv.length c) (.slice bq k bc) [.int .i64 id,.int .i64 ho,.string pa,.int .i64 mo,.slice qs ns cs,.int .i64 te]) (hTC) ?_
    refine pP 0 ?_
    refine pT 1 rfl [11] (fun w hSw=>by have A:=hSw.1;have B:=hSw.2.1;go_simp;try with_reducible rfl) ?_
    refine pP 2 ?_
    refine pT 3 rfl [11] (fun w hSw=>by have A:=hSw.1;have B:=hSw.2.1;go_simp;try with_reducible rfl) ?_
    refine pP 4 ?_;refine pP 5 ?_
    refine pT 6 rfl [11] (fun w hSw=>by have A:=hSw.1;have B:=hSw.2.1;have c0:=hSw.2.2 0 (by decide);have c1:=hSw.2.2 1 (by decide);have c2:=hSw.2.2 2 (by decide);have c3:=hSw.2.2 3 (by decide);have c4:=hSw.2.2 4 (by decide);have c5:=hSw.2.2 5 (by decide);simp at c0 c1 c2 c3 c4 c5;go_simp;try with_reducible rfl) ?_
    refine pX 7 fun hT K HK=>?_
    refine step_call rfl 46 #[.tmp 25] #[40] rfl (enters_of Tryz.func46 (by kernel_rfl) rfl) #[aggG ⟨id,ho,pa,mo,st,te⟩ (.slice qs ns cs)] (by simp [Act.eval,aggG,cellsG]) ?_
    refine hcg.mono ?_
    rintro e w4 ⟨v4,rfl,hown4,hm4⟩
    refine ⟨_,rfl,?_⟩
    have hT2:TC w.heap.size (w.heap.size+2) gb k (.slice (some ⟨gb,0,none⟩) lv.length c) (.slice bq k bc) [.int .i64 id,.int .i64 ho,.string pa,.int .i64 mo,.slice qs ns cs,.int .i64 te] w4:=hT.mod hm4
    obtain ⟨p4,d4,hv4⟩:=(rdN_of_row hown4).len
    simp only at hv4
    rw [HNS.out] at hv4
    subst hv4
    simp only [aggG,cellsG]
    have H4:=Hj2 hown4 hm4
    clear hown4 hm4
    refine HK.out _ _ _ hT2 ?_
    clear HK K hT hT2
    refine pX 8 fun hT K HK=>?_
    go_simp
    obtain ⟨W5,hW5⟩:∃ W5,W5=w4.alloc (.cells #[.int .i64 id,.int .i64 ho,.string pa,.int .i64 mo,.slice p4 ns d4,.int .i64 te] 40 (0,0)):=⟨_,rfl⟩
    rw [← hW5]
    have hm5:Mod [] w4 W5:=by rw [hW5];exact (Mod.refl _ _).alloc _
    have hk5:W5.heap[w4.heap.size]?=some (.cells (cellsG ⟨id,ho,pa,mo,st,te⟩ (.slice p4 ns d4)).toArray 40 (0,0)):=by rw [hW5];exact heap_alloc_new w4 _
    have hT2:TC w.heap.size (w.heap.size+2) gb k (.slice (some ⟨gb,0,none⟩) lv.length c) (.slice bq k bc) [.int .i64 id,.int .i64 ho,.string pa,.int .i64 mo,.slice qs ns cs,.int .i64 te] W5:=hT.mod hm5
    have H5:=Hj2 hm5 hk5
    clear hW5 hm5 hk5
    refine HK.out _ _ _ hT2 ?_
    clear HK K hT hT2
    refine pX 9 fun hT K HK=>?_
    have hmr:Mod [] wr W5:=(Mod.refl [] wr).drew.then (H4.out.2.then H5.out.1)
    have hz:=hmr.size
    have hown5:=H5.out.1.row H4.out.1 (by simp)
    have hzd:wr.drew.heap.size=wr.heap.size:=rfl
    refine step_app_gr (g:=⟨id,ho,pa,mo,st,te⟩) (sv:=.slice p4 ns d4) (sl:=sl) (base:=w.heap.size+3) rfl (.tmp 20) (.tmp 27) rfl (by simp [Act.eval]) (HGM.out.1.mod hmr (by simp)) (by have:=HGM.out.2.1;omega) (by omega) (k:=w4.heap.size) (by simp [Act.eval]) H5.out.2 (World.ownsRow.mono hown5 (by omega)) (fun y h1 h2=>by
     have a1:=(ob_of_row H4.out.1 y h1).1
     have a2:=(ob_of_row HGM.out.1.row y h2).2
     omega) ?_
    rintro u6 w6 hgm6 hm6 ⟨p6,c6,hu6⟩ -
    subst hu6
    have hT2:TC w.heap.size (w.heap.size+2) gb k (.slice (some ⟨gb,0,none⟩) lv.length c) (.slice bq k bc) [.int .i64 id,.int .i64 ho,.string pa,.int .i64 mo,.slice qs ns cs,.int .i64 te] w6:=by
     refine ⟨hm6.kept hT.1 (fun e=>?_),hm6.kept hT.2.1 (fun e=>?_),fun j hj=>hm6.kept (hT.2.2 j hj) (fun e=>?_)⟩
     · have h3:w.heap.size+3≤w.heap.size:=(ob_of_row HGM.out.1.row _ e).1
       omega
     · have h3:w.heap.size+3≤w.heap.size+2:=(ob_of_row HGM.out.1.row _ e).1
       omega
     · have h3:w.heap.size+3≤gb:=(ob_of_row HGM.out.1.row _ e).1
       omega
    have hbx6:=hm6.at_ (hmr.at_ HGM.out.2.2 (by simp)) (fun e=>by have:=(ob_of_row HGM.out.1.row _ e).1;omega)
    have H6:=Hj4 hgm6 hm6 hmr hbx6
    clear hgm6 hm6 hbx6 hmr hown5 hz hzd
    refine HK.out _ _ _ hT2 ?_
    clear HK K hT hT2
    refine pP 10 ?_
    refine pY 11 fun hT K HK=>?_
    have C6:=blk_cell (w:=w6) H6.out.2.2.2
    have F6:=blk_free (w:=w6) H6.out.2.2.2
    go_simp
    clear C6 F6
    refine HK.out _ _ _ ?_
    clear HK K hT
    refine pD ?_
    go_wp2_with fail
    go_roundw
    case rel =>
     obtain ⟨hmap,hsl,hm,htk⟩:=HE.out
     obtain ⟨hgm6,hm6,hmr,hbx6⟩:=H6.out
     rw [hsl]
     have hms:Mod [w.heap.size+2] w6 (w6.setCell ⟨w.heap.size+2,3,none⟩ (.slice p6 (k+1) c6)):=(Mod.refl _ _).setCell (fun _=>by simp) _
     rw [hsl] at hgm6
     refine ⟨k+1,sl++[(⟨id,ho,pa,mo,st,te⟩,.slice p4 ns d4)],p6,c6,by go_num,by omega,?_,hgm6.mod hms (fun x hx=>by simp at hx;omega),blk_set (w:=w6) hbx6 3 _,?_⟩
     · rw [htk,List.map_append,hmap];rfl
     · refine ((hm.then (hmr.mono (by simp))).trans hm6 (fun x hx _=>hx) (fun x hx hlt=>?_)).then hms
       have:=(ob_of_row HGM.out.1.row x hx).1
       omega
    case measure=>simp [intOf];omega
  · obtain rfl:k=lv.length:=by omega
    have hB:=hm.at_ HB.out.2.1 (by simp)
    have C0:=blk_cell hB
    have F0:=blk_free hB
    have C2:=blk_cell hbx
    have HE:=Hj5 hB hgm hmw hmap hm
    clear hB hgm hmw hmap hm hsl hA
    go_wp2_with fail
    obtain ⟨hB,hgm,hmw,hmap,hm⟩:=HE.out
    have q':=stL_all hB [.int .i64 x,.int .i64 y,.int .i64 z,.slice bq lv.length bc] rfl
    have qm:=stL_mod (S:=[w.heap.size+1]) (w0:=wr) (r:=w.heap.size+1) (fun _=>by simp) [.int .i64 x,.int .i64 y,.int .i64 z,.slice bq lv.length bc] 0 _ (Mod.refl [w.heap.size+1] wr)
    refine bodyPost_ret (v:=.agg #[.int .i64 x,.int .i64 y,.int .i64 z,.slice bq lv.length bc]) (res_cell1 Tryz.results55 _ _ rfl q' Tryz.isAgg34 Tryz.sizeOf34) rfl ⟨bq,lv.length,bc,sl,rfl,⟨?_,?_⟩,?_⟩
    · exact (hgm.mod qm (fun k hk=>by simp at hk;omega)).base (by omega)
    · have:=HH.out.2.2
      simp only
      rw [this,hmap,List.take_length]
    · exact hmw.trans qm (fun _ x _=>x) (fun x hx hlt=>by simp at hx;omega)
end Go.Proofs.YtpphoeimakjjdaaGreatDoor
/-
  WALKS: layer 11: change: what a record does to a book of one's own. (Written by wip/gen_chg.py.)
-/
namespace Go.Proofs.YtpphoeimakjjdaaGreatDoor
set_option maxRecDepth 100000
set_option maxHeartbeats 40000000
open Go.RowKit Go.Shelf

def TB (pb rb:Nat) (P R:Array Value) (w:World):Prop:=w.heap[pb]?=some (.cells P 34 (0,0))∧w.heap[rb]?=some (.cells R 42 (0,0))
theorem TB.mod {pb rb:Nat} {P R:Array Value} {w w':World} (h:TB pb rb P R w) {S:List Nat} (m:Mod S w w') (h1:pb ∉ S) (h2:rb ∉ S):TB pb rb P R w':=⟨m.at_ h.1 h1,m.at_ h.2 h2⟩
def ApG (k:Nat) (v:Value) (lv:List (Grt × Value)):Prop:=k ∉ ob v∧∀ p,p∈lv→k ∉ ob p.2
theorem GrM.mod2 {w w':World} {base:Nat} {v:Value} {lv:List (Grt × Value)} (h:GrM w base v lv) {S:List Nat} (m:Mod S w w') (hS:∀ k,k∈S→ApG k v lv):GrM w' base v lv :=
 ⟨m.row h.row (fun k hk e=>(hS k e).1 (by simp [ob,hk])),fun p hp=>⟨m.row (h.st p hp).1 (fun k hk e=>(hS k e).2 p hp (by simp [ob,hk])),(h.st p hp).2⟩⟩
structure ChgIn (w:World) (pb base:Nat) (gv:Value) (b:Bk) (lv:List (Grt × Value)) (r:Rcd) (sv tv:Value):Prop where
 box:w.heap[pb]?=some (.cells #[.int .i64 b.next,.int .i64 b.boots,.int .i64 b.longest,gv] 34 (0,0))
 bk:BkM w base gv b lv
 apart:ApG pb gv lv
 base:base≤w.heap.size
 sv:∀ W,Mod (pb::ob gv) w W→RdN W sv r.grant.stamp
 tv:∀ W,Mod (pb::ob gv) w W→RdN W tv r.stamp
 valid:validB b=true
 may:mayB r=true
 lim:limitI b r.kind=0
def ChgTo (w:World) (pb base:Nat) (gv:Value) (b:Bk) (r:Rcd) (e:Ending) (w':World):Prop :=
 (changeB b r=none∧e=.returned (.bool false)∧Mod (pb::ob gv) w w') ∨
 ∃ c gv' lv',changeB b r=some c∧e=.returned (.bool true)∧w'.heap[pb]?=some (.cells #[.int .i64 c.next,.int .i64 c.boots,.int .i64 c.longest,gv'] 34 (0,0))∧BkM w' base gv' c lv'∧Mod (pb::ob gv) w w'∧ApG pb gv' lv'
section
variable {w:World} {pb base:Nat} {gv sv tv:Value} {b:Bk} {lv:List (Grt × Value)} {r:Rcd}
theorem ChgIn.srt (h:ChgIn w pb base gv b lv r sv tv):SrtG (lv.map Prod.fst):=by
 rw [← h.bk.eq]
 exact okFrom_sorted (valid_iff.1 h.valid).2.2.2
theorem ChgIn.len (h:ChgIn w pb base gv b lv r sv tv):lv.length≤6:=by
 have:=(valid_iff.1 h.valid).2.2.1
 rw [h.bk.eq] at this
 simpa using this
theorem ChgIn.bits (h:ChgIn w pb base gv b lv r sv tv):(1≤b.next∧b.next≤1099511627777)∧(0≤b.boots∧b.boots≤1099511627776)∧(r.kind=4→b.next≤1099511627776)∧(r.kind=5→b.next≤1099511627776)∧(r.kind=4∨r.kind=3→grantB r.grant=true)∧(r.kind=7→0≤b.boots∧b.boots<1099511627776)∧(r.kind=4→lastI r.grant.stamp=r.grant.id):=by
 have hh:=heads_iff.1 (valid_iff.1 h.valid).1
 obtain ⟨l1,l2,l3⟩:=limit_zero.1 h.lim
 refine ⟨⟨hh.1,hh.2.1⟩,⟨hh.2.2.1,hh.2.2.2⟩,fun e=>l1 (.inl e),fun e=>l1 (.inr e),fun e=>(may_grant h.may e).1,fun e=>⟨hh.2.2.1,?_⟩,fun e=>(may_grant h.may (.inl e)).2 e⟩
 have:=l2 e
 omega
end
theorem chg7_spec {b:Bk} {g:Grt} {i n bo l:Int} {s:List Int}:changeB b ⟨7,g,i,s,n,bo,l⟩=some { b with boots:=b.boots+1 }:=by
 unfold changeB
 simp only
 rw [if_neg (by decide),if_neg (by decide),if_neg (by decide),if_neg (by decide),if_neg (by decide),if_neg (by decide)]
theorem chg2_some {nx bo lo rl:Int} {bg:List Grt} {g:Grt} {i n k:Int} {s:List Int} (h:lo<rl):changeB ⟨nx,bo,lo,bg⟩ ⟨2,g,i,s,n,k,rl⟩=some ⟨nx,bo,rl,bg⟩:=by
 simp [changeB,h]
theorem chg2_none {nx bo lo rl:Int} {bg:List Grt} {g:Grt} {i n k:Int} {s:List Int} (h:¬ lo<rl):changeB ⟨nx,bo,lo,bg⟩ ⟨2,g,i,s,n,k,rl⟩=none:=by
 simp [changeB,h]
theorem chg1_some {b:Bk} {rl:Int} {g:Grt} {i n k:Int} {s:List Int} (h:b=Bk.new):changeB b ⟨1,g,i,s,n,k,rl⟩=some { b with next:=n,boots:=k }:=by
 simp [changeB,h]
theorem chg1_none {b:Bk} {rl:Int} {g:Grt} {i n k:Int} {s:List Int} (h:¬ b=Bk.new):changeB b ⟨1,g,i,s,n,k,rl⟩=none:=by
 simp [changeB,h]
def TR (rb:Nat) (R:Array Value) (w:World):Prop:=w.heap[rb]?=some (.cells R 42 (0,0))
theorem bnew_any (w:World):Calls Tryz.prog 42 #[] w fun e w'=>e=.returned (aggB Bk.new (.slice none 0 0))∧Mod [] w w':=by
 go_enter Tryz.func42,Tryz.ntmps42
 go_wp2_with fail
 refine bodyPost_ret (v:=aggB Bk.new (.slice none 0 0)) (res_cell1 Tryz.results42 _ _ rfl (heap_alloc_new w _) Tryz.isAgg34 Tryz.sizeOf34) rfl ⟨rfl,(Mod.refl _ _).alloc _⟩
theorem chg6_some {nx bo lo rl:Int} {bg:List Grt} {g:Grt} {i n k:Int} {s:List Int} (h:hasG bg i=true):changeB ⟨nx,bo,lo,bg⟩ ⟨6,g,i,s,n,k,rl⟩=some ⟨nx,bo,lo,delG bg i⟩:=by
 simp [changeB,h]
theorem chg6_none {nx bo lo rl:Int} {bg:List Grt} {g:Grt} {i n k:Int} {s:List Int} (h:hasG bg i=false):changeB ⟨nx,bo,lo,bg⟩ ⟨6,g,i,s,n,k,rl⟩=none:=by
 simp [changeB,h]
theorem chg5_some {nx bo lo rl:Int} {bg:List Grt} {g:Grt} {i n k:Int} {s:List Int} (h:hasG bg i=true) (h2:lastI s=nx):changeB ⟨nx,bo,lo,bg⟩ ⟨5,g,i,s,n,k,rl⟩=some ⟨nx+1,bo,lo,setG bg i s⟩:=by
 simp [changeB,h,h2]
theorem chg5_none {nx bo lo rl:Int} {bg:List Grt} {g:Grt} {i n k:Int} {s:List Int} (h:hasG bg i=false∨¬ lastI s=nx):changeB ⟨nx,bo,lo,bg⟩ ⟨5,g,i,s,n,k,rl⟩=none:=by
 rcases h with h | h <;> simp [changeB,h]
theorem chg4_some {nx bo lo rl:Int} {bg:List Grt} {g:Grt} {i n k:Int} {s:List Int} (h:g.id=nx):changeB ⟨nx,bo,lo,bg⟩ ⟨4,g,i,s,n,k,rl⟩=some ⟨nx+1,bo,lo,putG bg g⟩:=by
 simp [changeB,h]
theorem chg4_none {nx bo lo rl:Int} {bg:List Grt} {g:Grt} {i n k:Int} {s:List Int} (h:¬ g.id=nx):changeB ⟨nx,bo,lo,bg⟩ ⟨4,g,i,s,n,k,rl⟩=none:=by
 simp [changeB,h]
theorem chg3_some {nx bo lo rl:Int} {bg:List Grt} {g:Grt} {i n k:Int} {s:List Int} (h:hasG bg g.id=false) (h2:lastI g.stamp<nx):changeB ⟨nx,bo,lo,bg⟩ ⟨3,g,i,s,n,k,rl⟩=some ⟨nx,bo,lo,putG bg g⟩:=by
 simp [changeB,h,h2]
theorem chg3_none {nx bo lo rl:Int} {bg:List Grt} {g:Grt} {i n k:Int} {s:List Int} (h:hasG bg g.id=true∨¬ lastI g.stamp<nx):changeB ⟨nx,bo,lo,bg⟩ ⟨3,g,i,s,n,k,rl⟩=none:=by
 rcases h with h | h
 · simp [changeB,h]
 · have:¬ (hasG bg g.id=false∧lastI g.stamp<nx):=fun x=>h x.2
   simp only [changeB]
   simp [this]
theorem insP_put {lv:List (Grt × Value)} {bg:List Grt} {g:Grt} {sv:Value} {k:Nat} (h:bg=lv.map Prod.fst) (hk:posG (lv.map Prod.fst) g.id=k):putG bg g=(insP lv k (g,sv)).map Prod.fst:=by
 subst h
 unfold putG insP
 rw [hk]
 simp
theorem insP_ap {lv:List (Grt × Value)} {g:Grt} {sv v v':Value} {k pb:Nat} (h:ApG pb v lv) (h1:pb ∉ ob v') (h2:pb ∉ ob sv):ApG pb v' (insP lv k (g,sv)):=⟨h1,fun p hp=>by
 rcases List.mem_append.1 hp with hp | hp
 · exact h.2 p (List.mem_of_mem_take hp)
 · rcases List.mem_cons.1 hp with rfl | hp
   · exact h2
   · exact h.2 p (List.mem_of_mem_drop hp)⟩
theorem change_any {w:World} {pb base:Nat} {gv sv tv:Value} {b:Bk} {lv:List (Grt × Value)} {r:Rcd} (h:ChgIn w pb base gv b lv r sv tv) :
 Calls Tryz.prog 83 #[.pointer (some ⟨pb,0,none⟩),aggR r sv tv] w fun e w'=>ChgTo w pb base gv b r e w':=by
 obtain ⟨kd,⟨gi,gh,gp,gm,gs,gt⟩,ri,rs,rn,rb,rl⟩:=r
 obtain ⟨nx,bo,lo,bg⟩:=b
 have hc:kd=1∨kd=2∨kd=3∨kd=4∨kd=5∨kd=6∨kd=7:=by have:=may_kind h.may;simp only at this;omega
 have hat0:=fun {W:World} (g:Mod [] w W)=>at_any ((h.bk.gr).mod g (by simp)) (h.srt) (by have:=h.len;omega) ri
 obtain ⟨W0,hW0⟩:∃ W0,W0=w.alloc (.cells #[.int .i64 kd,.int .i64 gi,.int .i64 gh,.string gp,.int .i64 gm,sv,.int .i64 gt,.int .i64 ri,tv,.int .i64 rn,.int .i64 rb,.int .i64 rl] 42 (0,0)):=⟨_,rfl⟩
 have hr0:W0.heap[w.heap.size]?=some (.cells #[.int .i64 kd,.int .i64 gi,.int .i64 gh,.string gp,.int .i64 gm,sv,.int .i64 gt,.int .i64 ri,tv,.int .i64 rn,.int .i64 rb,.int .i64 rl] 42 (0,0)):=by rw [hW0];exact heap_alloc_new w _
 have hm0:Mod [] w W0:=by rw [hW0];exact (Mod.refl _ _).alloc _
 have hp0:W0.heap[pb]?=some (.cells #[.int .i64 nx,.int .i64 bo,.int .i64 lo,gv] 34 (0,0)):=hm0.at_ h.box (by simp)
 obtain ⟨q1,c1,hsv⟩:=(h.sv w (Mod.refl _ _)).len
 obtain ⟨q2,c2,htv⟩:=(h.tv w (Mod.refl _ _)).len
 simp only at hsv htv
 subst hsv htv
 have hat:=hat0 hm0.drew
 have HB:=h.bits
 dsimp only at HB
 obtain ⟨PO,hPO⟩:∃ PO,posG (lv.map Prod.fst) ri=PO:=⟨_,rfl⟩
 obtain ⟨HA,hHA⟩:∃ HA,hasG (lv.map Prod.fst) ri=HA:=⟨_,rfl⟩
 rw [hPO,hHA] at hat
 have HP:=Hj2 hPO hHA
 have HT:=Hj2 hp0 hr0
 have HH:=Hj2 h hm0
 clear hat0 hp0 hr0 hPO hHA h hm0
 unfold aggR cellsR
 simp only
 go_enter Tryz.func83,Tryz.ntmps83
 go_upto_region 1 with fail
 rw [← hW0]
 clear hW0
 refine pB 11 (TB pb w.heap.size #[.int .i64 nx,.int .i64 bo,.int .i64 lo,gv] #[.int .i64 kd,.int .i64 gi,.int .i64 gh,.string gp,.int .i64 gm,.slice q1 gs.length c1,.int .i64 gt,.int .i64 ri,.slice q2 rs.length c2,.int .i64 rn,.int .i64 rb,.int .i64 rl]) (⟨HT.out.1,HT.out.2⟩) ?_
 refine pP 0 ?_;refine pP 1 ?_;refine pP 2 ?_
 refine pT 3 rfl [11] (fun w hSw=>by have C0:=blk_cell hSw.1;have C1:=blk_cell hSw.2;go_simp;try with_reducible rfl) ?_
 refine pP 4 ?_
 refine pT 5 rfl [11] (fun w hSw=>by have C0:=blk_cell hSw.1;have C1:=blk_cell hSw.2;go_simp;try with_reducible rfl) ?_
 refine pX 6 fun hT K HK=>?_
 refine step_call rfl 121 #[.tmp 15,.tmp 17] #[32,3] rfl (enters_of Tryz.func121 (by kernel_rfl) rfl) #[gv,.int .i64 ri] (by simp [Act.eval]) ?_
 refine (hat).mono ?_
 rintro e w1 ⟨rfl,hm1⟩
 refine ⟨_,rfl,?_⟩
 have hT2:TB pb w.heap.size #[.int .i64 nx,.int .i64 bo,.int .i64 lo,gv] #[.int .i64 kd,.int .i64 gi,.int .i64 gh,.string gp,.int .i64 gm,.slice q1 gs.length c1,.int .i64 gt,.int .i64 ri,.slice q2 rs.length c2,.int .i64 rn,.int .i64 rb,.int .i64 rl] _:=hT.mod hm1 (by simp) (by simp)
 have HT1:=Hj2 hT2 hm1
 clear hm1
 refine HK.out _ _ _ hT2 ?_
 clear HK K hT hT2
 refine pP 7 ?_;refine pP 8 ?_;refine pP 9 ?_;refine pP 10 ?_
 refine pY 11 fun hT K HK=>?_
 go_simp
 refine HK.out _ _ _ ?_
 clear HK K hT
 refine pD ?_
 clear hat
 obtain ⟨hT1,hm1⟩:=HT1.out
 have C0:=blk_cell hT1.1
 have C1:=blk_cell hT1.2
 have F0:=blk_free hT1.1
 clear hT1 hm1
 rcases hc with rfl | rfl | rfl | rfl | rfl | rfl | rfl
 · clear HB
   go_upto_region 10 with fail
   clear C0 C1 F0
   refine pB 5 (TB pb w.heap.size #[.int .i64 nx,.int .i64 bo,.int .i64 lo,gv] #[.int .i64 1,.int .i64 gi,.int .i64 gh,.string gp,.int .i64 gm,.slice q1 gs.length c1,.int .i64 gt,.int .i64 ri,.slice q2 rs.length c2,.int .i64 rn,.int .i64 rb,.int .i64 rl]) (⟨HT1.out.1.1,HT1.out.1.2⟩) ?_
   refine pP 0 ?_;refine pP 1 ?_
   refine pT 2 rfl [5] (fun w hSw=>by have C0:=blk_cell hSw.1;have C1:=blk_cell hSw.2;go_simp;try with_reducible rfl) ?_
   refine pX 3 fun hT K HK=>?_
   refine step_call rfl 42 #[] #[] rfl (enters_of Tryz.func42 (by kernel_rfl) rfl) #[] (by simp) ?_
   refine (bnew_any _).mono ?_
   rintro e w2 ⟨rfl,hm2⟩
   refine ⟨_,rfl,?_⟩
   have hT2:TB pb w.heap.size #[.int .i64 nx,.int .i64 bo,.int .i64 lo,gv] #[.int .i64 1,.int .i64 gi,.int .i64 gh,.string gp,.int .i64 gm,.slice q1 gs.length c1,.int .i64 gt,.int .i64 ri,.slice q2 rs.length c2,.int .i64 rn,.int .i64 rb,.int .i64 rl] w2:=hT.mod hm2 (by simp) (by simp)
   have HM2:=hide hm2
   clear hm2
   refine HK.out _ _ _ hT2 ?_
   clear HK K hT hT2
   refine pX 4 fun hT K HK=>?_
   refine step_call rfl 122 #[.tmp 39,.tmp 40] #[34,34] rfl (enters_of Tryz.func122 (by kernel_rfl) rfl) #[aggB ⟨nx,bo,lo,bg⟩ gv,aggB Bk.new (.slice none 0 0)] (by simp [Act.eval,aggB]) ?_
   have hmA:Mod [] w w2:=((HH.out.2.drew.then HT1.out.2).drew).then HM2.out
   refine (same_new ⟨HH.out.1.bk.gr.mod hmA (by simp),HH.out.1.bk.eq⟩ (by have:=HH.out.1.len;omega)).mono ?_
   rintro e w3 ⟨rfl,hm3⟩
   refine ⟨_,rfl,?_⟩
   have hT2:TB pb w.heap.size #[.int .i64 nx,.int .i64 bo,.int .i64 lo,gv] #[.int .i64 1,.int .i64 gi,.int .i64 gh,.string gp,.int .i64 gm,.slice q1 gs.length c1,.int .i64 gt,.int .i64 ri,.slice q2 rs.length c2,.int .i64 rn,.int .i64 rb,.int .i64 rl] w3:=hT.mod hm3 (by simp) (by simp)
   have HM3:=Hj2 hT2 (hmA.then hm3)
   clear hm3 hmA
   refine HK.out _ _ _ hT2 ?_
   clear HK K hT hT2
   refine pY 5 fun hT K HK=>?_
   go_simp
   refine HK.out _ _ _ ?_
   clear HK K hT
   refine pD ?_
   have hpr:pb≠w.heap.size:=fun e=>by have:=lt_of_block HH.out.1.box;omega
   go_upto_region 11 with fail
   refine pB 11 (TR w.heap.size #[.int .i64 1,.int .i64 gi,.int .i64 gh,.string gp,.int .i64 gm,.slice q1 gs.length c1,.int .i64 gt,.int .i64 ri,.slice q2 rs.length c2,.int .i64 rn,.int .i64 rb,.int .i64 rl]) (HM3.out.1.2) ?_
   refine pP 0 ?_;refine pP 1 ?_;refine pP 2 ?_
   refine pT 3 rfl [11] (fun w hSw=>by have C1:=blk_cell hSw;go_simp;try with_reducible rfl) ?_
   refine pP 4 ?_
   refine pT 5 rfl [11] (fun w hSw=>by have C1:=blk_cell hSw;go_simp;try with_reducible rfl) ?_
   refine pP 6 ?_;refine pP 7 ?_
   refine pX 8 fun hT K HK=>?_
   have C2:=blk_cell (w:=w3.drew) HM3.out.1.1
   have F2:=blk_free (w:=w3.drew) HM3.out.1.1
   go_simp
   have hT2:TR w.heap.size #[.int .i64 1,.int .i64 gi,.int .i64 gh,.string gp,.int .i64 gm,.slice q1 gs.length c1,.int .i64 gt,.int .i64 ri,.slice q2 rs.length c2,.int .i64 rn,.int .i64 rb,.int .i64 rl] (w3.drew.setCell ⟨pb,0,none⟩ (.int .i64 rn)):=blk_other hT (by simpa using hpr) _
   clear C2 F2
   refine HK.out _ _ _ hT2 ?_
   clear HK K hT hT2
   refine pP 9 ?_;refine pP 10 ?_
   refine pY 11 fun hT K HK=>?_
   have C2:=blk_cell (w:=w3) HM3.out.1.1
   have F2:=blk_free (w:=w3) HM3.out.1.1
   go_simp
   have HB2:=hide (blk_set (blk_set (w:=w3.drew) HM3.out.1.1 0 (.int .i64 rn)) 1 (.int .i64 rb))
   clear C2 F2
   refine HK.out _ _ _ ?_
   clear HK K hT
   refine pD ?_
   go_wp2_with fail
   go_ret
   obtain ⟨h,hm0⟩:=HH.out
   obtain ⟨hT3,hm3⟩:=HM3.out
   have hmS:Mod [pb] w3 ((w3.drew.setCell ⟨pb,0,none⟩ (.int .i64 rn)).setCell ⟨pb,1,none⟩ (.int .i64 rb)):=(((Mod.refl _ _).drew).setCell (fun _=>by simp) _).setCell (fun _=>by simp) _
   by_cases hl:(⟨nx,bo,lo,bg⟩:Bk)=Bk.new
   · refine .inr ⟨_,gv,lv,chg1_some hl,by rw [decide_eq_true hl];rfl,HB2.out,⟨(h.bk.gr.mod hm3 (by simp)).mod2 hmS (fun k hk=>?_),h.bk.eq⟩,((hm3.mono (by simp)).then (hmS.mono (by simp))),h.apart⟩
     simp only [List.mem_singleton] at hk
     subst hk
     exact h.apart
   · exact .inl ⟨chg1_none hl,by rw [decide_eq_false hl];rfl,((hm3.mono (by simp)).then (hmS.mono (by simp)))⟩
 · clear HB
   go_wp2_with fail
   go_quiet (fail)
   go_wp2_with fail
   go_ret
   obtain ⟨h,hm0⟩:=HH.out
   obtain ⟨hT1,hm1⟩:=HT1.out
   have hmw:Mod [] w w1:=hm0.drew.then hm1
   by_cases hl:lo<rl
   · refine .inr ⟨_,gv,lv,chg2_some hl,by rw [decide_eq_true hl];rfl,blk_set (w:=w1.drewN _) hT1.1 2 _,⟨((h.bk.gr.mod hmw (by simp)).gr ((Gr.refl _).drewN _)).mod2 (S:=[pb]) ((Mod.refl _ _).setCell (fun _=>by simp) _) (fun k hk=>?_),h.bk.eq⟩,(((hmw.mono (by simp)).drewN _).setCell (fun _=>by simp) _),h.apart⟩
     simp only [List.mem_singleton] at hk
     subst hk
     exact h.apart
   · exact .inl ⟨chg2_none hl,by rw [decide_eq_false hl];rfl,(((hmw.mono (by simp)).drewN _).setCell (fun _=>by simp) _)⟩
 · have HGB:=hide (HB.2.2.2.2.1 (.inr rfl))
   clear HB
   have hm2:Mod [] w w1:=(HH.out.2.drew).then HT1.out.2
   have HTT:=hide HT1.out.1
   have HMM:=hide hm2
   obtain ⟨W2,hW2⟩:∃ W2,w1=W2:=⟨_,rfl⟩
   rw [hW2] at HTT HMM C0 C1 F0 ⊢
   have HT2:Hid (TB pb w.heap.size #[.int .i64 nx,.int .i64 bo,.int .i64 lo,gv] #[.int .i64 3,.int .i64 gi,.int .i64 gh,.string gp,.int .i64 gm,.slice q1 gs.length c1,.int .i64 gt,.int .i64 ri,.slice q2 rs.length c2,.int .i64 rn,.int .i64 rb,.int .i64 rl] W2):=HTT
   have HM2:Hid (Mod (pb::ob gv) w W2):=HMM.out.mono (by simp)
   have HG2:Hid (GrM W2 base gv lv):=HH.out.1.bk.gr.mod HMM.out (by simp)
   have HS2:Hid (∀ W,Mod (pb::ob gv) W2 W→RdN W (.slice q1 gs.length c1) gs):=fun W m=>HH.out.1.sv W (HM2.out.then m)
   have HBS:Hid (base≤W2.heap.size):=Nat.le_trans HH.out.1.base HM2.out.size
   have hat2:=fun (W:World) (m:Mod [] W2 W)=>at_any (HG2.out.mod m (by simp)) HH.out.1.srt (by have:=HH.out.1.len;omega) gi
   obtain ⟨HQ,hHQ⟩:∃ HQ,hasG (lv.map Prod.fst) gi=HQ:=⟨_,rfl⟩
   rw [hHQ] at hat2
   obtain ⟨LG,hLG⟩:∃ LG,lastI gs=LG:=⟨_,rfl⟩
   have HQG:=Hj2 hHQ hLG
   have hrp:w.heap.size≠pb:=fun e=>by have:=lt_of_block HH.out.1.box;omega
   clear hHQ hLG
   obtain ⟨PQ,hPQ⟩:∃ PQ,posG (lv.map Prod.fst) gi=PQ:=⟨_,rfl⟩
   have hpq:PQ≤lv.length:=by have:=posG_le (lv.map Prod.fst) gi;rw [hPQ] at this;simpa using this
   rw [hPQ] at hat2
   have HPQ:=hide hPQ
   clear hPQ
   have hlen:=HH.out.1.len
   have hrbv:w.heap.size ∉ ob gv:=fun e=>by have:=(ob_of_row HH.out.1.bk.gr.row _ e).2;omega
   have HST:Hid (gs.length≤4):=(stm_range (grant_iff.1 HGB.out).2.2.2.2.1).1
   go_upto_region 19 with fail
   refine pB 12 (TB pb w.heap.size #[.int .i64 nx,.int .i64 bo,.int .i64 lo,gv] #[.int .i64 3,.int .i64 gi,.int .i64 gh,.string gp,.int .i64 gm,.slice q1 gs.length c1,.int .i64 gt,.int .i64 ri,.slice q2 rs.length c2,.int .i64 rn,.int .i64 rb,.int .i64 rl]) (HT2.out) ?_
   refine pP 0 ?_;refine pP 1 ?_;refine pP 2 ?_
   refine pT 3 rfl [12] (fun w hSw=>by have C0:=blk_cell hSw.1;have C1:=blk_cell hSw.2;go_simp;try with_reducible rfl) ?_
   refine pP 4 ?_;refine pP 5 ?_
   refine pT 6 rfl [12] (fun w hSw=>by have C0:=blk_cell hSw.1;have C1:=blk_cell hSw.2;go_simp;try with_reducible rfl) ?_
   refine pX 7 fun hT K HK=>?_
   refine step_call rfl 121 #[.tmp 85,.tmp 88] #[32,3] rfl (enters_of Tryz.func121 (by kernel_rfl) rfl) #[gv,.int .i64 gi] (by simp [Act.eval]) ?_
   refine (hat2 _ (Mod.refl [] W2).drew).mono ?_
   rintro e w3 ⟨rfl,hm3⟩
   refine ⟨_,rfl,?_⟩
   have hT2:TB pb w.heap.size #[.int .i64 nx,.int .i64 bo,.int .i64 lo,gv] #[.int .i64 3,.int .i64 gi,.int .i64 gh,.string gp,.int .i64 gm,.slice q1 gs.length c1,.int .i64 gt,.int .i64 ri,.slice q2 rs.length c2,.int .i64 rn,.int .i64 rb,.int .i64 rl] w3:=hT.mod hm3 (by simp) (by simp)
   have H3:=Hj2 hT2 (((Mod.refl [] W2).drew).then hm3)
   clear hm3
   refine HK.out _ _ _ hT2 ?_
   clear HK K hT hT2
   refine pP 8 ?_;refine pP 9 ?_;refine pP 10 ?_;refine pP 11 ?_
   refine pY 12 fun hT K HK=>?_
   go_simp
   refine HK.out _ _ _ ?_
   clear HK K hT
   refine pD ?_
   clear hat2
   go_upto_region 20 with fail
   refine pB 13 (TB pb w.heap.size #[.int .i64 nx,.int .i64 bo,.int .i64 lo,gv] #[.int .i64 3,.int .i64 gi,.int .i64 gh,.string gp,.int .i64 gm,.slice q1 gs.length c1,.int .i64 gt,.int .i64 ri,.slice q2 rs.length c2,.int .i64 rn,.int .i64 rb,.int .i64 rl]) (H3.out.1) ?_
   refine pP 0 ?_;refine pP 1 ?_;refine pP 2 ?_;refine pP 3 ?_
   refine pT 4 rfl [13] (fun w hSw=>by have C0:=blk_cell hSw.1;have C1:=blk_cell hSw.2;go_simp;try with_reducible rfl) ?_
   refine pP 5 ?_;refine pP 6 ?_
   refine pT 7 rfl [13] (fun w hSw=>by have C0:=blk_cell hSw.1;have C1:=blk_cell hSw.2;go_simp;try with_reducible rfl) ?_
   refine pX 8 fun hT K HK=>?_
   refine step_call rfl 91 #[.tmp 99] #[40] rfl (enters_of Tryz.func91 (by kernel_rfl) rfl) #[aggG ⟨gi,gh,gp,gm,gs,gt⟩ (.slice q1 gs.length c1)] (by simp [Act.eval,aggG,cellsG]) ?_
   refine (twinG_any (g:=⟨gi,gh,gp,gm,gs,gt⟩) (HS2.out _ (H3.out.2.drew.mono (by simp))) (by have:=HST.out;show gs.length≤1000000;omega)).mono ?_
   rintro e w4 ⟨v4,rfl,hown4,hm4⟩
   refine ⟨_,rfl,?_⟩
   have hT2:TB pb w.heap.size #[.int .i64 nx,.int .i64 bo,.int .i64 lo,gv] #[.int .i64 3,.int .i64 gi,.int .i64 gh,.string gp,.int .i64 gm,.slice q1 gs.length c1,.int .i64 gt,.int .i64 ri,.slice q2 rs.length c2,.int .i64 rn,.int .i64 rb,.int .i64 rl] w4:=hT.mod hm4 (by simp) (by simp)
   obtain ⟨p4,d4,hv4⟩:=(rdN_of_row hown4).len
   simp only at hv4
   subst hv4
   simp only [aggG,cellsG]
   have H4:=Hj2 hown4 (H3.out.2.drew.then hm4)
   clear hown4 hm4
   refine HK.out _ _ _ hT2 ?_
   clear HK K hT hT2
   refine pX 9 fun hT K HK=>?_
   go_simp
   obtain ⟨W5,hW5⟩:∃ W5,W5=w4.alloc (.cells #[.int .i64 gi,.int .i64 gh,.string gp,.int .i64 gm,.slice p4 gs.length d4,.int .i64 gt] 40 (0,0)):=⟨_,rfl⟩
   rw [← hW5]
   have hm5:Mod [] w4 W5:=by rw [hW5];exact (Mod.refl _ _).alloc _
   have hk5:W5.heap[w4.heap.size]?=some (.cells #[.int .i64 gi,.int .i64 gh,.string gp,.int .i64 gm,.slice p4 gs.length d4,.int .i64 gt] 40 (0,0)):=by rw [hW5];exact heap_alloc_new w4 _
   have hT2:TB pb w.heap.size #[.int .i64 nx,.int .i64 bo,.int .i64 lo,gv] #[.int .i64 3,.int .i64 gi,.int .i64 gh,.string gp,.int .i64 gm,.slice q1 gs.length c1,.int .i64 gt,.int .i64 ri,.slice q2 rs.length c2,.int .i64 rn,.int .i64 rb,.int .i64 rl] W5:=hT.mod hm5 (by simp) (by simp)
   have H5:=Hj2 hm5 hk5
   clear hW5 hm5 hk5
   refine HK.out _ _ _ hT2 ?_
   clear HK K hT hT2
   refine pX 10 fun hT K HK=>?_
   refine step_call rfl 123 #[.tmp 96,.tmp 97,.tmp 101] #[32,3,32] rfl (enters_of Tryz.func123 (by kernel_rfl) rfl) #[gv,.int .i64 (PQ:Int),.slice (some ⟨w4.heap.size,0,none⟩) 1 1] (by simp [Act.eval]) ?_
   have hm25:Mod [] W2 W5:=H4.out.2.then H5.out.1
   have hs2:=H4.out.2.size
   have hobv:∀ k,k∈ob gv→k<W2.heap.size:=fun k hk=>(ob_of_row HG2.out.row k hk).2
   have hs4:W2.heap.size≤w3.drew.heap.size:=H3.out.2.size
   have hown5:=H5.out.1.row H4.out.1 (by simp)
   refine (insG_any (x:=⟨gi,gh,gp,gm,gs,gt⟩) (sv:=.slice p4 gs.length d4) (HG2.out.mod hm25 (by simp)) (by omega) (Nat.le_trans HBS.out hm25.size) (i:=PQ) hpq (k:=w4.heap.size) H5.out.2 (fun e=>by have:=hobv _ e;omega) (World.ownsRow.mono hown5 (Nat.le_trans HBS.out hs4)) (fun k hk hk2=>by
    have h1:=(ob_of_row hown5 k hk).1
    have h2:=hobv _ hk2
    omega)).mono ?_
   rintro e w6 ⟨v6,rfl,hgm6,hm6,hu6⟩
   refine ⟨_,rfl,?_⟩
   obtain ⟨L6,hL6⟩:∃ L6,insP lv PQ (⟨gi,gh,gp,gm,gs,gt⟩,.slice p4 gs.length d4)=L6:=⟨_,rfl⟩
   rw [hL6] at hgm6
   obtain ⟨p6,d6,hv6,-⟩:=hgm6.shape
   subst hv6
   have hT2:TB pb w.heap.size #[.int .i64 nx,.int .i64 bo,.int .i64 lo,gv] #[.int .i64 3,.int .i64 gi,.int .i64 gh,.string gp,.int .i64 gm,.slice q1 gs.length c1,.int .i64 gt,.int .i64 ri,.slice q2 rs.length c2,.int .i64 rn,.int .i64 rb,.int .i64 rl] w6:=hT.mod hm6 HH.out.1.apart.1 hrbv
   have hp4:∀ k,k∈ob (.slice p4 gs.length d4)→W2.heap.size≤k:=fun k hk=>by
    have h1:=(ob_of_row hown5 k hk).1
    omega
   have hu6':∀ k,k∈ob (.slice p6 L6.length d6)→k∈ob gv∨W2.heap.size≤k:=fun k hk=>by
    rcases hu6 k hk with h1 | h1
    · exact .inl h1
    · exact .inr (Nat.le_trans hm25.size h1)
   have H6:=Hj6 hgm6 ((hm25.mono (by simp)).then hm6) hu6' hp4 hT2 hL6
   clear hgm6 hm6 hu6 hm25 hs2 hobv hs4 hown5 hp4 hu6' hL6
   refine HK.out _ _ _ hT2 ?_
   clear HK K hT hT2
   refine pP 11 ?_;refine pP 12 ?_
   refine pY 13 fun hT K HK=>?_
   have C2:=blk_cell (w:=w6) H6.out.2.2.2.2.1.1
   have F2:=blk_free (w:=w6) H6.out.2.2.2.2.1.1
   go_simp
   clear C2 F2
   refine HK.out _ _ _ ?_
   clear HK K hT
   refine pD ?_
   obtain ⟨W7,hW7⟩:∃ W7,W7=w6.setCell ⟨pb,3,none⟩ (.slice p6 L6.length d6):=⟨_,rfl⟩
   rw [← hW7]
   have hb7:W7.heap[pb]?=some (.cells #[.int .i64 nx,.int .i64 bo,.int .i64 lo,.slice p6 L6.length d6] 34 (0,0)):=by rw [hW7];exact blk_set H6.out.2.2.2.2.1.1 3 _
   have hm67:Mod [pb] w6 W7:=by rw [hW7];exact (Mod.refl _ _).setCell (fun _=>by simp) _
   have hr7:W7.heap[w.heap.size]?=_:=hm67.at_ H6.out.2.2.2.2.1.2 (by simpa using hrp)
   have hm27:Mod (pb::ob gv) W2 W7:=H6.out.2.1.trans hm67 (fun x hx _=>List.mem_cons_of_mem _ hx) (fun x hx _=>by simp at hx;simp [hx])
   have hpb2:pb<W2.heap.size:=lt_of_block HT2.out.1
   have hap7:ApG pb (.slice p6 L6.length d6) L6:=by
    rw [← H6.out.2.2.2.2.2]
    exact insP_ap HH.out.1.apart (fun e=>by
     rw [H6.out.2.2.2.2.2] at e
     rcases H6.out.2.2.1 _ e with h1 | h1
     · exact HH.out.1.apart.1 h1
     · omega) (fun e=>by have:=H6.out.2.2.2.1 _ e;omega)
   have hgm7:GrM W7 base (.slice p6 L6.length d6) L6:=H6.out.1.mod2 hm67 (fun k hk=>by
    simp only [List.mem_singleton] at hk
    subst hk
    exact hap7)
   have kn:=newest_any (HS2.out W7 hm27)
   have kq:=fun (n:Nat)=>newest_any (HS2.out (W7.drewN n) (hm27.drewN n))
   have kd:=newest_any (HS2.out W7.drew hm27.drew)
   rw [show lastI gs=LG from HQG.out.2] at kn kd
   simp only [show lastI gs=LG from HQG.out.2] at kq
   have C0:=blk_cell hb7
   have C1:=blk_cell hr7
   have H7:=Hj4 hb7 hm27 hgm7 hap7
   clear hW7 hb7 hm67 hr7 hm27 hap7 hgm7 HG2 hpq hrp
   cases HQ with
   | true =>
     go_wp2_with fail
     go_quiet (fail)
     go_wp2_with fail
     go_ret
     obtain ⟨h,hm0⟩:=HH.out
     exact .inl ⟨chg3_none (.inl (by rw [show bg=_ from h.bk.eq];exact HQG.out.1)),rfl,(HM2.out.then H7.out.2.1).drewN _⟩
   | false =>
     by_cases hl:LG<nx
     · have hd:decide (LG<nx)=true:=decide_eq_true hl
       go_wp2_with fail
       go_quiet ((first | (go_at_call 117;exact Calls.quiet_of_same kd) | (go_at_call 117;exact Calls.quiet_of_same (kq _)) | (go_at_call 117;exact Calls.quiet_of_same kn)))
       go_wp2_with fail
       go_ret
       obtain ⟨h,hm0⟩:=HH.out
       obtain ⟨hb7,hm27,hgm7,hap7⟩:=H7.out
       refine .inr ⟨_,_,L6,chg3_some (by rw [show bg=_ from h.bk.eq];exact HQG.out.1) (by rw [show lastI _=_ from HQG.out.2];exact hl),rfl,hb7,⟨hgm7.gr ((Gr.refl _).drewN _),?_⟩,(HM2.out.then hm27).drewN _,hap7⟩
       rw [← H6.out.2.2.2.2.2]
       exact insP_put h.bk.eq HPQ.out
     · have hd:decide (LG<nx)=false:=decide_eq_false hl
       go_wp2_with fail
       go_quiet ((first | (go_at_call 117;exact Calls.quiet_of_same kd) | (go_at_call 117;exact Calls.quiet_of_same (kq _)) | (go_at_call 117;exact Calls.quiet_of_same kn)))
       go_wp2_with fail
       go_ret
       obtain ⟨h,hm0⟩:=HH.out
       exact .inl ⟨chg3_none (.inr (by rw [show lastI _=_ from HQG.out.2];omega)),rfl,(HM2.out.then H7.out.2.1).drewN _⟩
 · have HGB:=hide (HB.2.2.2.2.1 (.inl rfl))
   have hbnx:=HB.2.2.1 rfl
   have hlast:=HB.2.2.2.2.2.2 rfl
   have hw:IntKind.i64.wrap (nx+1)=nx+1:=by have:=HB.1;rw [IntKind.wrap_i64];omega
   clear HB
   have hm2:Mod [] w w1:=(HH.out.2.drew).then HT1.out.2
   have HMM:=hide hm2
   clear hm2
   by_cases hgi:gi=nx
   · have hb:(gi != nx)=false:=by simpa using hgi
     have HGI:=hide hgi
     clear hgi
     go_wp2_with fail
     go_quiet (fail)
     go_upto_region 19 with fail
     obtain ⟨W2,hW2⟩:∃ W2,W2=(w1.drewN nq).setCell ⟨pb,0,none⟩ (.int .i64 (nx+1)):=⟨_,rfl⟩
     rw [← hW2]
     have hm12:Mod [pb] w1 W2:=by rw [hW2];exact ((Mod.refl _ _).drewN _).setCell (fun _=>by simp) _
     have hrp0:w.heap.size≠pb:=fun e=>by have:=lt_of_block HH.out.1.box;omega
     have HT2:Hid (TB pb w.heap.size #[.int .i64 (nx+1),.int .i64 bo,.int .i64 lo,gv] #[.int .i64 4,.int .i64 gi,.int .i64 gh,.string gp,.int .i64 gm,.slice q1 gs.length c1,.int .i64 gt,.int .i64 ri,.slice q2 rs.length c2,.int .i64 rn,.int .i64 rb,.int .i64 rl] W2):=⟨by rw [hW2];exact blk_set (w:=w1.drewN nq) HT1.out.1.1 0 _,hm12.at_ HT1.out.1.2 (by simpa using hrp0)⟩
     have HM2:Hid (Mod (pb::ob gv) w W2):=HMM.out.trans hm12 (by simp) (fun x hx _=>by simp at hx;simp [hx])
     have HG2:Hid (GrM W2 base gv lv):=(HH.out.1.bk.gr.mod HMM.out (by simp)).mod2 hm12 (fun k hk=>by
      simp only [List.mem_singleton] at hk
      subst hk
      exact HH.out.1.apart)
     clear hW2 hm12 hrp0 C0 C1 F0 hb
     have HS2:Hid (∀ W,Mod (pb::ob gv) W2 W→RdN W (.slice q1 gs.length c1) gs):=fun W m=>HH.out.1.sv W (HM2.out.then m)
     have HBS:Hid (base≤W2.heap.size):=Nat.le_trans HH.out.1.base HM2.out.size
     have hat2:=fun (W:World) (m:Mod [] W2 W)=>at_any (HG2.out.mod m (by simp)) HH.out.1.srt (by have:=HH.out.1.len;omega) gi
     obtain ⟨HQ,hHQ⟩:∃ HQ,hasG (lv.map Prod.fst) gi=HQ:=⟨_,rfl⟩
     rw [hHQ] at hat2
     obtain ⟨LG,hLG⟩:∃ LG,lastI gs=LG:=⟨_,rfl⟩
     have HQG:=Hj2 hHQ hLG
     have hrp:w.heap.size≠pb:=fun e=>by have:=lt_of_block HH.out.1.box;omega
     clear hHQ hLG
     have hnoQ:HQ=false:=by
      have hv:=okFrom_mem (valid_iff.1 HH.out.1.valid).2.2.2
      rw [HH.out.1.bk.eq] at hv
      cases hc:HQ with
      | false=>rfl
      | true =>
        obtain ⟨x,hx,he⟩:=hasG_iff.1 (HQG.out.1.trans hc)
        have k1:=(grant_iff.1 (hv x hx).1).2.2.2.2.2.1
        have k2:=(hv x hx).2.1
        have k3:=HGI.out
        simp only at k2
        omega
     subst hnoQ
     have hLGn:LG=nx:=by have:=HQG.out.2;have:=HGI.out;omega
     have hld:LG<nx+1:=by omega
     have hd:decide (LG<nx+1)=true:=decide_eq_true hld
     have HLG:=hide hLGn
     clear hLGn hlast hbnx
     obtain ⟨PQ,hPQ⟩:∃ PQ,posG (lv.map Prod.fst) gi=PQ:=⟨_,rfl⟩
     have hpq:PQ≤lv.length:=by have:=posG_le (lv.map Prod.fst) gi;rw [hPQ] at this;simpa using this
     rw [hPQ] at hat2
     have HPQ:=hide hPQ
     clear hPQ
     have hlen:=HH.out.1.len
     have hrbv:w.heap.size ∉ ob gv:=fun e=>by have:=(ob_of_row HH.out.1.bk.gr.row _ e).2;omega
     have HST:Hid (gs.length≤4):=(stm_range (grant_iff.1 HGB.out).2.2.2.2.1).1
     go_upto_region 19 with fail
     refine pB 12 (TB pb w.heap.size #[.int .i64 (nx+1),.int .i64 bo,.int .i64 lo,gv] #[.int .i64 4,.int .i64 gi,.int .i64 gh,.string gp,.int .i64 gm,.slice q1 gs.length c1,.int .i64 gt,.int .i64 ri,.slice q2 rs.length c2,.int .i64 rn,.int .i64 rb,.int .i64 rl]) (HT2.out) ?_
     refine pP 0 ?_;refine pP 1 ?_;refine pP 2 ?_
     refine pT 3 rfl [12] (fun w hSw=>by have C0:=blk_cell hSw.1;have C1:=blk_cell hSw.2;go_simp;try with_reducible rfl) ?_
     refine pP 4 ?_;refine pP 5 ?_
     refine pT 6 rfl [12] (fun w hSw=>by have C0:=blk_cell hSw.1;have C1:=blk_cell hSw.2;go_simp;try with_reducible rfl) ?_
     refine pX 7 fun hT K HK=>?_
     refine step_call rfl 121 #[.tmp 85,.tmp 88] #[32,3] rfl (enters_of Tryz.func121 (by kernel_rfl) rfl) #[gv,.int .i64 gi] (by simp [Act.eval]) ?_
     refine (hat2 _ (Mod.refl [] W2).drew).mono ?_
     rintro e w3 ⟨rfl,hm3⟩
     refine ⟨_,rfl,?_⟩
     have hT2:TB pb w.heap.size #[.int .i64 (nx+1),.int .i64 bo,.int .i64 lo,gv] #[.int .i64 4,.int .i64 gi,.int .i64 gh,.string gp,.int .i64 gm,.slice q1 gs.length c1,.int .i64 gt,.int .i64 ri,.slice q2 rs.length c2,.int .i64 rn,.int .i64 rb,.int .i64 rl] w3:=hT.mod hm3 (by simp) (by simp)
     have H3:=Hj2 hT2 (((Mod.refl [] W2).drew).then hm3)
     clear hm3
     refine HK.out _ _ _ hT2 ?_
     clear HK K hT hT2
     refine pP 8 ?_;refine pP 9 ?_;refine pP 10 ?_;refine pP 11 ?_
     refine pY 12 fun hT K HK=>?_
     go_simp
     refine HK.out _ _ _ ?_
     clear HK K hT
     refine pD ?_
     clear hat2
     go_upto_region 20 with fail
     refine pB 13 (TB pb w.heap.size #[.int .i64 (nx+1),.int .i64 bo,.int .i64 lo,gv] #[.int .i64 4,.int .i64 gi,.int .i64 gh,.string gp,.int .i64 gm,.slice q1 gs.length c1,.int .i64 gt,.int .i64 ri,.slice q2 rs.length c2,.int .i64 rn,.int .i64 rb,.int .i64 rl]) (H3.out.1) ?_
     refine pP 0 ?_;refine pP 1 ?_;refine pP 2 ?_;refine pP 3 ?_
     refine pT 4 rfl [13] (fun w hSw=>by have C0:=blk_cell hSw.1;have C1:=blk_cell hSw.2;go_simp;try with_reducible rfl) ?_
     refine pP 5 ?_;refine pP 6 ?_
     refine pT 7 rfl [13] (fun w hSw=>by have C0:=blk_cell hSw.1;have C1:=blk_cell hSw.2;go_simp;try with_reducible rfl) ?_
     refine pX 8 fun hT K HK=>?_
     refine step_call rfl 91 #[.tmp 99] #[40] rfl (enters_of Tryz.func91 (by kernel_rfl) rfl) #[aggG ⟨gi,gh,gp,gm,gs,gt⟩ (.slice q1 gs.length c1)] (by simp [Act.eval,aggG,cellsG]) ?_
     refine (twinG_any (g:=⟨gi,gh,gp,gm,gs,gt⟩) (HS2.out _ (H3.out.2.drew.mono (by simp))) (by have:=HST.out;show gs.length≤1000000;omega)).mono ?_
     rintro e w4 ⟨v4,rfl,hown4,hm4⟩
     refine ⟨_,rfl,?_⟩
     have hT2:TB pb w.heap.size #[.int .i64 (nx+1),.int .i64 bo,.int .i64 lo,gv] #[.int .i64 4,.int .i64 gi,.int .i64 gh,.string gp,.int .i64 gm,.slice q1 gs.length c1,.int .i64 gt,.int .i64 ri,.slice q2 rs.length c2,.int .i64 rn,.int .i64 rb,.int .i64 rl] w4:=hT.mod hm4 (by simp) (by simp)
     obtain ⟨p4,d4,hv4⟩:=(rdN_of_row hown4).len
     simp only at hv4
     subst hv4
     simp only [aggG,cellsG]
     have H4:=Hj2 hown4 (H3.out.2.drew.then hm4)
     clear hown4 hm4
     refine HK.out _ _ _ hT2 ?_
     clear HK K hT hT2
     refine pX 9 fun hT K HK=>?_
     go_simp
     obtain ⟨W5,hW5⟩:∃ W5,W5=w4.alloc (.cells #[.int .i64 gi,.int .i64 gh,.string gp,.int .i64 gm,.slice p4 gs.length d4,.int .i64 gt] 40 (0,0)):=⟨_,rfl⟩
     rw [← hW5]
     have hm5:Mod [] w4 W5:=by rw [hW5];exact (Mod.refl _ _).alloc _
     have hk5:W5.heap[w4.heap.size]?=some (.cells #[.int .i64 gi,.int .i64 gh,.string gp,.int .i64 gm,.slice p4 gs.length d4,.int .i64 gt] 40 (0,0)):=by rw [hW5];exact heap_alloc_new w4 _
     have hT2:TB pb w.heap.size #[.int .i64 (nx+1),.int .i64 bo,.int .i64 lo,gv] #[.int .i64 4,.int .i64 gi,.int .i64 gh,.string gp,.int .i64 gm,.slice q1 gs.length c1,.int .i64 gt,.int .i64 ri,.slice q2 rs.length c2,.int .i64 rn,.int .i64 rb,.int .i64 rl] W5:=hT.mod hm5 (by simp) (by simp)
     have H5:=Hj2 hm5 hk5
     clear hW5 hm5 hk5
     refine HK.out _ _ _ hT2 ?_
     clear HK K hT hT2
     refine pX 10 fun hT K HK=>?_
     refine step_call rfl 123 #[.tmp 96,.tmp 97,.tmp 101] #[32,3,32] rfl (enters_of Tryz.func123 (by kernel_rfl) rfl) #[gv,.int .i64 (PQ:Int),.slice (some ⟨w4.heap.size,0,none⟩) 1 1] (by simp [Act.eval]) ?_
     have hm25:Mod [] W2 W5:=H4.out.2.then H5.out.1
     have hs2:=H4.out.2.size
     have hobv:∀ k,k∈ob gv→k<W2.heap.size:=fun k hk=>(ob_of_row HG2.out.row k hk).2
     have hs4:W2.heap.size≤w3.drew.heap.size:=H3.out.2.size
     have hown5:=H5.out.1.row H4.out.1 (by simp)
     refine (insG_any (x:=⟨gi,gh,gp,gm,gs,gt⟩) (sv:=.slice p4 gs.length d4) (HG2.out.mod hm25 (by simp)) (by omega) (Nat.le_trans HBS.out hm25.size) (i:=PQ) hpq (k:=w4.heap.size) H5.out.2 (fun e=>by have:=hobv _ e;omega) (World.ownsRow.mono hown5 (Nat.le_trans HBS.out hs4)) (fun k hk hk2=>by
      have h1:=(ob_of_row hown5 k hk).1
      have h2:=hobv _ hk2
      omega)).mono ?_
     rintro e w6 ⟨v6,rfl,hgm6,hm6,hu6⟩
     refine ⟨_,rfl,?_⟩
     obtain ⟨L6,hL6⟩:∃ L6,insP lv PQ (⟨gi,gh,gp,gm,gs,gt⟩,.slice p4 gs.length d4)=L6:=⟨_,rfl⟩
     rw [hL6] at hgm6
     obtain ⟨p6,d6,hv6,-⟩:=hgm6.shape
     subst hv6
     have hT2:TB pb w.heap.size #[.int .i64 (nx+1),.int .i64 bo,.int .i64 lo,gv] #[.int .i64 4,.int .i64 gi,.int .i64 gh,.string gp,.int .i64 gm,.slice q1 gs.length c1,.int .i64 gt,.int .i64 ri,.slice q2 rs.length c2,.int .i64 rn,.int .i64 rb,.int .i64 rl] w6:=hT.mod hm6 HH.out.1.apart.1 hrbv
     have hp4:∀ k,k∈ob (.slice p4 gs.length d4)→W2.heap.size≤k:=fun k hk=>by
      have h1:=(ob_of_row hown5 k hk).1
      omega
     have hu6':∀ k,k∈ob (.slice p6 L6.length d6)→k∈ob gv∨W2.heap.size≤k:=fun k hk=>by
      rcases hu6 k hk with h1 | h1
      · exact .inl h1
      · exact .inr (Nat.le_trans hm25.size h1)
     have H6:=Hj6 hgm6 ((hm25.mono (by simp)).then hm6) hu6' hp4 hT2 hL6
     clear hgm6 hm6 hu6 hm25 hs2 hobv hs4 hown5 hp4 hu6' hL6
     refine HK.out _ _ _ hT2 ?_
     clear HK K hT hT2
     refine pP 11 ?_;refine pP 12 ?_
     refine pY 13 fun hT K HK=>?_
     have C2:=blk_cell (w:=w6) H6.out.2.2.2.2.1.1
     have F2:=blk_free (w:=w6) H6.out.2.2.2.2.1.1
     go_simp
     clear C2 F2
     refine HK.out _ _ _ ?_
     clear HK K hT
     refine pD ?_
     obtain ⟨W7,hW7⟩:∃ W7,W7=w6.setCell ⟨pb,3,none⟩ (.slice p6 L6.length d6):=⟨_,rfl⟩
     rw [← hW7]
     have hb7:W7.heap[pb]?=some (.cells #[.int .i64 (nx+1),.int .i64 bo,.int .i64 lo,.slice p6 L6.length d6] 34 (0,0)):=by rw [hW7];exact blk_set H6.out.2.2.2.2.1.1 3 _
     have hm67:Mod [pb] w6 W7:=by rw [hW7];exact (Mod.refl _ _).setCell (fun _=>by simp) _
     have hr7:W7.heap[w.heap.size]?=_:=hm67.at_ H6.out.2.2.2.2.1.2 (by simpa using hrp)
     have hm27:Mod (pb::ob gv) W2 W7:=H6.out.2.1.trans hm67 (fun x hx _=>List.mem_cons_of_mem _ hx) (fun x hx _=>by simp at hx;simp [hx])
     have hpb2:pb<W2.heap.size:=lt_of_block HT2.out.1
     have hap7:ApG pb (.slice p6 L6.length d6) L6:=by
      rw [← H6.out.2.2.2.2.2]
      exact insP_ap HH.out.1.apart (fun e=>by
       rw [H6.out.2.2.2.2.2] at e
       rcases H6.out.2.2.1 _ e with h1 | h1
       · exact HH.out.1.apart.1 h1
       · omega) (fun e=>by have:=H6.out.2.2.2.1 _ e;omega)
     have hgm7:GrM W7 base (.slice p6 L6.length d6) L6:=H6.out.1.mod2 hm67 (fun k hk=>by
      simp only [List.mem_singleton] at hk
      subst hk
      exact hap7)
     have kn:=newest_any (HS2.out W7 hm27)
     have kq:=fun (n:Nat)=>newest_any (HS2.out (W7.drewN n) (hm27.drewN n))
     have kd:=newest_any (HS2.out W7.drew hm27.drew)
     rw [show lastI gs=LG from HQG.out.2] at kn kd
     simp only [show lastI gs=LG from HQG.out.2] at kq
     have C0:=blk_cell hb7
     have C1:=blk_cell hr7
     have H7:=Hj4 hb7 hm27 hgm7 hap7
     clear hW7 hb7 hm67 hr7 hm27 hap7 hgm7 HG2 hpq hrp
     go_wp2_with fail
     go_quiet ((first | (go_at_call 117;exact Calls.quiet_of_same kd) | (go_at_call 117;exact Calls.quiet_of_same (kq _)) | (go_at_call 117;exact Calls.quiet_of_same kn)))
     go_wp2_with fail
     go_ret
     obtain ⟨h,hm0⟩:=HH.out
     obtain ⟨hb7,hm27,hgm7,hap7⟩:=H7.out
     refine .inr ⟨_,_,L6,chg4_some HGI.out,rfl,hb7,⟨hgm7.gr ((Gr.refl _).drewN _),?_⟩,(HM2.out.then hm27).drewN _,hap7⟩
     rw [← H6.out.2.2.2.2.2]
     exact insP_put h.bk.eq HPQ.out
   · have hb:(gi != nx)=true:=by rw [bne_iff_ne];exact hgi
     have HGI:=hide hgi
     clear hgi
     go_wp2_with fail
     go_quiet (fail)
     go_wp2_with fail
     go_ret
     exact .inl ⟨chg4_none HGI.out,rfl,(HMM.out.mono (by simp)).drewN _⟩
 · have hbnx:=HB.2.2.2.1 rfl
   have hw:IntKind.i64.wrap (nx+1)=nx+1:=by have:=HB.1;rw [IntKind.wrap_i64];omega
   clear HB
   cases HA with
   | false =>
     go_wp2_with fail
     go_quiet (fail)
     go_wp2_with fail
     go_ret
     obtain ⟨h,hm0⟩:=HH.out
     obtain ⟨hT1,hm1⟩:=HT1.out
     exact .inl ⟨chg5_none (.inl (by rw [show bg=_ from h.bk.eq];exact HP.out.2)),rfl,((hm0.drew.then hm1).mono (by simp)).drewN _⟩
   | true =>
     have hP:=(has_at HH.out.1.srt).1 HP.out.2
     rw [HP.out.1,List.length_map] at hP
     have hlt:=hP.1
     clear hP
     have hlen:=HH.out.1.len
     have HMW:=hide ((HH.out.2.drew).then HT1.out.2)
     have kn:=fun {W:World} (m:Mod [] w W)=>newest_any (HH.out.1.tv _ (m.mono (by simp)))
     simp only at kn
     obtain ⟨LS,hLS⟩:∃ LS,lastI rs=LS:=⟨_,rfl⟩
     rw [hLS] at kn
     by_cases hL:LS=nx
     · have hb:(LS != nx)=false:=by simpa using hL
       have HL:=Hj2 hLS hL
       clear hLS hL
       go_wp2_with fail
       go_quiet ((first | (go_at_call 117;exact Calls.quiet_of_same (kn (HMW.out.drewN _))) | (go_at_call 117;exact Calls.quiet_of_same (kn (HMW.out.drew))) | (go_at_call 117;exact Calls.quiet_of_same (kn (HMW.out)))))
       go_wp2_with fail
       obtain ⟨gq,gc,hgv,-⟩:=HH.out.1.bk.gr.shape
       subst hgv
       obtain ⟨bb,hgq,-⟩:=HH.out.1.bk.gr.at_ PO hlt
       subst hgq
       obtain ⟨W2,hW2⟩:∃ W2,W2=w1.drewN nq:=⟨_,rfl⟩
       rw [← hW2]
       have hm2:Mod [] w W2:=by rw [hW2];exact HMW.out.drewN _
       have hT2:TB pb w.heap.size #[.int .i64 nx,.int .i64 bo,.int .i64 lo,.slice (some ⟨bb,0,none⟩) lv.length gc] #[.int .i64 5,.int .i64 gi,.int .i64 gh,.string gp,.int .i64 gm,.slice q1 gs.length c1,.int .i64 gt,.int .i64 ri,.slice q2 rs.length c2,.int .i64 rn,.int .i64 rb,.int .i64 rl] W2:=by rw [hW2];exact HT1.out.1
       have HM2:=hide hm2
       have HT2:=hide hT2
       have HST:Hid (rs.length≤4):=(stm_range (may_fresh HH.out.1.may rfl).2).1
       have GMX:∀ (W:World),Mod [] w W→Hid ((∀ j,j<6→W.cell? ⟨bb,PO * 6+j,none⟩=(encG (lv.getD PO default))[j]?)∧(∀ j,W.frozen? ⟨bb,j,none⟩=false)):=fun W m=>by
        obtain ⟨b',hb',-,-,hc,hf,-⟩:=(HH.out.1.bk.gr.mod m (by simp)).at_ PO hlt
        simp only [Option.some.injEq,Addr.mk.injEq,and_true] at hb'
        subst hb'
        exact ⟨hc,hf⟩
       have hi1:(PO:Int)<(lv.length:Int):=by omega
       clear hW2 hm2 hT2 C0 C1 F0 hb kn
       refine pB 10 (TB pb w.heap.size #[.int .i64 nx,.int .i64 bo,.int .i64 lo,.slice (some ⟨bb,0,none⟩) lv.length gc] #[.int .i64 5,.int .i64 gi,.int .i64 gh,.string gp,.int .i64 gm,.slice q1 gs.length c1,.int .i64 gt,.int .i64 ri,.slice q2 rs.length c2,.int .i64 rn,.int .i64 rb,.int .i64 rl]) (HT2.out) ?_
       refine pP 0 ?_;refine pP 1 ?_;refine pP 2 ?_
       refine pT 3 rfl [10] (fun w hSw=>by have C0:=blk_cell hSw.1;have C1:=blk_cell hSw.2;go_simp;try with_reducible rfl) ?_
       refine pP 4 ?_;refine pP 5 ?_
       refine pT 6 rfl [10] (fun w hSw=>by have C0:=blk_cell hSw.1;have C1:=blk_cell hSw.2;go_simp;try with_reducible rfl) ?_
       refine pX 7 fun hT K HK=>?_
       refine step_call rfl 124 #[.tmp 136] #[38] rfl (enters_of Tryz.func124 (by kernel_rfl) rfl) #[.slice q2 rs.length c2] (by simp [Act.eval]) ?_
       refine (clone_any (HH.out.1.tv _ (HM2.out.drew.mono (by simp))) (by have:=HST.out;show rs.length≤1000000;omega)).mono ?_
       rintro e w3 ⟨v3,rfl,hown3,hm3⟩
       refine ⟨_,rfl,?_⟩
       have hT2:TB pb w.heap.size #[.int .i64 nx,.int .i64 bo,.int .i64 lo,.slice (some ⟨bb,0,none⟩) lv.length gc] #[.int .i64 5,.int .i64 gi,.int .i64 gh,.string gp,.int .i64 gm,.slice q1 gs.length c1,.int .i64 gt,.int .i64 ri,.slice q2 rs.length c2,.int .i64 rn,.int .i64 rb,.int .i64 rl] w3:=hT.mod hm3 (by simp) (by simp)
       obtain ⟨p3,d3,hv3⟩:=(rdN_of_row hown3).len
       simp only at hv3
       subst hv3
       have H3:=Hj3 hown3 (HM2.out.drew.then hm3) hT2
       clear hown3 hm3
       refine HK.out _ _ _ hT2 ?_
       clear HK K hT hT2
       refine pP 8 ?_;refine pP 9 ?_
       refine pY 10 fun hT K HK=>?_
       have C2:=(GMX w3 H3.out.2.1).out.1 4 (by decide)
       have F2:=(GMX w3 H3.out.2.1).out.2
       simp [encG,cellsG] at C2
       go_simp
       clear C2 F2
       refine HK.out _ _ _ ?_
       clear HK K hT
       refine pD ?_
       obtain ⟨W4,hW4⟩:∃ W4,W4=w3.setCell ⟨bb,PO * 6+4,none⟩ (.slice p3 rs.length d3):=⟨_,rfl⟩
       rw [← hW4]
       have hpb:pb≠bb:=fun e=>HH.out.1.apart.1 (by rw [ob_some];simp [e])
       have hb4:W4.heap[pb]?=some (.cells #[.int .i64 nx,.int .i64 bo,.int .i64 lo,.slice (some ⟨bb,0,none⟩) lv.length gc] 34 (0,0)):=by
        rw [hW4];exact blk_other H3.out.2.2.1 (by simpa using Ne.symm hpb) _
       have C0:=blk_cell hb4
       have F0:=blk_free hb4
       have HB4:=Hj2 hb4 hW4
       clear hb4 hW4
       go_wp2_with fail
       go_ret
       obtain ⟨h,hm0⟩:=HH.out
       obtain ⟨hown3,hm3,-⟩:=H3.out
       obtain ⟨hb4,hW4⟩:=HB4.out
       have hszw:=HM2.out.size
       have hown':=World.ownsRow.mono hown3 (show base≤_ from Nat.le_trans h.base (show w.heap.size≤W2.drew.heap.size from hszw))
       have hobs:∀ k,k∈ob (.slice p3 rs.length d3)→w.heap.size≤k:=fun k hk=>by
        have h1:=(ob_of_row hown3 k hk).1
        have h2:W2.drew.heap.size=W2.heap.size:=rfl
        omega
       have hbbs:bb<w.heap.size:=(ob_of_row h.bk.gr.row bb (by rw [ob_some];simp)).2
       have hpbs:pb<w.heap.size:=lt_of_block h.box
       have hgm4:GrM W4 base (.slice (some ⟨bb,0,none⟩) lv.length gc) (lv.set PO ({ (lv.getD PO default).1 with stamp:=rs },.slice p3 rs.length d3)):=by
        rw [hW4]
        exact GrM.setSt (h.bk.gr.mod hm3 (by simp)) hlt hown' (fun e=>by have:=hobs _ e;omega)
       have hm4:Mod [bb] w3 W4:=by rw [hW4];exact (Mod.refl _ _).setCell (fun _=>by simp) _
       have hm5:Mod [pb] W4 (W4.setCell ⟨pb,0,none⟩ (.int .i64 (nx+1))):=(Mod.refl _ _).setCell (fun _=>by simp) _
       have hap:ApG pb (.slice (some ⟨bb,0,none⟩) lv.length gc) (lv.set PO ({ (lv.getD PO default).1 with stamp:=rs },.slice p3 rs.length d3)):=⟨h.apart.1,fun p hp=>by
        rcases List.mem_or_eq_of_mem_set hp with hp | rfl
        · exact h.apart.2 p hp
        · exact fun e=>by have:=hobs _ e;omega⟩
       refine .inr ⟨_,_,_,chg5_some (by rw [show bg=_ from h.bk.eq];exact HP.out.2) (by rw [HL.out.1];exact HL.out.2),rfl,blk_set hb4 0 _,⟨hgm4.mod2 hm5 (fun k hk=>?_),?_⟩,((hm3.mono (by simp)).trans (hm4.trans hm5 (U:=pb::ob (.slice (some ⟨bb,0,none⟩) lv.length gc)) (fun x hx _=>by rw [ob_some];simp at hx;simp [hx]) (fun x hx _=>by simp at hx;simp [hx])) (fun x hx _=>hx) (fun x hx _=>hx)),hap⟩
       · simp only [List.mem_singleton] at hk
         subst hk
         exact hap
       · show setG bg ri rs=_
         rw [show bg=_ from h.bk.eq]
         unfold setG
         rw [HP.out.1,List.map_set]
         simp [hlt]
     · have hb:(LS != nx)=true:=by rw [bne_iff_ne];exact hL
       have HL:=Hj2 hLS hL
       clear hLS hL
       go_wp2_with fail
       go_quiet ((first | (go_at_call 117;exact Calls.quiet_of_same (kn (HMW.out.drewN _))) | (go_at_call 117;exact Calls.quiet_of_same (kn (HMW.out.drew))) | (go_at_call 117;exact Calls.quiet_of_same (kn (HMW.out)))))
       go_wp2_with fail
       go_ret
       obtain ⟨h,hm0⟩:=HH.out
       obtain ⟨hT1,hm1⟩:=HT1.out
       exact .inl ⟨chg5_none (.inr (by rw [HL.out.1];exact HL.out.2)),rfl,((hm0.drew.then hm1).mono (by simp)).drewN _⟩
 · clear HB
   cases HA with
   | false =>
     go_wp2_with fail
     go_ret
     obtain ⟨h,hm0⟩:=HH.out
     obtain ⟨hT1,hm1⟩:=HT1.out
     exact .inl ⟨chg6_none (by rw [show bg=_ from h.bk.eq];exact HP.out.2),rfl,(hm0.drew.then hm1).mono (by simp)⟩
   | true =>
     have hP:=(has_at HH.out.1.srt).1 HP.out.2
     rw [HP.out.1,List.length_map] at hP
     have hlt:=hP.1
     clear hP
     have hlen:=HH.out.1.len
     have hw:IntKind.i64.wrap ((PO:Int)+1)=(PO:Int)+1:=by rw [IntKind.wrap_i64];omega
     obtain ⟨L2,hL2⟩:∃ L2,lv.take PO++lv.drop (PO+1)=L2:=⟨_,rfl⟩
     have hrbv:w.heap.size ∉ ob gv:=fun e=>by have:=(ob_of_row HH.out.1.bk.gr.row _ e).2;omega
     have HMW:=hide ((HH.out.2.drew).then HT1.out.2)

     go_wp2_with (
      go_at_call 125
      refine (delG_any (HH.out.1.bk.gr.mod (S:=[]) HMW.out (by simp)) hlt).mono ?_
      rintro e w2 ⟨v2,rfl,hgm2,hm2,hu2⟩
      rw [hL2] at hgm2
      obtain ⟨p2,d2,hv2,-⟩:=hgm2.shape
      subst hv2
      have hT2:TB pb w.heap.size #[.int .i64 nx,.int .i64 bo,.int .i64 lo,gv] #[.int .i64 6,.int .i64 gi,.int .i64 gh,.string gp,.int .i64 gm,.slice q1 gs.length c1,.int .i64 gt,.int .i64 ri,.slice q2 rs.length c2,.int .i64 rn,.int .i64 rb,.int .i64 rl] w2:=TB.mod ⟨HT1.out.1.1,HT1.out.1.2⟩ hm2 HH.out.1.apart.1 hrbv
      have H2:=Hj4 hgm2 hm2 hu2 hT2
      have C2:=blk_cell hT2.1
      have F2:=blk_free hT2.1
      clear hgm2 hm2 hu2 hT2 C0 F0 C1)
     go_ret
     obtain ⟨h,hm0⟩:=HH.out
     obtain ⟨hgm2,hm2,hu2,hT2⟩:=H2.out
     have hm3:Mod [pb] w2 (w2.setCell ⟨pb,3,none⟩ (.slice p2 L2.length d2)):=(Mod.refl _ _).setCell (fun _=>by simp) _
     have hap:ApG pb (.slice p2 L2.length d2) L2:=⟨fun e=>h.apart.1 (hu2 _ e),fun p hp=>h.apart.2 p (by
      rw [← hL2] at hp
      rcases List.mem_append.1 hp with hp | hp
      · exact List.mem_of_mem_take hp
      · exact List.mem_of_mem_drop hp)⟩
     refine .inr ⟨_,_,L2,chg6_some (by rw [show bg=_ from h.bk.eq];exact HP.out.2),rfl,blk_set hT2.1 3 _,⟨hgm2.mod2 hm3 (fun k hk=>?_),?_⟩,(HMW.out.mono (by simp)).trans (hm2.trans hm3 (U:=pb::ob gv) (fun x hx _=>List.mem_cons_of_mem _ hx) (fun x hx _=>by simp at hx;simp [hx])) (fun x hx _=>hx) (fun x hx _=>hx),hap⟩
     · simp only [List.mem_singleton] at hk
       subst hk
       exact hap
     · show delG bg ri=_
       rw [show bg=_ from h.bk.eq]
       unfold delG
       rw [HP.out.1,← hL2]
       simp
 · obtain ⟨hb0,hb1⟩:=HB.2.2.2.2.2.1 rfl
   have hw:IntKind.i64.wrap (bo+1)=bo+1:=by rw [IntKind.wrap_i64];omega
   clear HB
   go_wp2_with fail
   go_ret
   obtain ⟨h,hm0⟩:=HH.out
   obtain ⟨hT1,hm1⟩:=HT1.out
   have hm:Mod [pb] w1 (w1.setCell ⟨pb,1,none⟩ (.int .i64 (bo+1))):=(Mod.refl _ _).setCell (fun _=>by simp) _
   have hmw:Mod [] w w1:=hm0.drew.then hm1
   refine .inr ⟨_,gv,lv,chg7_spec,rfl,blk_set hT1.1 1 _,⟨(h.bk.gr.mod hmw (by simp)).mod2 hm (fun k hk=>?_),h.bk.eq⟩,((hmw.mono (by simp)).then (hm.mono (by simp))),h.apart⟩
   simp only [List.mem_singleton] at hk
   subst hk
   exact h.apart
end Go.Proofs.YtpphoeimakjjdaaGreatDoor
/-
  WALKS: layer 11: Apply: a record more.
-/
namespace Go.Proofs.YtpphoeimakjjdaaGreatDoor
set_option maxRecDepth 100000
set_option maxHeartbeats 4000000
open Go.RowKit

theorem alloc_hereA {w:World} {k:Nat} {o:Obj} (h:k=w.heap.size):(w.alloc o).heap[k]?=some o:=by rw [h];exact heap_alloc_new w o
def AppTo (w:World) (t:Bk × Int) (e:Ending) (w':World):Prop :=
 ∃ gv lv,e=.returned (.tuple #[aggB t.1 gv,.int .i64 t.2])∧BkM w' w.heap.size gv t.1 lv∧Mod [] w w'
def SmG (lv:List (Grt × Value)):Prop:=∀ p,p∈lv→p.1.path.size≤9223372036854775807
theorem BkM.nil (w:World) (base:Nat):BkM w base (.slice none 0 0) Bk.zero []:=⟨GrM.nil _ _,rfl⟩
theorem valid_small {b:Bk} {lv:List (Grt × Value)} (hv:validB b=true) (he:b.grants=lv.map Prod.fst):lv.length≤6∧∀ p,p∈lv→p.1.stamp.length≤4∧p.1.path.size≤27:=by
 obtain ⟨_,_,h3,h4⟩:=valid_iff.1 hv
 rw [he] at h3 h4
 refine ⟨by simpa using h3,fun p hp=>?_⟩
 have hg:=(okFrom_mem h4 p.1 (List.mem_map.2 ⟨p,hp,rfl⟩)).1
 obtain ⟨_,_,k3,_,k5,_⟩:=grant_iff.1 hg
 exact ⟨(stm_range k5).1,by have:=pathOk_len k3;simpa using this⟩
theorem apply_bad {b:Bk} {r:Rcd} (h:validB b=false∨mayB r=false):applyB b r=(Bk.zero,43):=by unfold applyB;rw [if_pos h]
theorem apply_lim {b:Bk} {r:Rcd} (h:validB b=true) (h2:mayB r=true) (h3:limitI b r.kind≠0):applyB b r=(Bk.zero,limitI b r.kind):=by unfold applyB;rw [if_neg (by simp [h,h2]),if_pos h3]
theorem apply_none {b:Bk} {r:Rcd} (h:validB b=true) (h2:mayB r=true) (h3:limitI b r.kind=0) (h4:changeB b r=none):applyB b r=(Bk.zero,43):=by unfold applyB;rw [if_neg (by simp [h,h2]),if_neg (by simpa using h3),h4]
theorem AppTo.zero {w W w':World} {t:Bk × Int} {e:Int} {z:Nat} (ht:t=(Bk.zero,e)) (hm:Mod [] w W) (hz:w.heap.size≤z) (hm2:Mod [z] W w'):AppTo w t (.returned (.tuple #[.agg #[.int .i64 0,.int .i64 0,.int .i64 0,.slice none 0 0],.int .i64 e])) w':=by
 subst ht
 exact ⟨.slice none 0 0,[],rfl,BkM.nil _ _,hm.trans hm2 (by simp) (fun x hx hlt=>by simp at hx;omega)⟩
theorem apply_any {w:World} {base:Nat} {gv sv tv:Value} {b:Bk} {lv:List (Grt × Value)} {r:Rcd} (h:BkM w base gv b lv) (hps:SmG lv) (hs:RdN w sv r.grant.stamp) (ht:RdN w tv r.stamp) (hp:r.grant.path.size≤9223372036854775807) :
 Calls Tryz.prog 47 #[aggB b gv,aggR r sv tv] w fun e w'=>AppTo w (applyB b r) e w':=by
 obtain ⟨kd,⟨gi,gh,gp,gm,gs,gt⟩,ri,rs,rn,rb,rl⟩:=r
 obtain ⟨nx,bo,lo,bg⟩:=b
 simp only at hs ht hp
 have hval:=fun {W:World} (m:Mod [] w W)=>bvalid_any (b:=⟨nx,bo,lo,bg⟩) ⟨h.gr.mod m (by simp),h.eq⟩ hps
 have hmay:=fun (W:World) (m:Mod [] w W)=>mayRec_any (r:=⟨kd,⟨gi,gh,gp,gm,gs,gt⟩,ri,rs,rn,rb,rl⟩) (hs.mod m (by simp)) (ht.mod m (by simp)) hp
 obtain ⟨q2,c2,rfl⟩:=ht.len
 obtain ⟨q1,c1,rfl⟩:=hs.len
 obtain ⟨q0,c0,rfl,hmx⟩:=h.gr.shape
 obtain ⟨A,hA⟩:∃ A,applyB ⟨nx,bo,lo,bg⟩ ⟨kd,⟨gi,gh,gp,gm,gs,gt⟩,ri,rs,rn,rb,rl⟩=A:=⟨_,rfl⟩
 rw [hA]
 obtain ⟨V,hV⟩:∃ V,validB ⟨nx,bo,lo,bg⟩=V:=⟨_,rfl⟩
 obtain ⟨M,hM⟩:∃ M,mayB ⟨kd,⟨gi,gh,gp,gm,gs,gt⟩,ri,rs,rn,rb,rl⟩=M:=⟨_,rfl⟩
 rw [hV] at hval
 rw [hM] at hmay
 obtain ⟨W0,hW0⟩:∃ W0,W0=((w.alloc (.cells #[.int .i64 nx,.int .i64 bo,.int .i64 lo,.slice q0 lv.length c0] 34 (0,0))).alloc (.cells #[.int .i64 kd,.int .i64 gi,.int .i64 gh,.string gp,.int .i64 gm,.slice q1 gs.length c1,.int .i64 gt,.int .i64 ri,.slice q2 rs.length c2,.int .i64 rn,.int .i64 rb,.int .i64 rl] 42 (0,0))).alloc (.cells #[.int .i64 0,.int .i64 0,.int .i64 0,.slice none 0 0] 34 (0,0)):=⟨_,rfl⟩
 have hb0:W0.heap[w.heap.size]?=some (.cells #[.int .i64 nx,.int .i64 bo,.int .i64 lo,.slice q0 lv.length c0] 34 (0,0)):=by rw [hW0];exact blk_alloc (blk_alloc (heap_alloc_new w _) _) _
 have hr0:W0.heap[w.heap.size+1]?=some (.cells #[.int .i64 kd,.int .i64 gi,.int .i64 gh,.string gp,.int .i64 gm,.slice q1 gs.length c1,.int .i64 gt,.int .i64 ri,.slice q2 rs.length c2,.int .i64 rn,.int .i64 rb,.int .i64 rl] 42 (0,0)):=by
  rw [hW0]
  have:=heap_alloc_new (w.alloc (.cells #[.int .i64 nx,.int .i64 bo,.int .i64 lo,.slice q0 lv.length c0] 34 (0,0))) (.cells #[.int .i64 kd,.int .i64 gi,.int .i64 gh,.string gp,.int .i64 gm,.slice q1 gs.length c1,.int .i64 gt,.int .i64 ri,.slice q2 rs.length c2,.int .i64 rn,.int .i64 rb,.int .i64 rl] 42 (0,0))
  rw [World.size_alloc] at this
  exact blk_alloc this _
 have hz0:W0.heap[w.heap.size+2]?=some (.cells #[.int .i64 0,.int .i64 0,.int .i64 0,.slice none 0 0] 34 (0,0)):=by
  rw [hW0]
  exact alloc_hereA (by simp)
 have hm0:Mod [] w W0:=by rw [hW0];exact (((Mod.refl _ _).alloc _).alloc _).alloc _
 have hsz0:W0.heap.size=w.heap.size+3:=by rw [hW0];simp
 have B0:=blk_cell hb0
 have HH:=Hj4 h hs ht hmx
 have HB:=Hj5 hb0 hr0 hz0 hm0 hsz0
 have HA:=Hj3 hA hV hM
 have HK:=hide hmay
 have hval0:=hval hm0
 clear h hs ht hp hps hmx hA hV hM hb0 hr0 hz0 hm0 hsz0 hmay hval
 unfold aggB aggR cellsR
 unfold aggB at hval0
 simp only at hval0 ⊢
 go_enter Tryz.func47,Tryz.ntmps47
 go_upto_region 1 with fail
 rw [← hW0]
 clear hW0
 cases V with
 | false =>
   go_wp2_with (go_at_call 79;refine hval0.mono ?_;rintro e w1 ⟨rfl,hm1⟩
                have hz1:=hm1.at_ HB.out.2.2.1 (by simp)
                have Z0:=blk_cell hz1
                have ZF:=blk_free hz1
                have H1:=Hj2 hz1 hm1
                clear hz1 hm1 B0)
   obtain ⟨hz1,hm1⟩:=H1.out
   have hz:=HB.out.2.2.2
   have q:=stL_all hz1 [.int .i64 0,.int .i64 0,.int .i64 0,.slice none 0 0] rfl
   have qm:=stL_mod (S:=[w.heap.size+2]) (w0:=w1) (r:=w.heap.size+2) (fun _=>by simp) [.int .i64 0,.int .i64 0,.int .i64 0,.slice none 0 0] 0 _ (Mod.refl _ _)
   exact bodyPost_ret (v:=.tuple #[.agg #[.int .i64 0,.int .i64 0,.int .i64 0,.slice none 0 0],.int .i64 43]) (res_cell2 Tryz.results47 _ _ rfl q Tryz.isAgg34 Tryz.sizeOf34 rfl) rfl (AppTo.zero (by rw [← HA.out.1];exact apply_bad (.inl HA.out.2.1)) (hz.1.then hm1) (by omega) qm)
 | true =>
   have hmay1:=fun {W:World} (m:Mod [] w W)=>HK.out W m
   unfold aggR cellsR at hmay1
   simp only at hmay1
   have hR0:=HB.out.2.1
   cases M with
   | false =>
     go_wp2_with (first
      | (go_at_call 79;refine hval0.mono ?_;rintro e w1 ⟨rfl,hm1⟩
         have R0:=blk_cell (hm1.at_ HB.out.2.1 (by simp))
         have hz1:=hm1.at_ HB.out.2.2.1 (by simp)
         have hy:=hmay1 (HB.out.2.2.2.1.then hm1)
         have H1:=Hj2 hz1 (HB.out.2.2.2.1.then hm1)
         clear hz1 hm1 B0 hR0 hval0)
      | (go_at_call 80;refine hy.mono ?_;rintro e w2 ⟨rfl,hm2⟩
         have hz2:=hm2.at_ H1.out.1 (by simp)
         have Z0:=blk_cell hz2
         have ZF:=blk_free hz2
         have H2:=Hj2 hz2 (H1.out.2.then hm2)
         clear hz2 hm2 hy R0)
      | fail)
     obtain ⟨hz1,hm1⟩:=H2.out
     have hz:=HB.out.2.2.2
     have q:=stL_all hz1 [.int .i64 0,.int .i64 0,.int .i64 0,.slice none 0 0] rfl
     have qm:=stL_mod (S:=[w.heap.size+2]) (w0:=w2) (r:=w.heap.size+2) (fun _=>by simp) [.int .i64 0,.int .i64 0,.int .i64 0,.slice none 0 0] 0 _ (Mod.refl _ _)
     exact bodyPost_ret (v:=.tuple #[.agg #[.int .i64 0,.int .i64 0,.int .i64 0,.slice none 0 0],.int .i64 43]) (res_cell2 Tryz.results47 _ _ rfl q Tryz.isAgg34 Tryz.sizeOf34 rfl) rfl (AppTo.zero (by rw [← HA.out.1];exact apply_bad (.inr HA.out.2.2)) hm1 (by omega) qm)
   | true =>
     have hv:=HA.out.2.1
     have hsm:=valid_small hv HH.out.1.eq
     obtain ⟨L,hL⟩:∃ L,limitI ⟨nx,bo,lo,bg⟩ kd=L:=⟨_,rfl⟩
     have hlim:=fun (W:World)=>limits_any (w:=W) (v:=.slice q0 lv.length c0) ⟨nx,bo,lo,bg⟩ kd (q:=q0) (c:=c0) (by rw [show lv.length=bg.length from by rw [show bg=_ from HH.out.1.eq];simp]) (by rw [show (⟨nx,bo,lo,bg⟩:Bk).grants.length=lv.length from by rw [show (⟨nx,bo,lo,bg⟩:Bk).grants=_ from HH.out.1.eq];simp];omega)
     rw [hL] at hlim
     have hcop:=fun {W:World} (m:Mod [] w W)=>copied_any (b:=⟨nx,bo,lo,bg⟩) ⟨HH.out.1.gr.mod m (by simp),HH.out.1.eq⟩ (by omega) (fun p hp=>by have:=(hsm.2 p hp).1;omega)
     unfold aggB at hlim hcop
     simp only at hlim hcop
     have HL:=Hj2 hL hsm
     clear hv hsm hL
     by_cases h0:L=0
     · have hb:(L != 0)=false:=by simpa using h0
       have HZ:=hide h0
       clear h0
       go_upto_region 7 with (first
        | (go_at_call 79;refine hval0.mono ?_;rintro e w1 ⟨rfl,hm1⟩
           have R0:=blk_cell (hm1.at_ HB.out.2.1 (by simp))
           have hy:=hmay1 (HB.out.2.2.2.1.then hm1)
           have H1:=hide (HB.out.2.2.2.1.then hm1)
           have HBB:=Hj3 (hm1.at_ HB.out.1 (by simp)) (hm1.at_ HB.out.2.1 (by simp)) (hm1.at_ HB.out.2.2.1 (by simp))
           clear hm1 B0 hR0 hval0)
        | (go_at_call 80;refine hy.mono ?_;rintro e w2 ⟨rfl,hm2⟩
           have H2:=hide (H1.out.then hm2)
           have HB2:=Hj3 (hm2.at_ HBB.out.1 (by simp)) (hm2.at_ HBB.out.2.1 (by simp)) (hm2.at_ HBB.out.2.2 (by simp))
           have B2:=blk_cell HB2.out.1
           have R2:=blk_cell HB2.out.2.1
           clear hm2 hy R0)
        | (go_at_call 81;refine (hlim _).mono ?_;rintro e w3 ⟨rfl,hm3⟩
           have H3:=hide (H2.out.then hm3)
           have HB3:=Hj3 (hm3.at_ HB2.out.1 (by simp)) (hm3.at_ HB2.out.2.1 (by simp)) (hm3.at_ HB2.out.2.2 (by simp))
           have B3:=blk_cell HB3.out.1
           have hco:=hcop H3.out
           clear hm3 B2 R2)
        | (go_at_call 82;refine hco.mono ?_;rintro e w4 ⟨gv4,lv4,rfl,hbk4,hm4⟩
           obtain ⟨q4,c4,hg4,-⟩:=hbk4.gr.shape
           subst hg4
           have H4:=Hj3 hbk4 (H3.out.then hm4) hm4
           have HB4:=Hj2 (hm4.at_ HB3.out.2.1 (by simp)) (hm4.at_ HB3.out.2.2 (by simp))
           clear hm4 B3 hco hbk4)
        | fail)
       obtain ⟨W5,hW5⟩:∃ W5,W5=w4.alloc (.cells #[.int .i64 nx,.int .i64 bo,.int .i64 lo,.slice q4 lv4.length c4] 34 (0,0)):=⟨_,rfl⟩
       rw [← hW5]
       have hb5:W5.heap[w4.heap.size]?=some (.cells #[.int .i64 nx,.int .i64 bo,.int .i64 lo,.slice q4 lv4.length c4] 34 (0,0)):=by rw [hW5];exact heap_alloc_new w4 _
       have g45:Gr w4 W5:=by rw [hW5];exact (Gr.refl w4).alloc _
       have hm5:Mod [] w W5:=H4.out.2.1.gr g45
       have hr5:=(g45.mod []).at_ HB4.out.1 (by simp)
       have hz5:=(g45.mod []).at_ HB4.out.2 (by simp)
       have hs3:w.heap.size≤w3.heap.size:=H3.out.size
       have hs4:w3.heap.size≤w4.heap.size:=H4.out.2.2.size
       have hs0:w.heap.size+3≤w3.heap.size:=by
        have h1:=lt_of_block HB3.out.2.2
        omega
       have hob4:∀ k,k∈ob (.slice q4 lv4.length c4)→w3.heap.size≤k∧k<w4.heap.size:=fun k hk=>ob_of_row H4.out.1.gr.row k hk
       have hbk5:BkM W5 w3.heap.size (.slice q4 lv4.length c4) ⟨nx,bo,lo,bg⟩ lv4:=H4.out.1.gr' g45
       have hci:ChgIn W5 w4.heap.size w3.heap.size (.slice q4 lv4.length c4) ⟨nx,bo,lo,bg⟩ lv4 ⟨kd,⟨gi,gh,gp,gm,gs,gt⟩,ri,rs,rn,rb,rl⟩ (.slice q1 gs.length c1) (.slice q2 rs.length c2):=by
        refine ⟨hb5,hbk5,⟨fun e=>by have:=hob4 _ e;omega,fun p hp e=>?_⟩,by have:=g45.size;omega,fun W m=>HH.out.2.1.mod (S:=[]) (hm5.trans m (by simp) (fun x hx hlt=>?_)) (by simp),fun W m=>HH.out.2.2.1.mod (S:=[]) (hm5.trans m (by simp) (fun x hx hlt=>?_)) (by simp),HA.out.2.1,HA.out.2.2,by rw [show limitI _ _=L from HL.out.1];exact HZ.out⟩
        · have:=(ob_of_row (H4.out.1.gr.st p hp).1 _ e).2
          omega
        · rcases List.mem_cons.1 hx with rfl | hx
          · omega
          · have:=hob4 x hx;omega
        · rcases List.mem_cons.1 hx with rfl | hx
          · omega
          · have:=hob4 x hx;omega
       have hch:=change_any hci
       unfold aggR cellsR at hch
       simp only at hch
       have R5:=blk_cell hr5
       have hl5:=lt_of_block hb5
       have H5:=Hj6 hr5 hz5 hs0 hob4 hm5 hs4
       clear hW5 hb5 g45 hm5 hr5 hz5 hs3 hs4 hs0 hob4 hbk5 hci
       cases hC:changeB ⟨nx,bo,lo,bg⟩ ⟨kd,⟨gi,gh,gp,gm,gs,gt⟩,ri,rs,rn,rb,rl⟩ with
       | none =>
         have HC:=hide hC
         have hch2:=hch.mono (R':=fun e w'=>e=.returned (.bool false)∧Mod (w4.heap.size::ob (.slice q4 lv4.length c4)) W5 w') (fun e w' hx=>by
          rcases hx with ⟨-,h1,h2⟩ | ⟨c',gv',lv',hsome,-⟩
          · exact ⟨h1,h2⟩
          · rw [hC] at hsome;cases hsome)
         clear hC hch
         go_wp2_with (
          go_at_call 83
          refine hch2.mono ?_
          rintro e w6 ⟨rfl,hm6⟩
          have hz6:=hm6.at_ H5.out.2.1 (fun e=>by
           have h1:=H5.out.2.2.1
           rcases List.mem_cons.1 e with e | e
           · have:=H5.out.2.2.2.2.2;omega
           · have:=H5.out.2.2.2.1 _ e;omega)
          have Z0:=blk_cell hz6
          have ZF:=blk_free hz6
          have H6:=Hj2 hz6 hm6
          clear hz6 hm6 hch2 R5)
         obtain ⟨hz6,hm6⟩:=H6.out
         have q:=stL_all hz6 [.int .i64 0,.int .i64 0,.int .i64 0,.slice none 0 0] rfl
         have qm:=stL_mod (S:=[w.heap.size+2]) (w0:=w6) (r:=w.heap.size+2) (fun _=>by simp) [.int .i64 0,.int .i64 0,.int .i64 0,.slice none 0 0] 0 _ (Mod.refl _ _)
         exact bodyPost_ret (v:=.tuple #[.agg #[.int .i64 0,.int .i64 0,.int .i64 0,.slice none 0 0],.int .i64 43]) (res_cell2 Tryz.results47 _ _ rfl q Tryz.isAgg34 Tryz.sizeOf34 rfl) rfl (AppTo.zero (by rw [← HA.out.1];exact apply_none HA.out.2.1 HA.out.2.2 (by rw [show limitI _ _=L from HL.out.1];exact HZ.out) HC.out) (H5.out.2.2.2.2.1.trans hm6 (by simp) (fun x hx hlt=>by
          have h1:=H5.out.2.2.1
          rcases List.mem_cons.1 hx with rfl | hx
          · have:=H5.out.2.2.2.2.2;omega
          · have:=H5.out.2.2.2.1 x hx;omega)) (by omega) qm)
       | some c =>
         have HC:=hide hC
         have hch2:=hch.mono (R':=fun e w'=>∃ gv' lv',e=.returned (.bool true)∧w'.heap[w4.heap.size]?=some (.cells #[.int .i64 c.next,.int .i64 c.boots,.int .i64 c.longest,gv'] 34 (0,0))∧BkM w' w3.heap.size gv' c lv'∧Mod (w4.heap.size::ob (.slice q4 lv4.length c4)) W5 w') (fun e w' hx=>by
          rcases hx with ⟨hn,-⟩ | ⟨c',gv',lv',hsome,h1,h2,h3,h4,-⟩
          · rw [hC] at hn;cases hn
          · obtain rfl:c=c':=by rw [hC] at hsome;exact Option.some.inj hsome
            exact ⟨gv',lv',h1,h2,h3,h4⟩)
         clear hC hch
         go_upto_region 9 with (
          go_at_call 83
          refine hch2.mono ?_
          rintro e w6 ⟨gv',lv',rfl,hb6,hbk6,hm6⟩
          obtain ⟨q6,c6,hg6,-⟩:=hbk6.gr.shape
          subst hg6
          have hz6:=hm6.at_ H5.out.2.1 (fun e=>by
           have h1:=H5.out.2.2.1
           rcases List.mem_cons.1 e with e | e
           · have:=H5.out.2.2.2.2.2;omega
           · have:=H5.out.2.2.2.1 _ e;omega)
          have Z0:=blk_cell hz6
          have ZF:=blk_free hz6
          have B6:=blk_cell hb6
          have H6:=Hj3 hz6 hm6 hbk6
          clear hz6 hm6 hch2 R5 hb6 hbk6)
         go_wp2_with fail
         obtain ⟨hz6,hm6,hbk6⟩:=H6.out
         have q:=stL_all hz6 [.int .i64 c.next,.int .i64 c.boots,.int .i64 c.longest,.slice q6 lv'.length c6] rfl
         have qm:=stL_mod (S:=[w.heap.size+2]) (w0:=w6) (r:=w.heap.size+2) (fun _=>by simp) [.int .i64 c.next,.int .i64 c.boots,.int .i64 c.longest,.slice q6 lv'.length c6] 0 _ (Mod.refl _ _)
         have hA2:A=(c,0):=by rw [← HA.out.1];exact apply_eq HA.out.2.1 HA.out.2.2 (by rw [show limitI _ _=L from HL.out.1];exact HZ.out) HC.out
         have hs0:=H5.out.2.2.1
         refine bodyPost_ret (v:=.tuple #[.agg #[.int .i64 c.next,.int .i64 c.boots,.int .i64 c.longest,.slice q6 lv'.length c6],.int .i64 0]) (res_cell2 Tryz.results47 _ _ rfl q Tryz.isAgg34 Tryz.sizeOf34 rfl) rfl ⟨_,lv',by rw [hA2];rfl,by rw [hA2];exact ⟨(hbk6.gr.mod qm (fun k hk=>by simp at hk;omega)).base (by omega),hbk6.eq⟩,?_⟩
         refine (H5.out.2.2.2.2.1.trans hm6 (U:=[]) (by simp) (fun x hx hlt=>?_)).trans qm (by simp) (fun x hx hlt=>by simp at hx;omega)
         rcases List.mem_cons.1 hx with rfl | hx
         · have:=H5.out.2.2.2.2.2;omega
         · have:=H5.out.2.2.2.1 x hx;omega
     · have hb:(L != 0)=true:=by rw [bne_iff_ne];exact h0
       have HZ:=hide h0
       clear h0
       go_wp2_with (first
        | (go_at_call 79;refine hval0.mono ?_;rintro e w1 ⟨rfl,hm1⟩
           have R0:=blk_cell (hm1.at_ HB.out.2.1 (by simp))
           have hy:=hmay1 (HB.out.2.2.2.1.then hm1)
           have H1:=hide (HB.out.2.2.2.1.then hm1)
           have HBB:=Hj3 (hm1.at_ HB.out.1 (by simp)) (hm1.at_ HB.out.2.1 (by simp)) (hm1.at_ HB.out.2.2.1 (by simp))
           clear hm1 B0 hR0 hval0)
        | (go_at_call 80;refine hy.mono ?_;rintro e w2 ⟨rfl,hm2⟩
           have H2:=hide (H1.out.then hm2)
           have HB2:=Hj3 (hm2.at_ HBB.out.1 (by simp)) (hm2.at_ HBB.out.2.1 (by simp)) (hm2.at_ HBB.out.2.2 (by simp))
           have B2:=blk_cell HB2.out.1
           have R2:=blk_cell HB2.out.2.1
           clear hm2 hy R0)
        | (go_at_call 81;refine (hlim _).mono ?_;rintro e w3 ⟨rfl,hm3⟩
           have H3:=Hj2 (hm3.at_ HB2.out.2.2 (by simp)) (H2.out.then hm3)
           have Z0:=blk_cell H3.out.1
           have ZF:=blk_free H3.out.1
           clear hm3 B2 R2)
        | fail)
       obtain ⟨hz1,hm1⟩:=H3.out
       have hz:=HB.out.2.2.2
       have q:=stL_all hz1 [.int .i64 0,.int .i64 0,.int .i64 0,.slice none 0 0] rfl
       have qm:=stL_mod (S:=[w.heap.size+2]) (w0:=w3) (r:=w.heap.size+2) (fun _=>by simp) [.int .i64 0,.int .i64 0,.int .i64 0,.slice none 0 0] 0 _ (Mod.refl _ _)
       exact bodyPost_ret (v:=.tuple #[.agg #[.int .i64 0,.int .i64 0,.int .i64 0,.slice none 0 0],.int .i64 L]) (res_cell2 Tryz.results47 _ _ rfl q Tryz.isAgg34 Tryz.sizeOf34 rfl) rfl (AppTo.zero (by rw [← HA.out.1];exact by rw [← HL.out.1];exact apply_lim HA.out.2.1 HA.out.2.2 (by rw [show limitI _ _=L from HL.out.1];exact HZ.out)) hm1 (by omega) qm)
end Go.Proofs.YtpphoeimakjjdaaGreatDoor
/-
  WALKS: layer 11: Dump: the fewest records.
-/
namespace Go.Proofs.YtpphoeimakjjdaaGreatDoor
set_option maxRecDepth 100000
set_option maxHeartbeats 4000000
open Go.RowKit

def encP (p:Rcd × Value):List Value:=cellsR p.1 p.2 (.slice none 0 0)
theorem encP_len (p:Rcd × Value):(encP p).length=12:=rfl
theorem info_rec:(Tryz.prog.info? 42).map (fun i=>(i.zero,i.size,i.bytes))=some (some (aggR Rcd.zero (.slice none 0 0) (.slice none 0 0)),12,136):=by kernel_rfl
structure DmM (w:World) (base:Nat) (v:Value) (lr:List (Rcd × Value)):Prop where
 row:w.ownsRow base 42 12 v lr.length (lr.flatMap encP)
 st:∀ p,p∈lr→w.ownsRow base 3 1 p.2 p.1.grant.stamp.length (p.1.grant.stamp.map (Value.int .i64))∧∀ k,k∈ob p.2→k ∉ ob v
 no:∀ p,p∈lr→p.1.stamp=[]
theorem DmM.mod {w w':World} {base:Nat} {v:Value} {lr:List (Rcd × Value)} (h:DmM w base v lr) {S:List Nat} (m:Mod S w w') (hS:∀ k,k∈S→k<base∨w.heap.size≤k):DmM w' base v lr:=by
 refine ⟨m.row h.row (fun k hk e=>?_),fun p hp=>⟨m.row (h.st p hp).1 (fun k hk e=>?_),(h.st p hp).2⟩,h.no⟩
 · have:=h.row.lt k hk
   have:=hS k e
   omega
 · have:=(h.st p hp).1.lt k hk
   have:=hS k e
   omega
theorem DmM.gr {w w':World} {base:Nat} {v:Value} {lr:List (Rcd × Value)} (h:DmM w base v lr) (g:Gr w w'):DmM w' base v lr:=h.mod (g.mod []) (by simp)
theorem DmM.base {w:World} {base b':Nat} {v:Value} {lr:List (Rcd × Value)} (h:DmM w base v lr) (hb:b'≤base):DmM w b' v lr :=
 ⟨World.ownsRow.mono h.row hb,fun p hp=>⟨World.ownsRow.mono (h.st p hp).1 hb,(h.st p hp).2⟩,h.no⟩
theorem DmM.shape {w:World} {base:Nat} {v:Value} {lr:List (Rcd × Value)} (h:DmM w base v lr):∃ p c,v=.slice p lr.length c∧lr.length≤maxLen:=by
 rcases h.row.2 with ⟨rfl,hn⟩ | ⟨g,cap,cur,rfl,_,hg,hh1,hh2,_⟩
 · exact ⟨none,0,by rw [hn],by omega⟩
 · exact ⟨_,cap,rfl,by omega⟩
theorem DmM.at_ {w:World} {base:Nat} {q:Option Addr} {n c:Nat} {lr:List (Rcd × Value)} (h:DmM w base (.slice q n c) lr) (i:Nat) (hi:i<lr.length) :
 ∃ b,q=some ⟨b,0,none⟩∧base≤b∧b<w.heap.size∧(∀ j,j<12→w.cell? ⟨b,i * 12+j,none⟩=(encP (lr.getD i default))[j]?)∧(∀ j,w.frozen? ⟨b,j,none⟩=false)∧RdN w (lr.getD i default).2 (lr.getD i default).1.grant.stamp∧(lr.getD i default).1.stamp=[]:=by
 have hm:lr.getD i default∈lr:=by simp [hi]
 rcases h.row.2 with ⟨hv,hn⟩ | ⟨g,cap,cur,hv,hb,hg,hh1,hh2,hs,ht⟩
 · omega
 · simp only [Value.slice.injEq] at hv
   obtain ⟨rfl,rfl,rfl⟩:=hv
   refine ⟨g,rfl,hb,lt_of_block hg,fun j hj=>?_,fun j=>blk_free hg j,rdN_of_row (h.st _ hm).1,h.no _ hm⟩
   rw [h.row.cellAt (i * 12+j) (by omega),flat_get encP 12 encP_len lr i j hi hj]
theorem one_P {r:Rcd} {sv:Value} (hs:sv.oneCell'=true):∀ u∈encP (r,sv),u.oneCell'=true:=by
 intro u hu
 simp only [encP,cellsR,List.mem_cons,List.not_mem_nil,or_false] at hu
 rcases hu with rfl | rfl | rfl | rfl | rfl | rfl | rfl | rfl | rfl | rfl | rfl | rfl <;> first | rfl | exact hs
theorem DmM.one {w:World} {base k:Nat} {r:Rcd} {sv:Value} (hk:w.heap[k]?=some (.cells (encP (r,sv)).toArray 42 (0,0))) (hb:base≤k) (hst:w.ownsRow base 3 1 sv r.grant.stamp.length (r.grant.stamp.map (Value.int .i64))) (hap:k ∉ ob sv) (hno:r.stamp=[]):DmM w base (.slice (some ⟨k,0,none⟩) 1 1) [(r,sv)]:=by
 refine ⟨⟨by simp [encP_len],.inr ⟨k,1,_,rfl,hb,hk,Nat.le_refl _,by decide,rfl,by simp;rfl⟩⟩,fun p hp=>?_,fun p hp=>?_⟩
 · obtain rfl:p=(r,sv):=by simpa using hp
   exact ⟨hst,fun j hj hj2=>by
    have:j=k:=by simpa [ob,Value.ownBlock] using hj2
    subst this
    exact hap hj⟩
 · obtain rfl:p=(r,sv):=by simpa using hp
   exact hno
theorem wpList_app_dm {ops:Array Oper} {rest:List Oper} {o:Oper} {a:Act} {Q:Exit→Act→World→Prop} (w:World) (hgd:o.guard=none) (s x:Operand)
 (ho:o.op=.call { callee:=.builtin .append,args:=#[s,x],argTypes:=#[31,31] })
 {base:Nat} {u:Value} {sl:List (Rcd × Value)} (hs:a.eval s=u) (h:DmM w base u sl) (hn:sl.length≤100000) (hbase:base≤w.heap.size) {k:Nat} (hx:a.eval x=.slice (some ⟨k,0,none⟩) 1 1) {r:Rcd} {sv:Value}
 (hk:w.heap[k]?=some (.cells (encP (r,sv)).toArray 42 (0,0))) (hst:w.ownsRow base 3 1 sv r.grant.stamp.length (r.grant.stamp.map (Value.int .i64))) (hap:∀ k,k∈ob sv→k ∉ ob u) (hno:r.stamp=[])
 (hK:∀ u' w',DmM w' base u' (sl++[(r,sv)])→Mod (ob u) w w'→(∃ p c,u'=.slice p (sl.length+1) c)→wpList Tryz.prog ops Q rest (a.put o.dst u') w'):wpList Tryz.prog ops Q (o::rest) a w:=by
 obtain ⟨i0,hi0,hz0,hs0,hb0⟩:=info_parts info_rec
 refine wpList_append_lies w hgd s x 31 ho base 42 i0 _ 12 136 Tryz.underlying31 hi0 hz0 hs0 hb0 rfl (by decide) _ _ _ hs h.row ⟨k,0,none⟩ 1 1 (encP (r,sv)) hx rfl (World.news_of_block (cs:=(encP (r,sv)).toArray) (t:=42) (fr:=(0,0)) hk) (one_P (one_row hst)) (by decide) (by unfold maxLen;omega) (by omega) hbase ?_
 intro g' cap w' hr hg hat
 have hm:Mod (ob u) w w':=(Mod.refl (ob u) w).grown hg (fun k e _=>by simp [ob,e])
 have hu:∀ k,k∈ob (.slice (some ⟨g',0,none⟩) (sl.length+1) cap)→k∈ob u∨w.heap.size≤k:=fun k hk=>by
  have:k=g':=by simpa [ob,Value.ownBlock] using hk
  subst this
  rcases hat with e | e
  · exact .inl (by simp [ob,e])
  · exact .inr (by omega)
 refine hK _ _ ⟨by rw [List.length_append,List.flatMap_append];simpa using hr,fun p hp=>?_,fun p hp=>?_⟩ hm ⟨_,_,rfl⟩
 · have key:w.ownsRow base 3 1 p.2 p.1.grant.stamp.length (p.1.grant.stamp.map (Value.int .i64))∧∀ k,k∈ob p.2→k ∉ ob u:=by
    rcases List.mem_append.1 hp with hp | hp
    · exact h.st p hp
    · obtain rfl:p=(r,sv):=by simpa using hp
      exact ⟨hst,hap⟩
   refine ⟨hm.row key.1 (fun k hk=>key.2 k (by simpa [ob] using hk)),fun k hk hk2=>?_⟩
   rcases hu k hk2 with e | e
   · exact key.2 k hk e
   · have:=(ob_of_row key.1 k hk).2
     omega
 · rcases List.mem_append.1 hp with hp | hp
   · exact h.no p hp
   · obtain rfl:p=(r,sv):=by simpa using hp
     exact hno
def preB (b:Bk):List Rcd:=recC b.next b.boots::(if 0<b.longest then [recL b.longest] else [])
theorem dump_pre (b:Bk):dumpB b=preB b++b.grants.map recK:=by simp [dumpB,preB]
def DmpRel (W1:World) (base:Nat) (pre:List Rcd) (lv:List (Grt × Value)) (u i:Value) (wr:World):Prop :=
 ∃ (k:Nat) (sl:List (Rcd × Value)),i=.int .i64 (k:Int)∧k≤lv.length∧sl.map Prod.fst=pre++(lv.take k).map (fun p=>recK p.1)∧DmM wr base u sl∧Mod [] W1 wr
theorem dump_any {w:World} {base:Nat} {gv:Value} {b:Bk} {lv:List (Grt × Value)} (h:BkM w base gv b lv) (hv:validB b=true) :
 Calls Tryz.prog 61 #[aggB b gv] w fun e w'=>∃ v lr,e=.returned v∧lr.map Prod.fst=dumpB b∧DmM w' w.heap.size v lr∧Mod [] w w':=by
 have hsm:=valid_small hv h.eq
 have hval:=fun (W:World) (m:Mod [] w W)=>bvalid_any (b:=b) ⟨h.gr.mod m (by simp),h.eq⟩ (fun p hp=>by have:=(hsm.2 p hp).2;omega)
 rw [hv] at hval
 have hdp:=dump_pre b
 obtain ⟨nx,bo,lo,bg⟩:=b
 have heq:bg=lv.map Prod.fst:=h.eq
 have hlo:lo=0∨legalT lo:=(valid_iff.1 hv).2.1
 obtain ⟨q0,c0,rfl,hmx⟩:=h.gr.shape
 have hmx':lv.length≤9223372036854775807:=hmx
 obtain ⟨W0,hW0⟩:∃ W0,W0=w.alloc (.cells #[.int .i64 nx,.int .i64 bo,.int .i64 lo,.slice q0 lv.length c0] 34 (0,0)):=⟨_,rfl⟩
 have hb0:W0.heap[w.heap.size]?=some (.cells #[.int .i64 nx,.int .i64 bo,.int .i64 lo,.slice q0 lv.length c0] 34 (0,0)):=by rw [hW0];exact heap_alloc_new w _
 have hm0:Mod [] w W0:=by rw [hW0];exact (Mod.refl _ _).alloc _
 have hy:=hval W0 hm0
 have B0:=blk_cell hb0
 obtain ⟨D,hD⟩:∃ D,dumpB ⟨nx,bo,lo,bg⟩=D:=⟨_,rfl⟩
 rw [hD] at hdp ⊢
 obtain ⟨PR,hPR⟩:∃ PR,preB ⟨nx,bo,lo,bg⟩=PR:=⟨_,rfl⟩
 rw [hPR] at hdp
 have HH:=Hj5 h heq hsm hb0 hm0
 have HP:=Hj2 hdp hPR
 clear h heq hsm hb0 hm0 hval hdp hPR hD hmx hv
 unfold aggB at hy ⊢
 simp only at hy ⊢
 go_enter Tryz.func61,Tryz.ntmps61
 go_upto_region 1 with fail
 rw [← hW0]
 clear hW0
 go_upto_region 3 with (go_at_call 79;refine hy.mono ?_;rintro e w1 ⟨rfl,hm1⟩
                        have hb1:=hm1.at_ HH.out.2.2.2.1 (by simp)
                        have B1:=blk_cell hb1
                        have H1:=Hj2 hb1 (HH.out.2.2.2.2.then hm1)
                        clear hb1 hm1 B0 hy)
 go_upto_region 4 with fail
 obtain ⟨W2,hW2⟩:∃ W2,W2=w1.alloc (.cells #[.int .i64 1,.int .i64 0,.int .i64 0,.string ⟨#[]⟩,.int .i64 0,.slice none 0 0,.int .i64 0,.int .i64 0,.slice none 0 0,.int .i64 nx,.int .i64 bo,.int .i64 0] 42 (0,0)):=⟨_,rfl⟩
 rw [← hW2]
 have g2:Gr w1 W2:=by rw [hW2];exact (Gr.refl w1).alloc _
 have hk2:W2.heap[w1.heap.size]?=some (.cells (encP (recC nx bo,.slice none 0 0)).toArray 42 (0,0)):=by rw [hW2];exact heap_alloc_new w1 _
 have hd2:DmM W2 (w.heap.size+1) (.slice (some ⟨w1.heap.size,0,none⟩) 1 1) [(recC nx bo,.slice none 0 0)]:=DmM.one hk2 (lt_of_block H1.out.1) (World.ownsRow_nil _ _ _ _) (by simp [ob,Value.ownBlock]) rfl
 have hb2:=(g2.mod []).at_ H1.out.1 (by simp)
 have B2:=blk_cell hb2
 have hm2:=H1.out.2.gr g2
 clear hW2 g2 hk2 B1
 have H2:=Hj3 hd2 hb2 hm2
 clear hd2 hb2 hm2
 go_upto_if 17 with fail
 go_cut [3] (fun s3 wx=>∃ sl p3 c3,s3=.slice p3 sl.length c3∧DmM wx (w.heap.size+1) (.slice p3 sl.length c3) sl∧sl.map Prod.fst=PR∧Mod [] w wx∧wx.heap[w.heap.size]?=some (.cells #[.int .i64 nx,.int .i64 bo,.int .i64 lo,.slice q0 lv.length c0] 34 (0,0)))
 case first =>
  by_cases hl:0<lo
  · go_wp2_with (
     at_builtin
     obtain ⟨W3,hW3⟩:∃ W3,W3=W2.alloc (.cells #[.int .i64 2,.int .i64 0,.int .i64 0,.string ⟨#[]⟩,.int .i64 0,.slice none 0 0,.int .i64 0,.int .i64 0,.slice none 0 0,.int .i64 0,.int .i64 0,.int .i64 lo] 42 (0,0)):=⟨_,rfl⟩
     try rw [← hW3]
     have g3:Gr W2 W3:=by rw [hW3];exact (Gr.refl W2).alloc _
     have hk3:W3.heap[W2.heap.size]?=some (.cells (encP (recL lo,.slice none 0 0)).toArray 42 (0,0)):=by rw [hW3];exact heap_alloc_new W2 _
     have hs2:w.heap.size+1≤W2.heap.size:=lt_of_block H2.out.2.1
     have hs3:=g3.size
     refine wpList_app_dm (r:=recL lo) (sv:=.slice none 0 0) (sl:=[(recC nx bo,.slice none 0 0)]) (base:=w.heap.size+1) W3 rfl _ _ rfl rfl (H2.out.1.gr g3) (by simp) (by omega) (k:=W2.heap.size) rfl hk3 (World.ownsRow_nil _ _ _ _) (by simp [ob,Value.ownBlock]) rfl ?_
     rintro u' w4 hd4 hm4 ⟨p4,c4,rfl⟩
     have H4:=Hj3 hd4 g3 hm4
     clear hd4 hm4 g3 hk3 hW3 hs2 hs3)
    go_meet
    case rel =>
     obtain ⟨hd4,g3,hm4⟩:=H4.out
     have hob:=(ob_of_row H2.out.1.row)
     refine ⟨[(recC nx bo,.slice none 0 0)]++[(recL lo,.slice none 0 0)],_,_,rfl,hd4,?_,(H2.out.2.2.gr g3).trans hm4 (by simp) (fun x hx hlt=>by have:=hob x hx;omega),hm4.at_ ((g3.mod []).at_ H2.out.2.1 (by simp)) (fun e=>by have h1:=(hob _ e).1;omega)⟩
     rw [← HP.out.2]
     simp [preB,hl]
  · clear B2
    go_wp2_with fail
    go_meet
    case rel =>
     refine ⟨[(recC nx bo,.slice none 0 0)],_,_,rfl,H2.out.1,?_,H2.out.2.2,H2.out.2.1⟩
     rw [← HP.out.2]
     simp [preB,show ¬ 0<lo from by omega]
 case rest =>
 obtain ⟨sl0,p3,c3,rfl,hd3,hmap3,hm3,hb3⟩:=hcut
 have B3:=blk_cell hb3
 have hl0:sl0.length≤2:=by
  have:=congrArg List.length hmap3
  rw [← HP.out.2] at this
  simp only [List.length_map,preB] at this
  split at this <;> simp at this <;> omega
 have H3:=Hj5 hd3 hmap3 hm3 hb3 hl0
 clear hd3 hmap3 hm3 hb3 hl0 B2 H2
 go_upto_region 7 with fail
 go_loopw [3,27] (fun u i wr=>DmpRel w (w.heap.size+1) PR lv u i wr) (fun _ i _=>lv.length - (intOf i).toNat)
 case atStart=>exact ⟨0,sl0,rfl,Nat.zero_le _,by rw [H3.out.2.1];simp,H3.out.1,H3.out.2.2.1⟩
 case round =>
  obtain ⟨k,sl,rfl,hk,hmap,hgm,hm⟩:=hrel
  have hsl:sl.length=sl0.length+k:=by
   have h1:=congrArg List.length hmap
   have h2:=congrArg List.length H3.out.2.1
   simp at h1 h2
   omega
  have hl0:=H3.out.2.2.2.2
  have hlv:=HH.out.2.2.1.1
  by_cases hlt:k<lv.length
  · obtain ⟨bb,rfl,hbb,hb1,hc,hf,hrd⟩:=(HH.out.1.gr.mod hm (by simp)).at_ k hlt
    have hls:=(HH.out.2.2.1.2 _ (show lv.getD k default∈lv by simp [hlt])).1
    have htk:(lv.take (k+1)).map (fun p=>recK p.1)=(lv.take k).map (fun p=>recK p.1)++[recK (lv.getD k default).1]:=by rw [List.take_add_one,List.map_append];simp [hlt]
    generalize lv.getD k default=pr at hc hrd hls htk
    obtain ⟨⟨id,ho,pa,mo,st,te⟩,sv⟩:=pr
    simp only at hrd hls htk
    have c0:=hc 0 (by decide)
    have c1:=hc 1 (by decide)
    have c2:=hc 2 (by decide)
    have c3:=hc 3 (by decide)
    have c4:=hc 4 (by decide)
    have c5:=hc 5 (by decide)
    simp [encG,cellsG] at c0 c1 c2 c3 c4 c5
    have ht:=twinG_any (g:=⟨id,ho,pa,mo,st,te⟩) (hrd.gr ((Gr.refl wr).alloc (.cells #[.int .i64 id,.int .i64 ho,.string pa,.int .i64 mo,sv,.int .i64 te] 40))) (by show st.length≤_;omega)
    obtain ⟨qs,cs,rfl⟩:=hrd.len
    unfold aggG cellsG NewG at ht
    simp only at ht
    have HM:=Hj5 hm hgm htk hmap hsl
    have hszr:=hm.size
    have hszw:w.heap.size+1≤wc.heap.size:=lt_of_block H3.out.2.2.2.1
    clear hc hrd hls htk hm hgm hmap hsl
    go_wp2_with fail
    refine ht.mono ?_
    rintro e w2 ⟨v',rfl,hr2,hm2⟩
    have hgro:=HM.out.2.1.row
    have hap:∀ k,k∈ob v'→k ∉ ob u3:=fun k hk hk2=>by
     have h1:=(ob_of_row hr2 k hk).1
     have h2:=(ob_of_row hgro k hk2).2
     simp at h1
     omega
    have hsz2:=hm2.size
    simp at hsz2
    have hst0:=World.ownsRow.mono hr2 (show w.heap.size+1≤_ by simp;omega)
    have hgm0:=(HM.out.2.1.gr ((Gr.refl wr).alloc _)).mod hm2 (by simp)
    obtain ⟨p',c',hv'⟩:=(rdN_of_row hr2).len
    subst hv'
    obtain ⟨W3,hW3⟩:∃ W3,W3=w2.alloc (.cells #[.int .i64 3,.int .i64 id,.int .i64 ho,.string pa,.int .i64 mo,.slice p' st.length c',.int .i64 te,.int .i64 0,.slice none 0 0,.int .i64 0,.int .i64 0,.int .i64 0] 42 (0,0)):=⟨_,rfl⟩
    have hk3:W3.heap[w2.heap.size]?=some (.cells (encP (recK ⟨id,ho,pa,mo,st,te⟩,.slice p' st.length c')).toArray 42 (0,0)):=by rw [hW3];exact heap_alloc_new w2 _
    have g3:Gr w2 W3:=by rw [hW3];exact (Gr.refl w2).alloc _
    have hgm2:=hgm0.gr g3
    have hst3:=(g3.mod []).row hst0 (by simp)
    have hsz3:w2.heap.size<W3.heap.size:=lt_of_block hk3
    have hslk:=HM.out.2.2.2.2
    have HN:=Hj3 hm2 hgro g3
    have HG2:=Hj4 hgm2 hst3 hap hk3
    clear ht c0 c1 c2 c3 c4 c5 hr2 hm2 hgro hst0 hgm0 hgm2 hst3 hap hk3 g3 B3
    simp only [aggG,cellsG]
    go_wp2_with (
     at_builtin
     try rw [← hW3]
     refine wpList_app_dm (r:=recK ⟨id,ho,pa,mo,st,te⟩) (sv:=.slice p' st.length c') (sl:=sl) (base:=w.heap.size+1) W3 rfl _ _ rfl rfl HG2.out.1 (by omega) (by omega) (k:=w2.heap.size) rfl HG2.out.2.2.2 HG2.out.2.1 HG2.out.2.2.1 rfl ?_
     rintro u' w3 hgm3 hm3 ⟨p5,c5,rfl⟩)
    go_roundw
    case rel =>
     refine ⟨k+1,sl++[(recK ⟨id,ho,pa,mo,st,te⟩,.slice p' st.length c')],by go_num,by omega,?_,(by rw [← hslk];exact hgm3),?_⟩
     · rw [HM.out.2.2.1,List.map_append,HM.out.2.2.2.1,List.append_assoc];rfl
     · refine (((HM.out.1.alloc _).then HN.out.1).gr HN.out.2.2).trans hm3 (by simp) (fun x hx hlt=>?_)
       have:=(ob_of_row HN.out.2.1 x hx).1
       omega
    case measure=>simp [intOf];omega
  · obtain rfl:k=lv.length:=by omega
    obtain ⟨p4,c4,hu,_⟩:=hgm.shape
    subst hu
    have HE:=Hj3 hm hgm hmap
    clear hm hgm hmap hsl B3
    go_wp2_with fail
    go_ret
    refine ⟨_,sl,rfl,?_,HE.out.2.1.base (Nat.le_succ _),HE.out.1⟩
    rw [HE.out.2.2,List.take_length,HP.out.1,HH.out.2.1,List.map_map]
    rfl
end Go.Proofs.YtpphoeimakjjdaaGreatDoor
