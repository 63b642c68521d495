/-
  LedRh2 LedRh3 LedRh4 LedRh5 LedRh6 LedRh7 LedRh8 GtS LedPl: see the remarks below.
-/
import Derived.Test.YtpphoeimakjjdaaGreatDoorMLedRh1
import Derived.Test.YtpphoeimakjjdaaGreatDoorMLedRg17
import Derived.Test.YtpphoeimakjjdaaGreatDoorMCtr
import Derived.Test.YtpphoeimakjjdaaGreatDoorMLedRg8
import Derived.Test.YtpphoeimakjjdaaGreatDoorMLedK
import Derived.Test.YtpphoeimakjjdaaGreatDoorMLedC
/-
  WALKS: the document's layer 12: Read.
-/
namespace Go.Proofs.YtpphoeimakjjdaaGreatDoor
set_option maxRecDepth 100000
set_option maxHeartbeats 8000000
open Go.RowKit

/-! ### plain -/
theorem rscanF_len (l:List B8) (gen:Nat):∀ f at_ n,at_≤l.length→(scanF l gen f at_ n).1.length+at_≤l.length
 | 0,at_,n,h=>by simpa [scanF] using h
 | f+1,at_,n,h=>by
   unfold scanF
   cases hr:recS l gen at_ n with
   | none=>simpa using h
   | some p =>
     obtain ⟨d,k⟩:=p
     have h1:=rec_fits hr
     have h2:=(rec_pos hr).1
     have:=rscanF_len l gen f (at_+k) (n+1) h1
     simp only [List.length_cons]
     omega
theorem scanS_len (l:List B8) (gen:Nat):(scanS l gen).1.length≤l.length:=by
 have:=rscanF_len l gen (l.length+1) 0 0 (Nat.zero_le _)
 unfold scanS
 omega
theorem head_fits {b:B8} {g k:Nat} (h:headS b=some (g,k)):1≤g∧g≤1073741824∧k≤1:=by
 unfold headS at h
 cases hs:lookS b with
 | none=>rw [hs] at h;cases h
 | some p =>
   rw [hs] at h
   simp only [Option.bind_some] at h
   split at h
   · rename_i hc
     have hf:=(look_fits hs).2.1
     simp only [Option.some.injEq,Prod.mk.injEq] at h
     obtain ⟨rfl,rfl⟩:=h
     exact ⟨hf.1,hf.2.1,hc.2.2.2⟩
   · cases h
def addP (n u:Nat) (t:Bk × Nat × Nat):Bk × Nat × Nat:=(t.1,n+t.2.1,u+t.2.2)
theorem play_stop {b:Bk} {d:B8} {l:List B8} (h:decB d=none):playB b (d::l)=(b,0,0):=by unfold playB;rw [h]
theorem play_bad {b:Bk} {d:B8} {l:List B8} {r:Rcd} (h:decB d=some r) (h2:(applyB b r).2≠0):playB b (d::l)=(b,0,0):=by unfold playB;rw [h];simp only;rw [if_neg h2]
theorem play_good {b:Bk} {d:B8} {l:List B8} {r:Rcd} {n u:Nat} (h:decB d=some r) (h2:(applyB b r).2=0):addP n u (playB b (d::l))=addP (n+1) (u+widthN d.length) (playB (applyB b r).1 l):=by
 conv=>lhs;unfold playB
 rw [h]
 simp only
 rw [if_pos h2]
 unfold addP
 simp only [Prod.mk.injEq,true_and]
 omega
/-! ### the walk -/
def stC (g k n u:Nat) (b:Bk) (gv:Value):Array Value:=#[.int .i64 (g:Int),.int .i64 (k:Int),.int .i64 (n:Int),.int .i64 (u:Int),.int .i64 b.next,.int .i64 b.boots,.int .i64 b.longest,gv]
def ReadTo (w:World) (o:Option Lg) (e:Ending) (w':World):Prop :=
 match o with
 | none=>e=.returned (.tuple #[.agg (stC 0 0 0 0 Bk.new (.slice none 0 0)),.bool false])∧Mod [] w w'
 | some l=>∃ q n c lv,e=.returned (.tuple #[.agg (stC l.gen l.area l.seq l.used l.book (.slice q n c)),.bool true])∧BkM w' w.heap.size (.slice q n c) l.book lv∧Mod [] w w'
theorem rread_end {w W:World} {cs:Array Value} {g k n u:Nat} {b:Bk} {gv:Value} {t:Bool} {tmps:Array Value} (h2:tmps.getD 2 undef=.pointer (some ⟨w.heap.size,0,none⟩)) (h3:tmps.getD 3 undef=.bool t) {T:TypeId}
 (hb:W.heap[w.heap.size]?=some (.cells cs T (0,0))) (hs:cs.size=8) {R:Ending→World→Prop} (hR:∀ w',Mod [w.heap.size] W w'→R (.returned (.tuple #[.agg (stC g k n u b gv),.bool t])) w') :
 bodyPost Tryz.prog Tryz.f62 R Exit.ret { tmps:=tmps,defers:=[] } (stL W w.heap.size 0 [.int .i64 (g:Int),.int .i64 (k:Int),.int .i64 (n:Int),.int .i64 (u:Int),.int .i64 b.next,.int .i64 b.boots,.int .i64 b.longest,gv]):=by
 have q:=stL_all hb [.int .i64 (g:Int),.int .i64 (k:Int),.int .i64 (n:Int),.int .i64 (u:Int),.int .i64 b.next,.int .i64 b.boots,.int .i64 b.longest,gv] hs
 exact bodyPost_ret (v:=.tuple #[.agg (stC g k n u b gv),.bool t]) (res_cell2 Tryz.results62 _ _ h2 q Tryz.isAgg103 Tryz.sizeOf103 (by rw [h3];rfl)) rfl (hR _ (stL_mod (by simp) _ _ _ (Mod.refl _ _)))
def RdRel (W5:World) (X g k:Nat) (recs:List B8) (i:Value) (wr:World):Prop :=
 ∃ (j n u:Nat) (b:Bk) (q:Option Addr) (m c:Nat) (lv:List (Grt × Value)),i=.int .i64 (j:Int)∧j≤recs.length∧n≤j∧u≤2 * n∧validB b=true∧wr.heap[X]?=some (.cells (stC g k n u b (.slice q m c)) 103 (0,0))∧BkM wr (X+1) (.slice q m c) b lv∧Mod [X] W5 wr∧Hid (addP n u (playB b (recs.drop j))=playB Bk.new recs)
theorem rread_any {w:World} {us:Value} {ls:List B8} (hu:RdA w us ls) (h49:49≤ls.length) (h5:ls.length≤1000):Calls Tryz.prog 62 #[us] w fun e w'=>ReadTo w (stateS ls) e w':=by
 obtain ⟨qu,cu,rfl⟩:=hu.len
 obtain ⟨L,hL⟩:∃ n,ls.length=n:=⟨_,rfl⟩
 have HU:=Hj2 hu hL
 obtain ⟨bb,off,v0,rfl,hbb,cv0,hr0⟩:=hu.at_ 0 (by omega)
 rw [hL] at h49 h5 ⊢
 rw [Nat.add_zero] at cv0
 have hlt49:decide ((L:Int)<49)=false:=by simp;omega
 have hL0:(0:Int)<(L:Int):=by omega
 obtain ⟨b0,hb0⟩:∃ b,ls.getD 0 []=b:=⟨_,rfl⟩
 rw [hb0] at hr0
 have hhead:=fun (W:World) (m:Mod [] w W)=>rhead_any (hr0.mod m (by simp))
 obtain ⟨W1,hW1⟩:∃ x,x=w.alloc (.cells #[.int .i64 0,.int .i64 0,.int .i64 0,.int .i64 0,.int .i64 0,.int .i64 0,.int .i64 0,.slice none 0 0] 103 (0,0)):=⟨_,rfl⟩
 have k1:W1.heap[w.heap.size]?=some (.cells #[.int .i64 0,.int .i64 0,.int .i64 0,.int .i64 0,.int .i64 0,.int .i64 0,.int .i64 0,.slice none 0 0] 103 (0,0)):=by rw [hW1];exact heap_alloc_new _ _
 have m1:Mod [] w W1:=by rw [hW1];exact (Mod.refl _ _).alloc _
 have H1:=Hj2 k1 m1
 have HC0:=hide (fun W (m:Mod [] w W)=>m.kept cv0 (by simp))
 have HS:=Hj2 hb0 hr0
 clear k1 m1 hu cv0 hr0 hL
 obtain ⟨R0,hR0⟩:∃ R,stateS ls=R:=⟨_,rfl⟩
 rw [hR0]
 have HR0:=hide hR0
 clear hR0
 go_enter Tryz.func62,Tryz.ntmps62
 go_upto_region 1 with fail
 rw [← hW1]
 clear hW1
 go_upto_region 4 with (go_at_call 14;refine (rnew_any W1).mono ?_;rintro e w2 ⟨rfl,m2⟩;unfold aggB Bk.new;simp only;have H2:=hide m2;clear m2)
 obtain ⟨W3,hW3⟩:∃ x,x=w2.alloc (.cells #[.int .i64 0,.int .i64 0,.int .i64 0,.int .i64 0,.int .i64 1,.int .i64 0,.int .i64 0,.slice none 0 0] 103 (0,0)):=⟨_,rfl⟩
 rw [← hW3]
 obtain ⟨X,hX⟩:∃ x,w2.heap.size=x:=⟨_,rfl⟩
 have k3:W3.heap[X]?=some (.cells (stC 0 0 0 0 Bk.new (.slice none 0 0)) 103 (0,0)):=by rw [hW3,← hX];exact heap_alloc_new _ _
 have hX3:W3.heap.size=X+1:=by rw [hW3,← hX];simp
 have m3:Mod [] W1 W3:=by rw [hW3];exact H2.out.alloc _
 have hwX:w.heap.size<X:=by rw [← hX];have:=lt_of_block H1.out.1;have:=H2.out.size;omega
 have HZ:=hide (fun W (m:Mod [X] W3 W)=>m.at_ (m3.at_ H1.out.1 (by simp)) (by simp;omega))
 have HM:=hide (fun W (m:Mod [X] W3 W)=>(mod_new (H1.out.2.then m3) m (by simp;omega):Mod [] w W))
 rw [hX]
 clear hW3 hX H2
 have D0:=HC0.out W3 (H1.out.2.then m3)
 have hh:=hhead W3 (H1.out.2.then m3)
 have H3:=Hj4 k3 m3 hX3 hwX
 clear hhead k3 m3 hX3 hwX
 cases hhd:headS b0 with
 | none =>
   have hr:R0=none:=by rw [← HR0.out];unfold stateS;rw [HS.out.1,hhd];rfl
   rw [hhd] at hh
   subst hr
   clear hhd
   go_upto_region 5 with (go_at_call 92;refine hh.mono ?_;rintro e w4 ⟨rfl,m4⟩;have H4:=hide (m4.mono (T:=[X]) (by simp));have C4:=blk_cell (m4.at_ H3.out.1 (by simp));clear m4 hh D0)
   have Z4:=blk_cell (HZ.out w4 H4.out);have F4:=blk_free (HZ.out w4 H4.out);have L4:=lt_of_block (HZ.out w4 H4.out)
   unfold stC Bk.new at C4
   simp only [Int.natCast_zero] at C4
   go_wp2_with fail
   exact rread_end (g:=0) (k:=0) (n:=0) (u:=0) (b:=Bk.new) (t:=false) rfl rfl (HZ.out w4 H4.out) rfl (fun w' m=>⟨rfl,mod_new (HM.out w4 H4.out) m (by simp)⟩)
 | some gk =>
   obtain ⟨g,k⟩:=gk
   obtain ⟨hg1,hg2,hk1⟩:=head_fits hhd
   rw [hhd] at hh
   have hk0:(0:Int)≤(k:Int):=by omega
   have hof:=fun (W:World) (m:Mod [] w W)=>rof_any (HU.out.1.quiet m) (by rw [HU.out.2];exact h49) k hk1
   rw [HU.out.2] at hof
   obtain ⟨recs,hrecs⟩:∃ r,(scanS (sideS ls k) g).1=r:=⟨_,rfl⟩
   obtain ⟨us,hus⟩:∃ r,(scanS (sideS ls k) g).2=r:=⟨_,rfl⟩
   have hr:R0=some ⟨g,k,(playB Bk.new recs).2.1,(playB Bk.new recs).2.2,(playB Bk.new recs).1,false⟩:=by
    rw [← HR0.out];unfold stateS;rw [HS.out.1,hhd]
    simp only [Option.map_some,readL,playS,hrecs]
   have hsl:(sideS ls k).length≤24:=by unfold sideS;simp;omega
   have hrl:recs.length≤24:=by have:=scanS_len (sideS ls k) g;rw [hrecs] at this;omega
   have HHD:=Hj6 hg1 hg2 hr hsl hrecs hus
   clear hhd hr hsl hrecs hus hg1 hg2
   go_upto_region 7 with (go_at_call 92;refine hh.mono ?_;rintro e w4 ⟨rfl,m4⟩;simp only;have H4:=hide m4;clear m4 hh D0)
   have k4:=H4.out.at_ H3.out.1 (by simp)
   unfold stC Bk.new at k4
   simp only [Int.natCast_zero] at k4
   have C4:=blk_cell k4;have F4:=blk_free k4;have L4:=lt_of_block k4
   have hms:Mod [X] w4 ((w4.setCell ⟨X,0,none⟩ (.int .i64 (g:Int))).setCell ⟨X,1,none⟩ (.int .i64 (k:Int))):=((Mod.refl _ _).setCell (fun _=>by simp) _).setCell (fun _=>by simp) _
   have hbs:=blk_set (blk_set k4 0 (.int .i64 (g:Int))) 1 (.int .i64 (k:Int))
   have HK4:=Hj2 hms hbs
   clear hms hbs k4
   go_upto_region 9 with fail
   obtain ⟨W5,hW5⟩:∃ x,x=(w4.setCell ⟨X,0,none⟩ (.int .i64 (g:Int))).setCell ⟨X,1,none⟩ (.int .i64 (k:Int)):=⟨_,rfl⟩
   rw [← hW5] at HK4 ⊢
   have m5:Mod [X] W3 W5:=(H4.out.mono (by simp)).trans HK4.out.1 (fun _ x _=>x) (fun _ x _=>x)
   have b5:W5.heap[X]?=some (.cells (stC g k 0 0 Bk.new (.slice none 0 0)) 103 (0,0)):=HK4.out.2
   have H5:=Hj2 m5 b5
   have ho5:=hof W5 (HM.out W5 m5)
   clear hW5 C4 F4 L4 hof HK4 H4 m5 b5
   go_upto_region 10 with (first
    | (go_at_call 94;refine ho5.mono ?_;rintro e w6 ⟨v6,rfl,hv6,rfl⟩;have hsc:=rscan_any hv6 (by have:=HHD.out.2.2.2.1;omega) g;unfold RScanTo at hsc;rw [HHD.out.2.2.2.2.1,HHD.out.2.2.2.2.2] at hsc;clear ho5 hv6)
    | (go_at_call 93;refine hsc.mono ?_;rintro e w7 ⟨u7,vs7,rfl,hr7,m7⟩;simp only;clear hsc)
    | fail)
   obtain ⟨q7,c7,rfl,hmx7⟩:=hr7.shape
   have hX6:X<w6.heap.size:=lt_of_block H5.out.2
   have HR7:=Hj4 hr7 m7 hmx7 hX6
   have hmx7':recs.length≤9223372036854775807:=hmx7
   clear hr7 m7 hmx7 hX6
   go_wp2_with fail
   go_loopw [10] (fun i wr=>RdRel w7 X g k recs i wr) (fun i _=>recs.length - (intOf i).toNat)
   case atStart=>exact ⟨0,0,0,Bk.new,none,0,0,[],rfl,Nat.zero_le _,Nat.le_refl _,by omega,new_valid,HR7.out.2.1.at_ H5.out.2 (by simp),⟨GrM.nil _ _,rfl⟩,Mod.refl _ _,hide (by simp [addP])⟩
   case round =>
    obtain ⟨j,n,u,b,qb,mb,cb,lv,rfl,hj,hnj,hun,hvb,hbx,hbk,hm,hinv⟩:=hrel
    have hm3:Mod [X] W3 wr:=(H5.out.1.trans (U:=[X]) HR7.out.2.1 (fun _ x _=>x) (fun x hx=>by cases hx)).trans hm (fun _ x _=>x) (fun _ x _=>x)
    have hXr:X<wr.heap.size:=lt_of_block hbx
    have hsm:=valid_small hvb hbk.eq
    have HB:=Hj6 hbx hbk hm3 hvb hsm hm
    have HI:=Hj3 hinv.out hnj hun
    unfold stC at hbx
    have CX:=blk_cell hbx
    clear hbk hm3 hvb hsm hm hbx hinv
    by_cases hlt:j<recs.length
    · have hrows:=HR7.out.1.mod HB.out.2.2.2.2.2 (fun x hx=>by have:=HR7.out.2.2.2;simp at hx;omega)
      obtain ⟨rb,rfl,hrb,crec,hrow⟩:=hrows.at_ j hlt
      obtain ⟨d,hd⟩:∃ d,recs.getD j []=d:=⟨_,rfl⟩
      have hdrop:recs.drop j=d::recs.drop (j+1):=by rw [List.drop_eq_getElem_cons hlt,← hd];simp [hlt]
      rw [hd] at hrow
      obtain ⟨ve,hve⟩:∃ v,vs7.getD j nilS=v:=⟨_,rfl⟩
      rw [hve] at hrow crec
      obtain ⟨qe,ce,rfl⟩:=hrow.rd.len
      obtain ⟨dl,hdl⟩:∃ n,d.length=n:=⟨_,rfl⟩
      rw [hdl] at hrow crec
      have hdec:=rdecode_any hrow.rd (fun x hx=>(hrow.blk x hx).2)
      have hrbX:X<rb:=by have h1:=(hrows.blk rb (by simp [ob,Value.ownBlock])).1;have:=HR7.out.2.2.2;omega
      have HRE:=Hj5 hrow hdl crec hdrop hrbX
      unfold DecTo at hdec
      clear hrows hrow hd hve hdl hdrop hrbX
      cases hdb:decB d with
      | none =>
        have hfin:Hid (R0=some ⟨g,k,n,u,b,false⟩):=hide (by
         rw [HHD.out.2.2.1,← HI.out.1,HRE.out.2.2.2.1,play_stop hdb]
         simp [addP])
        rw [hdb] at hdec
        clear hdb
        go_upto_region 15 with (go_at_call 95;refine hdec.mono ?_;rintro e w8 ⟨sv,tv,rfl,hsv,htv,m8⟩;obtain ⟨qs,cs,rfl⟩:=hsv.len;obtain ⟨qt,ct,rfl⟩:=htv.len;unfold aggR cellsR;simp only [Option.getD_none,Option.isSome_none,Bool.false_eq_true,if_false];have H8:=hide m8;clear m8 hdec CX)
        obtain ⟨W9,hW9⟩:∃ x,x=w8.alloc (.cells #[.int .i64 Rcd.zero.kind,.int .i64 Rcd.zero.grant.id,.int .i64 Rcd.zero.grant.holder,.string Rcd.zero.grant.path,.int .i64 Rcd.zero.grant.mode,.slice qs Rcd.zero.grant.stamp.length cs,.int .i64 Rcd.zero.grant.term,.int .i64 Rcd.zero.id,.slice qt Rcd.zero.stamp.length ct,.int .i64 Rcd.zero.next,.int .i64 Rcd.zero.boots,.int .i64 Rcd.zero.longest] 42 (0,0)):=⟨_,rfl⟩
        rw [← hW9]
        have mq:Mod [] wr W9:=by rw [hW9];exact H8.out.alloc _
        clear hW9
        have hbx9:=(mq).at_ HB.out.1 (by simp)
        have HMX:=hide (HB.out.2.2.1.trans (U:=[X]) (mq) (fun _ x _=>x) (fun x hx=>by cases hx))
        have HBK:=hide (show BkM W9 (X+1) (.slice qb mb cb) b lv from ⟨HB.out.2.1.gr.mod (mq) (by simp),HB.out.2.1.eq⟩)
        unfold stC at hbx9
        have CX:=blk_cell hbx9
        have z9:=HZ.out W9 HMX.out
        have ZC:=blk_cell z9;have ZF:=blk_free z9;have ZL:=lt_of_block z9
        clear hbx9 z9
        go_wp2_with fail
        refine rread_end (g:=g) (k:=k) (n:=n) (u:=u) (b:=b) (gv:=.slice qb mb cb) (t:=true) rfl rfl (HZ.out _ HMX.out) rfl (fun w' m=>?_)
        rw [hfin.out]
        exact ⟨qb,mb,cb,lv,rfl,⟨(HBK.out.gr.mod m (fun x hx=>by have:=H3.out.2.2.2;simp at hx;omega)).base (by have:=H3.out.2.2.2;omega),HBK.out.eq⟩,mod_new (HM.out _ HMX.out) m (by simp)⟩
      | some r =>
        have hmr:=(decB_iff.1 hdb).1
        have hel:=(enc_len hmr).2
        rw [(decB_iff.1 hdb).2,HRE.out.2.1] at hel
        have hpr:=may_path hmr
        rw [hdb] at hdec
        have HDB:=hide hdb
        clear hdb hmr
        go_upto_region 16 with (go_at_call 95;refine hdec.mono ?_;rintro e w8 ⟨sv,tv,rfl,hsv,htv,m8⟩;obtain ⟨qs,cs,rfl⟩:=hsv.len;obtain ⟨qt,ct,rfl⟩:=htv.len;unfold aggR cellsR;simp only [Option.getD_some,Option.isSome_some,if_true];have H8:=Hj3 m8 hsv htv;clear m8 hsv htv hdec CX)
        obtain ⟨W9,hW9⟩:∃ x,x=w8.alloc (.cells #[.int .i64 r.kind,.int .i64 r.grant.id,.int .i64 r.grant.holder,.string r.grant.path,.int .i64 r.grant.mode,.slice qs r.grant.stamp.length cs,.int .i64 r.grant.term,.int .i64 r.id,.slice qt r.stamp.length ct,.int .i64 r.next,.int .i64 r.boots,.int .i64 r.longest] 42 (0,0)):=⟨_,rfl⟩
        rw [← hW9]
        have m89:Mod [] w8 W9:=by rw [hW9];exact (Mod.refl _ _).alloc _
        have mq:Mod [] wr W9:=H8.out.1.then m89
        have k9:W9.heap[w8.heap.size]?=some (.cells #[.int .i64 r.kind,.int .i64 r.grant.id,.int .i64 r.grant.holder,.string r.grant.path,.int .i64 r.grant.mode,.slice qs r.grant.stamp.length cs,.int .i64 r.grant.term,.int .i64 r.id,.slice qt r.stamp.length ct,.int .i64 r.next,.int .i64 r.boots,.int .i64 r.longest] 42 (0,0)):=by rw [hW9];exact heap_alloc_new _ _
        have CR:=blk_cell k9
        have hbx9:=mq.at_ HB.out.1 (by simp)
        unfold stC at hbx9
        have CX:=blk_cell hbx9
        have happ:=rapply_any (b:=b) (r:=r) (show BkM W9 (X+1) (.slice qb mb cb) b lv from ⟨HB.out.2.1.gr.mod mq (by simp),HB.out.2.1.eq⟩) (fun p hp=>by have:=(HB.out.2.2.2.2.1.2 p hp).2;omega) (H8.out.2.1.mod m89 (by simp)) (H8.out.2.2.mod m89 (by simp)) (by omega)
        unfold AppTo aggB aggR cellsR at happ
        simp only [Option.getD_some] at happ
        have HMQ:=hide mq
        clear hW9 m89 mq k9 hbx9
        obtain ⟨⟨b2,er⟩,hap⟩:∃ t,applyB b r=t:=⟨_,rfl⟩
        rw [hap] at happ
        simp only at happ
        by_cases h0:er=0
        · subst h0
          have hst:=play_good (n:=n) (u:=u) (l:=recs.drop (j+1)) HDB.out (show (applyB b r).2=0 by rw [hap])
          rw [hap,← HRE.out.2.2.2.1,HI.out.1,HRE.out.2.1] at hst
          have hv2:validB b2=true:=by have h:=apply_valid (b:=b) (r:=r) (by rw [hap]);rw [hap] at h;exact h
          have HST:=Hj2 hst hv2
          clear hst hv2 hap
          go_upto_region 19 with (go_at_call 18;refine happ.mono ?_;rintro e w10 ⟨gv,lv2,rfl,hbk2,m10⟩;obtain ⟨qg,cg,rfl,-⟩:=hbk2.gr.shape;have H10:=Hj2 m10 hbk2;clear happ m10 hbk2 CX CR)
          obtain ⟨W11,hW11⟩:∃ x,x=w10.alloc (.cells #[.int .i64 b2.next,.int .i64 b2.boots,.int .i64 b2.longest,.slice qg lv2.length cg] 34 (0,0)):=⟨_,rfl⟩
          rw [← hW11]
          have hmA:Mod [] w10 W11:=by rw [hW11];exact (Mod.refl _ _).alloc _
          have mq2:Mod [] wr W11:=(HMQ.out.then H10.out.1).then hmA
          have kb:W11.heap[w10.heap.size]?=some (.cells #[.int .i64 b2.next,.int .i64 b2.boots,.int .i64 b2.longest,.slice qg lv2.length cg] 34 (0,0)):=by rw [hW11];exact heap_alloc_new _ _
          have hbx9:=mq2.at_ HB.out.1 (by simp)
          have HX11:=hide hbx9
          unfold stC at hbx9
          have CB:=blk_cell kb;have CX:=blk_cell hbx9;have FX:=blk_free hbx9;have LX:=lt_of_block hbx9
          have hb2:BkM W11 (X+1) (.slice qg lv2.length cg) b2 lv2:=⟨(H10.out.2.gr.mod hmA (by simp)).base (by have:=HMQ.out.size;omega),H10.out.2.eq⟩
          have hrc:W11.cell? ⟨rb,j,none⟩=some (.slice qe dl ce):=mq2.kept HRE.out.2.2.1 (by simp)
          have H11:=Hj3 mq2 hb2 hrc
          clear hW11 hmA mq2 kb hbx9 hb2 hrc
          have hnw:IntKind.i64.wrap ((n:Int)+1)=(n:Int)+1:=IntWalk.i64_in _ (by have:=HI.out.2;omega)
          go_upto_region 21 with fail
          obtain ⟨W12,hW12⟩:∃ x,x=((((W11.setCell ⟨X,4,none⟩ (.int .i64 b2.next)).setCell ⟨X,5,none⟩ (.int .i64 b2.boots)).setCell ⟨X,6,none⟩ (.int .i64 b2.longest)).setCell ⟨X,7,none⟩ (.slice qg lv2.length cg)).setCell ⟨X,2,none⟩ (.int .i64 ((n:Int)+1)):=⟨_,rfl⟩
          rw [← hW12]
          have hms:Mod [X] W11 W12:=by rw [hW12];exact (((((Mod.refl _ _).setCell (fun _=>by simp) _).setCell (fun _=>by simp) _).setCell (fun _=>by simp) _).setCell (fun _=>by simp) _).setCell (fun _=>by simp) _
          have hbs:W12.heap[X]?=some (.cells #[.int .i64 (g:Int),.int .i64 (k:Int),.int .i64 ((n:Int)+1),.int .i64 (u:Int),.int .i64 b2.next,.int .i64 b2.boots,.int .i64 b2.longest,.slice qg lv2.length cg] 103 (0,0)):=by
           rw [hW12]
           exact blk_set (blk_set (blk_set (blk_set (blk_set HX11.out 4 (.int .i64 b2.next)) 5 (.int .i64 b2.boots)) 6 (.int .i64 b2.longest)) 7 (.slice qg lv2.length cg)) 2 (.int .i64 ((n:Int)+1))
          have hrc12:W12.cell? ⟨rb,j,none⟩=some (.slice qe dl ce):=hms.kept H11.out.2.2 (by have:=HRE.out.2.2.2.2;simp;omega)
          have H12:=Hj2 hms hbs
          have HT12:=hide (fun W (m:Mod [] W12 W)=>And.intro (blk_cell (m.at_ hbs (by simp))) (m.kept hrc12 (by simp)))
          have mv:Mod [] W12 W12.drew:=(Mod.refl _ _).drew
          have hwd:widthN dl≤2:=by unfold widthN;omega
          obtain ⟨wd,hwde⟩:∃ x,widthN dl=x:=⟨_,rfl⟩
          have hpt:=fun W=>rparts_any dl (by omega) W
          rw [hwde] at hwd hpt
          have hun2:=HI.out.2.2
          have hnj2:=HI.out.2.1
          have hwu:IntKind.i64.wrap ((u:Int)+(wd:Int))=((u+wd:Nat):Int):=(IntWalk.i64_in _ (by omega)).trans (by omega)
          have HWD:=hide hwde
          clear hW12 hms hbs hrc12 CB CX FX LX hwde
          refine pB 10 (fun W=>Mod [] W12 W) mv ?_
          refine pP 0 ?_
          refine pT 1 rfl [8,10] (fun W h=>by have C:=(HT12.out W h).1;go_simp;try with_reducible rfl) ?_
          refine pP 2 ?_;refine pP 3 ?_;refine pP 4 ?_
          refine pT 5 rfl [6,7,8,10] (fun W h=>by have C:=(HT12.out W h).2;go_simp;try with_reducible rfl) ?_
          refine pP 6 ?_
          refine pX 7 fun hT K HK=>?_
          go_simp
          refine (hpt _).mono ?_
          rintro e w13 ⟨rfl,rfl⟩
          refine HK.out _ _ _ hT ?_
          clear HK K hpt
          refine pP 8 ?_;refine pP 9 ?_
          refine pY 10 fun hT K HK=>?_
          have C:=(HT12.out _ hT).1
          have FX:=blk_free (hT.at_ H12.out.2 (by simp))
          go_simp
          clear C FX
          refine HK.out _ _ _ ?_
          clear HK K
          refine pD ?_
          go_wp2_with fail
          go_roundw
          case rel =>
           have m2:Mod [X] W11 ((W12.drew).setCell ⟨X,3,none⟩ (.int .i64 ((u+wd:Nat):Int))):=(H12.out.1.trans (U:=[X]) hT (fun _ x _=>x) (fun x hx=>by cases hx)).setCell (fun _=>by simp) _
           have hb13:=blk_set (hT.at_ H12.out.2 (by simp)) 3 (.int .i64 ((u+wd:Nat):Int))
           refine ⟨j+1,n+1,u+wd,b2,qg,lv2.length,cg,lv2,by go_num,by omega,by omega,by omega,HST.out.2,?_,⟨H11.out.2.1.gr.mod m2 (fun x hx=>by simp at hx;omega),H11.out.2.1.eq⟩,(HB.out.2.2.2.2.2.trans (U:=[X]) H11.out.1 (fun _ x _=>x) (fun x hx=>by cases hx)).trans m2 (fun _ x _=>x) (fun _ x _=>x),hide ?_⟩
           · unfold stC
             rw [show ((n+1:Nat):Int)=(n:Int)+1 by omega]
             exact hb13
           · rw [← HWD.out]
             exact HST.out.1.symm
          case measure=>simp [intOf];omega
        · have hne:(er != 0)=true:=by simpa using h0
          have hfin:Hid (R0=some ⟨g,k,n,u,b,false⟩):=hide (by
           rw [HHD.out.2.2.1,← HI.out.1,HRE.out.2.2.2.1,play_bad HDB.out (by rw [hap];exact h0)]
           simp [addP])
          clear hap h0
          go_upto_region 18 with (go_at_call 18;refine happ.mono ?_;rintro e w10 ⟨gv,lv2,rfl,hbk2,m10⟩;obtain ⟨qg,cg,rfl,-⟩:=hbk2.gr.shape;have H10:=hide m10;clear happ m10 hbk2 CX CR)
          obtain ⟨W11,hW11⟩:∃ x,x=w10.alloc (.cells #[.int .i64 b2.next,.int .i64 b2.boots,.int .i64 b2.longest,.slice qg lv2.length cg] 34 (0,0)):=⟨_,rfl⟩
          rw [← hW11]
          have mq2:Mod [] wr W11:=by rw [hW11];exact (HMQ.out.then H10.out).alloc _
          clear hW11
          have hbx9:=(mq2).at_ HB.out.1 (by simp)
          have HMX:=hide (HB.out.2.2.1.trans (U:=[X]) (mq2) (fun _ x _=>x) (fun x hx=>by cases hx))
          have HBK:=hide (show BkM W11 (X+1) (.slice qb mb cb) b lv from ⟨HB.out.2.1.gr.mod (mq2) (by simp),HB.out.2.1.eq⟩)
          unfold stC at hbx9
          have CX:=blk_cell hbx9
          have z9:=HZ.out W11 HMX.out
          have ZC:=blk_cell z9;have ZF:=blk_free z9;have ZL:=lt_of_block z9
          clear hbx9 z9
          go_wp2_with fail
          refine rread_end (g:=g) (k:=k) (n:=n) (u:=u) (b:=b) (gv:=.slice qb mb cb) (t:=true) rfl rfl (HZ.out _ HMX.out) rfl (fun w' m=>?_)
          rw [hfin.out]
          exact ⟨qb,mb,cb,lv,rfl,⟨(HBK.out.gr.mod m (fun x hx=>by have:=H3.out.2.2.2;simp at hx;omega)).base (by have:=H3.out.2.2.2;omega),HBK.out.eq⟩,mod_new (HM.out _ HMX.out) m (by simp)⟩
    · obtain rfl:j=recs.length:=by omega
      have hfin:Hid (R0=some ⟨g,k,n,u,b,false⟩):=hide (by
       rw [HHD.out.2.2.1,← HI.out.1,List.drop_length]
       simp [addP,playB])
      clear CX
      have hbx9:=(Mod.refl [] wr).at_ HB.out.1 (by simp)
      have HMX:=hide (HB.out.2.2.1.trans (U:=[X]) (Mod.refl [] wr) (fun _ x _=>x) (fun x hx=>by cases hx))
      have HBK:=hide (show BkM wr (X+1) (.slice qb mb cb) b lv from ⟨HB.out.2.1.gr.mod (Mod.refl [] wr) (by simp),HB.out.2.1.eq⟩)
      unfold stC at hbx9
      have CX:=blk_cell hbx9
      have z9:=HZ.out wr HMX.out
      have ZC:=blk_cell z9;have ZF:=blk_free z9;have ZL:=lt_of_block z9
      clear hbx9 z9
      go_wp2_with fail
      refine rread_end (g:=g) (k:=k) (n:=n) (u:=u) (b:=b) (gv:=.slice qb mb cb) (t:=true) rfl rfl (HZ.out _ HMX.out) rfl (fun w' m=>?_)
      rw [hfin.out]
      exact ⟨qb,mb,cb,lv,rfl,⟨(HBK.out.gr.mod m (fun x hx=>by have:=H3.out.2.2.2;simp at hx;omega)).base (by have:=H3.out.2.2.2;omega),HBK.out.eq⟩,mod_new (HM.out _ HMX.out) m (by simp)⟩
end Go.Proofs.YtpphoeimakjjdaaGreatDoor
/-
  WALKS: the document's layer 12: its ledger in memory; names, dies, Now.
-/
namespace Go.Proofs.YtpphoeimakjjdaaGreatDoor
set_option maxRecDepth 100000
set_option maxHeartbeats 2000000
open Go.RowKit

def rlC (xd:Nat) (l:Lg) (gv:Value):Array Value:=#[.pointer (some ⟨xd,0,none⟩),.bool l.dead,.int .i64 (l.gen:Int),.int .i64 (l.area:Int),.int .i64 (l.seq:Int),.int .i64 (l.used:Int),.int .i64 l.book.next,.int .i64 l.book.boots,.int .i64 l.book.longest,gv]
structure RlM (w:World) (base:Nat) (K:List Nat) (xm xd:Nat) (sv:Value) (vs:List Value) (b1:Nat) (gv:Value) (lv:List (Grt × Value)) (d:Dk) (l:Lg):Prop where
 blk:w.heap[xm]?=some (.cells (rlC xd l gv) 105 (0,0))
 dm:RdM w base xd sv vs d
 av:∀ k,k∈xm::K→k<w.heap.size∧k≠xd∧k ∉ ob sv∧∀ i,i<d.secs.length→k ∉ ob (vs.getD i nilS)
 bk:BkM w b1 gv l.book lv
 lo:base≤xm∧xm<b1∧xd<b1∧(∀ k,k∈ob sv→k<b1)∧xm ∉ K∧∀ k,k∈K→k<b1
section
variable {w w':World} {base xm xd b1:Nat} {K:List Nat} {sv gv:Value} {vs vs':List Value} {lv:List (Grt × Value)} {d d':Dk} {l:Lg}
theorem RlM.quiet (h:RlM w base K xm xd sv vs b1 gv lv d l) (m:Mod [] w w'):RlM w' base K xm xd sv vs b1 gv lv d l :=
 ⟨m.at_ h.blk (by simp),h.dm.quiet m,fun k hk=>⟨Nat.lt_of_lt_of_le (h.av k hk).1 m.size,(h.av k hk).2⟩,⟨h.bk.gr.mod m (by simp),h.bk.eq⟩,h.lo⟩
theorem RlM.mod (h:RlM w base K xm xd sv vs b1 gv lv d l) {S:List Nat} (m:Mod S w w') (hS:∀ k,k∈S→k<base∨k∈K):RlM w' base K xm xd sv vs b1 gv lv d l:=by
 have hx:∀ k,k∈S→k≠xm∧k≠xd∧k ∉ ob sv∧(∀ i,i<d.secs.length→k ∉ ob (vs.getD i nilS))∧k<b1:=fun k hk=>by
  have h1:=h.dm.ap.1
  have h2:=h.lo
  rcases hS k hk with e | e
  · exact ⟨by omega,by omega,fun q=>by have:=(h.dm.rows.blk k q).1;omega,fun i hi q=>by have:=((h.dm.rows.el i hi).blk k q).1;omega,by omega⟩
  · have a:=h.av k (List.mem_cons_of_mem _ e)
    exact ⟨fun q=>h.lo.2.2.2.2.1 (q ▸ e),a.2.1,a.2.2.1,a.2.2.2,h.lo.2.2.2.2.2 k e⟩
 refine ⟨m.at_ h.blk (fun e=>(hx xm e).1 rfl),⟨m.at_ h.dm.blk (fun e=>(hx xd e).2.1 rfl),⟨m.row h.dm.rows.row (fun k hk e=>(hx k e).2.2.1 (by simpa [ob] using hk)),fun i hi=>(h.dm.rows.el i hi).mod m (fun k hk e=>(hx k e).2.2.2.1 i hi hk),h.dm.rows.apart⟩,h.dm.ap,h.dm.ok⟩,fun k hk=>⟨Nat.lt_of_lt_of_le (h.av k hk).1 m.size,(h.av k hk).2⟩,⟨h.bk.gr.mod m (fun k hk=>.inl (hx k hk).2.2.2.2),h.bk.eq⟩,h.lo⟩
theorem RlM.disk (h:RlM w base K xm xd sv vs b1 gv lv d l) (hd:RdM w' base xd sv vs' d') (m:Mod (xd::ob sv) w w') (hn:Nw w vs vs') (hl:d'.secs.length=d.secs.length):RlM w' base K xm xd sv vs' b1 gv lv d' l:=by
 have hm:=h.av xm List.mem_cons_self
 refine ⟨m.at_ h.blk (fun e=>?_),hd,fun k hk=>?_,⟨h.bk.gr.mod m (fun k hk=>.inl ?_),h.bk.eq⟩,h.lo⟩
 · rcases List.mem_cons.1 e with e | e
   · exact hm.2.1 e
   · exact hm.2.2.1 e
 · have a:=h.av k hk
   refine ⟨Nat.lt_of_lt_of_le a.1 m.size,a.2.1,a.2.2.1,fun i hi q=>?_⟩
   rcases hn i with e | e
   · rw [e] at q;exact a.2.2.2 i (by omega) q
   · have:=e k q;omega
 · rcases List.mem_cons.1 hk with rfl | e
   · exact h.lo.2.2.1
   · exact h.lo.2.2.2.1 k e
theorem RlM.own (h:RlM w base K xm xd sv vs b1 gv lv d l) {l':Lg} (hb:w'.heap[xm]?=some (.cells (rlC xd l' gv) 105 (0,0))) (m:Mod [xm] w w') (hbk:l'.book=l.book):RlM w' base K xm xd sv vs b1 gv lv d l':=by
 have hm:=h.av xm List.mem_cons_self
 have hx:=h.lo.2.1
 refine ⟨hb,⟨m.at_ h.dm.blk (by simp;exact fun e=>hm.2.1 e.symm),⟨m.row h.dm.rows.row (fun k hk e=>by simp at e;rw [e] at hk;exact hm.2.2.1 (by simpa [ob] using hk)),fun i hi=>(h.dm.rows.el i hi).mod m (fun k hk e=>by simp at e;rw [e] at hk;exact hm.2.2.2 i hi hk),h.dm.rows.apart⟩,h.dm.ap,h.dm.ok⟩,fun k hk=>⟨Nat.lt_of_lt_of_le (h.av k hk).1 m.size,(h.av k hk).2⟩,⟨h.bk.gr.mod m (fun k hk=>.inl (by simp at hk;omega)),by rw [hbk];exact h.bk.eq⟩,h.lo⟩
theorem rpack_head (g k:Nat):packL g 0 [UInt8.ofNat k]=[headB g k]:=by
 unfold packL
 simp [widthN,headB,pieceS]
theorem rnames_any (h:RlM w base K xm xd sv vs b1 gv lv d l) (g k:Nat) (h1:1≤g) (h2:g≤1073741824) (hk:k≤1) :
 Calls Tryz.prog 63 #[.pointer (some ⟨xm,0,none⟩),.int .i64 (g:Int),.int .i64 (k:Int)] w fun e w'=>e=.returned (.int .i64 (nameD d g k).1)∧∃ vs',RlM w' base K xm xd sv vs' b1 gv lv (nameD d g k).2 l∧Mod (xd::ob sv) w w':=by
 have hku:IntKind.u8.wrap (k:Int)=(k:Int):=by rw [IntKind.wrap_u8'];omega
 have hby:∀ w:World,RdY (w.alloc (.cells #[.int .u8 (k:Int)] 5 (0,0))) (.slice (some ⟨w.heap.size,0,none⟩) 1 1) [UInt8.ofNat k]:=fun w =>
  (RowY.of_block (base:=0) (m:=[UInt8.ofNat k]) (heap_alloc_new w _) (Nat.zero_le _) (Nat.le_refl 1) (by decide) rfl (by simp [y8_of k (by omega)])).rd
 have hpk:=fun W=>rpack_any (seq:=0) h1 h2 (by omega) (hby W) (by simp)
 rw [rpack_head] at hpk
 obtain ⟨B,hB⟩:∃ B,headB g k=B:=⟨_,rfl⟩
 rw [hB] at hpk
 have hBl:B.length=64:=by rw [← hB];exact packOne_len (by simp)
 obtain ⟨R,hR⟩:∃ R,nameD d g k=R:=⟨_,rfl⟩
 rw [hR]
 unfold nameD at hR
 rw [hB] at hR
 have HH:=Hj3 h hR hBl
 have C:=blk_cell h.blk
 unfold rlC at C
 have HC:=hide (fun W (m:Mod [] w W)=>blk_cell (m.at_ h.blk (by simp)))
 clear h hR hBl hB hby C
 go_enter Tryz.func63,Tryz.ntmps63
 go_upto_region 2 with (go_at_call 96;refine (hpk w).mono ?_;rintro e w1 ⟨v1,vs1,rfl,hr1,hm1⟩)
 have mq:Mod [] w w1:=((Mod.refl [] w).alloc _).then hm1
 obtain ⟨q1,c1,rfl,-⟩:=hr1.shape
 simp only [List.length_singleton]
 obtain ⟨pb,rfl,hpb,hce,hre⟩:=hr1.at_ 0 (by simp)
 obtain ⟨ve,hve⟩:∃ v,vs1.getD 0 nilS=v:=⟨_,rfl⟩
 have hre:RowY w1 w.heap.size ve B:=by rw [hve] at hre;exact hre.base (by simp)
 rw [hve] at hce
 obtain ⟨qe,ce,rfl⟩:=hre.rd.len
 rw [HH.out.2.2] at hre hce
 have HE:=Hj3 hre hce mq
 have mv:Mod [] w1 w1.drew:=(Mod.refl _ _).drew
 have hxd:xd<w.heap.size:=lt_of_block HH.out.1.dm.blk
 clear hr1 hm1 hre hce hve hpk mq hxd
 refine pB 7 (fun W=>Mod [] w1 W) mv ?_
 refine pP 0 ?_;refine pP 1 ?_;refine pP 2 ?_
 refine pT 3 rfl [7] (fun W h=>by have C:=HC.out W (HE.out.2.2.then h);unfold rlC at C;go_simp;try with_reducible rfl) ?_
 refine pP 4 ?_;refine pP 5 ?_
 refine pT 6 rfl [7] (fun W h=>by have C:=h.kept HE.out.2.1 (by simp);go_simp;try with_reducible rfl) ?_
 refine pY 7 fun hT K HK=>?_
 go_simp
 have mA:Mod [] w w1.drew:=HE.out.2.2.then hT
 have hA:=HH.out.1.quiet mA
 have hrd:=HE.out.1.mod hT (by simp)
 have hxl:=lt_of_block HH.out.1.dm.blk
 have hba:=HH.out.1.dm.ap.1
 have hw:=rwrite_any hA.dm (by have:=mA.size;omega) 0 hrd.rd (by rw [HH.out.2.2];decide) (fun e=>by have:=(hrd.blk xd e).1;omega)
 refine hw.mono ?_
 rintro e w2 ⟨rfl,vs2,hd2,m2,n2⟩
 rw [HH.out.2.1] at hd2 ⊢
 have hlen:R.2.secs.length=d.secs.length:=by rw [← HH.out.2.1];exact write_len d 0 B
 have H2:=Hj2 (hA.disk hd2 m2 n2 hlen) ((mA.mono (by simp)).trans m2 (fun _ x _=>x) (fun _ x _=>x))
 refine HK.out _ _ _ ?_
 clear HK K hw hA hd2 m2 n2 hrd mA hlen hxl hba
 refine pP 8 ?_
 refine pD ?_
 go_wp2_with fail
 go_ret
 exact ⟨rfl,vs2,H2.out.1,H2.out.2⟩
theorem rdies_any (h:RlM w base K xm xd sv vs b1 gv lv d l) :
 Calls Tryz.prog 64 #[.pointer (some ⟨xm,0,none⟩)] w fun e w'=>e=.returned (.bool (l.dead||d.off))∧RlM w' base K xm xd sv vs b1 gv lv d (if d.off=true then deadL l else l)∧Mod [xm] w w':=by
 have C:=blk_cell h.blk;have F:=blk_free h.blk;have L:=lt_of_block h.blk
 unfold rlC at C
 have D:=blk_cell h.dm.blk
 have HH:=hide h
 clear h
 cases ho:d.off with
 | true =>
   rw [ho] at D
   clear ho
   go_enter Tryz.func64,Tryz.ntmps64
   go_wp2_with fail
   go_ret
   have m:Mod [xm] w (w.setCell ⟨xm,1,none⟩ (.bool true)):=(Mod.refl _ _).setCell (fun _=>by simp) _
   exact ⟨by simp,HH.out.own (l':=deadL l) (blk_set HH.out.blk 1 _) m rfl,m⟩
 | false =>
   rw [ho] at D
   clear ho
   go_enter Tryz.func64,Tryz.ntmps64
   go_wp2_with fail
   go_ret
   exact ⟨by simp,HH.out,Mod.refl _ _⟩
theorem rnow_any (h:RlM w base K xm xd sv vs b1 gv lv d l) :
 Calls Tryz.prog 70 #[.pointer (some ⟨xm,0,none⟩)] w fun e w'=>e=.returned (.agg (stC l.gen l.area l.seq l.used l.book gv))∧Mod [] w w':=by
 obtain ⟨qg,cg,rfl,-⟩:=h.bk.gr.shape
 obtain ⟨W1,hW1⟩:∃ x,x=w.alloc (.cells #[.int .i64 0,.int .i64 0,.int .i64 0,.int .i64 0,.int .i64 0,.int .i64 0,.int .i64 0,.slice none 0 0] 103 (0,0)):=⟨_,rfl⟩
 have k1:W1.heap[w.heap.size]?=some (.cells #[.int .i64 0,.int .i64 0,.int .i64 0,.int .i64 0,.int .i64 0,.int .i64 0,.int .i64 0,.slice none 0 0] 103 (0,0)):=by rw [hW1];exact heap_alloc_new _ _
 have m1:Mod [] w W1:=by rw [hW1];exact (Mod.refl _ _).alloc _
 have C:=blk_cell (m1.at_ h.blk (by simp))
 unfold rlC at C
 have Z:=blk_cell k1;have ZF:=blk_free k1;have ZL:=lt_of_block k1
 have H1:=Hj2 k1 m1
 clear h k1 m1
 go_enter Tryz.func70,Tryz.ntmps70
 go_upto_region 1 with fail
 rw [← hW1]
 clear hW1
 go_wp2_with fail
 have q:=stL_all H1.out.1 [.int .i64 (l.gen:Int),.int .i64 (l.area:Int),.int .i64 (l.seq:Int),.int .i64 (l.used:Int),.int .i64 l.book.next,.int .i64 l.book.boots,.int .i64 l.book.longest,.slice qg lv.length cg] rfl
 have qm:=stL_mod (S:=[w.heap.size]) (w0:=W1) (r:=w.heap.size) (fun _=>by simp) [.int .i64 (l.gen:Int),.int .i64 (l.area:Int),.int .i64 (l.seq:Int),.int .i64 (l.used:Int),.int .i64 l.book.next,.int .i64 l.book.boots,.int .i64 l.book.longest,.slice qg lv.length cg] 0 _ (Mod.refl _ _)
 exact bodyPost_ret (v:=.agg (stC l.gen l.area l.seq l.used l.book (.slice qg lv.length cg))) (res_cell1 Tryz.results70 _ _ rfl q Tryz.isAgg103 Tryz.sizeOf103) rfl ⟨rfl,mod_new H1.out.2 qm (by simp)⟩
end
end Go.Proofs.YtpphoeimakjjdaaGreatDoor
/-
  WALKS: the document's layer 12: lay.
-/
namespace Go.Proofs.YtpphoeimakjjdaaGreatDoor
set_option maxRecDepth 100000
set_option maxHeartbeats 4000000
open Go.RowKit

section
variable {w:World} {base xm xd b1:Nat} {K:List Nat} {sv gv:Value} {vs:List Value} {lv:List (Grt × Value)} {d:Dk} {l:Lg}
theorem RlM.lts (h:RlM w base K xm xd sv vs b1 gv lv d l):∀ k,k∈xd::ob sv→k<w.heap.size:=fun k hk=>by
 rcases List.mem_cons.1 hk with rfl | e
 · exact lt_of_block h.dm.blk
 · exact (h.dm.rows.blk k e).2
def LyRel (w:World) (base:Nat) (K:List Nat) (xm xd:Nat) (sv:Value) (b1:Nat) (gv:Value) (lv:List (Grt × Value)) (l:Lg) (n at_:Nat) (P:List B8) (T:Int × Dk) (i:Value) (wr:World):Prop :=
 ∃ (j:Nat) (vs:List Value) (d:Dk),i=.int .i64 (j:Int)∧j≤P.length∧RlM wr base K xm xd sv vs b1 gv lv d l∧Mod (xd::ob sv) w wr∧d.secs.length=n∧Hid (writesD d (at_+j) (P.drop j)=T)
theorem rlayR_any (h:RlM w base K xm xd sv vs b1 gv lv d l) {r:Rcd} {rs rt:Value} (hs:RdN w rs r.grant.stamp) (ht:RdN w rt r.stamp) (hm:mayB r=true) (at_ g seq:Nat) (h1:1≤g) (h2:g≤1073741824) (h3:seq≤1073741824) (hat:at_+widthN (encB r).length≤d.secs.length) {T:Int × Dk} (hT:putD d at_ g seq (encB r)=T) :
 Calls Tryz.prog 67 #[.pointer (some ⟨xm,0,none⟩),.int .i64 (at_:Int),.int .i64 (g:Int),.int .i64 (seq:Int),aggR r rs rt] w fun e w'=>e=.returned (.int .i64 T.1)∧∃ vs',RlM w' base K xm xd sv vs' b1 gv lv T.2 (if T.1=0 then l else deadL l)∧Mod (xm::xd::ob sv) w w':=by
 obtain ⟨LL,hLL⟩:∃ x,(if T.1=0 then l else deadL l)=x:=⟨_,rfl⟩
 rw [hLL]
 have HLL:=hide hLL
 clear hLL
 have hpath:=may_path hm
 have hel:=(enc_len hm).2
 have henc:=fun (W:World) (m:Mod [] w W)=>rencode_any (r:=r) (hs.mod m (by simp)) (ht.mod m (by simp)) (by omega)
 rw [hm] at henc
 obtain ⟨E,hE⟩:∃ E,encB r=E:=⟨_,rfl⟩
 rw [hE] at henc hel hat hT
 obtain ⟨q1,c1,rfl⟩:=hs.len
 obtain ⟨q2,c2,rfl⟩:=ht.len
 obtain ⟨n,hn⟩:∃ n,d.secs.length=n:=⟨_,rfl⟩
 have hn512:n≤512:=by rw [← hn];exact h.dm.ok.most
 rw [hn] at hat
 obtain ⟨P,hP⟩:∃ P,packL g seq E=P:=⟨_,rfl⟩
 have hPl:P.length=widthN E.length:=by rw [← hP];exact packL_len _ _ _
 have hP64:∀ b,b∈P→b.length=64:=by rw [← hP];exact pack_64
 unfold putD at hT
 rw [hP] at hT
 obtain ⟨el,hell⟩:∃ n,E.length=n:=⟨_,rfl⟩
 rw [hell] at hel hat hPl
 have hw4:widthN el≤2:=by unfold widthN;omega
 have HH:=Hj6 h hT hn hP64 hP hell
 clear h hT hn hP64 hE hs ht hm hP hell hpath
 unfold aggR cellsR at henc ⊢
 obtain ⟨W1,hW1⟩:∃ x,x=w.alloc (.cells #[.int .i64 r.kind,.int .i64 r.grant.id,.int .i64 r.grant.holder,.string r.grant.path,.int .i64 r.grant.mode,.slice q1 r.grant.stamp.length c1,.int .i64 r.grant.term,.int .i64 r.id,.slice q2 r.stamp.length c2,.int .i64 r.next,.int .i64 r.boots,.int .i64 r.longest] 42 (0,0)):=⟨_,rfl⟩
 have k1:W1.heap[w.heap.size]?=some (.cells #[.int .i64 r.kind,.int .i64 r.grant.id,.int .i64 r.grant.holder,.string r.grant.path,.int .i64 r.grant.mode,.slice q1 r.grant.stamp.length c1,.int .i64 r.grant.term,.int .i64 r.id,.slice q2 r.stamp.length c2,.int .i64 r.next,.int .i64 r.boots,.int .i64 r.longest] 42 (0,0)):=by rw [hW1];exact heap_alloc_new _ _
 have m1:Mod [] w W1:=by rw [hW1];exact (Mod.refl _ _).alloc _
 have he1:=henc W1 m1
 have CR:=blk_cell k1
 have H1:=hide m1
 clear henc m1 k1
 go_enter Tryz.func67,Tryz.ntmps67
 go_upto_region 1 with fail
 rw [← hW1]
 clear hW1
 go_upto_region 2 with (go_at_call 68;refine he1.mono ?_;intro e w2 hq;obtain ⟨p2,c3,rfl,hr2,m2⟩:=hq.t rfl)
 rw [HH.out.2.2.2.2.2] at hr2 ⊢
 have mq:Mod [] w w2:=H1.out.then m2
 have hb2:=hr2.base (b':=w.heap.size) H1.out.size
 have hpk:=rpack_any (gen:=g) (seq:=seq) h1 h2 h3 (show RdY w2 (.slice p2 E.length c3) E by rw [HH.out.2.2.2.2.2];exact hr2.rd) (by rw [HH.out.2.2.2.2.2];omega)
 rw [HH.out.2.2.2.2.1,HH.out.2.2.2.2.2] at hpk
 clear CR hr2 hb2 m2 he1
 go_upto_region 3 with (go_at_call 96;refine hpk.mono ?_;rintro e w3 ⟨v3,vs3,rfl,hr3,m3⟩;clear hpk)
 have mq3:Mod [] w w3:=mq.then m3
 obtain ⟨q3,c4,rfl,-⟩:=hr3.shape
 have HR3:=Hj3 (hr3.base mq.size) mq3 hPl
 have hP0:P.length≤2:=by omega
 clear hr3 m3 mq mq3 hPl
 go_wp2_with fail
 go_loopw [15] (fun i wr=>LyRel w3 base K xm xd sv b1 gv lv l n at_ P T i wr) (fun i _=>P.length - (intOf i).toNat)
 case atStart=>exact ⟨0,vs,d,rfl,Nat.zero_le _,HH.out.1.quiet HR3.out.2.1,Mod.refl _ _,HH.out.2.2.1,hide (by rw [Nat.add_zero,List.drop_zero];exact HH.out.2.1)⟩
 case round =>
  obtain ⟨j,vsj,dj,rfl,hj,hM,hm,hnj,hinv⟩:=hrel
  have hlts:=(HH.out.1.quiet HR3.out.2.1).lts
  by_cases hlt:j<P.length
  · have hrows:=HR3.out.1.mod hm (fun k hk=>.inl (by have:=HH.out.1.lts k hk;omega))
    obtain ⟨pb,rfl,hpb,hce,hre⟩:=hrows.at_ j hlt
    obtain ⟨B,hB⟩:∃ b,P.getD j []=b:=⟨_,rfl⟩
    have hBm:B∈P:=by rw [← hB];simp [hlt]
    have hdrop:P.drop j=B::P.drop (j+1):=by rw [List.drop_eq_getElem_cons hlt,← hB];simp [hlt]
    rw [hB] at hre
    obtain ⟨ve,hve⟩:∃ v,vs3.getD j nilS=v:=⟨_,rfl⟩
    rw [hve] at hre hce
    obtain ⟨qe,ce,rfl⟩:=hre.rd.len
    have hB64:=HH.out.2.2.2.1 B hBm
    rw [hB64] at hre hce
    have hin:=hinv.out
    rw [hdrop] at hin
    obtain ⟨Wt,hWt⟩:∃ t,writeD dj (at_+j) B=t:=⟨_,rfl⟩
    have hst:T=if Wt.1=0 then writesD Wt.2 (at_+j+1) (P.drop (j+1)) else Wt:=by
     rw [← hin];conv=>lhs;unfold writesD
     rw [hWt]
    have her:Wt.1=0∨Wt.1=40:=by rw [← hWt];exact write_err dj (at_+j) B (by have:=HR3.out.2.2;omega) hB64
    have hln:Wt.2.secs.length=n:=by rw [← hWt,write_len];exact hnj
    have hwa:IntKind.i64.wrap ((at_:Int)+(j:Int))=((at_+j:Nat):Int):=(IntWalk.i64_in _ (by omega)).trans (by omega)
    have HM:=Hj8 hM hm hst hln hWt hB64 hre hce
    have HC:=hide (fun W (m:Mod [] wr W)=>And.intro (blk_cell (m.at_ hM.blk (by simp))) (m.kept hce (by simp)))
    have hlx:=hM.lts
    have hbx:=hM.dm.ap.1
    clear hM hm hst hln hWt hB64 hre hce hrows hB hBm hdrop hve hin hinv hnj
    go_upto_region 6 with fail
    have mv:Mod [] wr wr.drew:=(Mod.refl _ _).drew
    refine pB 11 (fun W=>Mod [] wr W) mv ?_
    refine pP 0 ?_;refine pP 1 ?_;refine pP 2 ?_
    refine pT 3 rfl [11] (fun W h=>by have C:=(HC.out W h).1;unfold rlC at C;go_simp;try with_reducible rfl) ?_
    refine pP 4 ?_;refine pP 5 ?_;refine pP 6 ?_;refine pP 7 ?_;refine pP 8 ?_;refine pP 9 ?_
    refine pT 10 rfl [11] (fun W h=>by have C:=(HC.out W h).2;go_simp;try with_reducible rfl) ?_
    refine pY 11 fun hT K' HK=>?_
    go_simp
    have hA:=HM.out.1.quiet hT
    have hrd:=HM.out.2.2.2.2.2.2.1.mod hT (by simp)
    have hw:=rwrite_any hA.dm (by have:=HR3.out.2.1.size;have:=HM.out.2.1.size;have:=hT.size;have:=HH.out.1.lts xd List.mem_cons_self;omega) (at_+j) hrd.rd (by rw [HM.out.2.2.2.2.2.1];decide) (fun e=>by have:=(hrd.blk xd e).1;have:=HH.out.1.lts xd List.mem_cons_self;omega)
    refine hw.mono ?_
    rintro e w5 ⟨rfl,vs5,hd5,m5,n5⟩
    rw [HM.out.2.2.2.2.1] at hd5 ⊢
    have H5:=Hj2 (hA.disk hd5 m5 n5 (by rw [HM.out.2.2.2.1,← HM.out.2.2.2.1];rw [← HM.out.2.2.2.2.1,write_len])) ((HM.out.2.1.trans (U:=xd::ob sv) hT (fun _ x _=>x) (fun x hx=>by cases hx)).trans m5 (fun _ x _=>x) (fun _ x _=>x))
    refine HK.out _ _ _ ?_
    clear HK K' hw hA hd5 m5 n5 hrd hlx hbx
    refine pP 12 ?_
    refine pD ?_
    rcases her with h0 | h40
    · have hst:=HM.out.2.2.1
      rw [if_pos h0] at hst
      have HST:=hide hst
      rw [h0]
      clear hst
      go_wp2_with fail
      go_roundw
      case rel=>exact ⟨j+1,vs5,Wt.2,by go_num,by omega,H5.out.1,H5.out.2,HM.out.2.2.2.1,hide HST.out.symm⟩
      case measure=>simp [intOf];omega
    · have hst:=HM.out.2.2.1
      rw [if_neg (by omega)] at hst
      have HST:=hide hst
      rw [h40]
      clear hst
      have C5:=blk_cell H5.out.1.blk;have F5:=blk_free H5.out.1.blk;have L5:=lt_of_block H5.out.1.blk
      unfold rlC at C5
      go_wp2_with fail
      go_ret
      have ms:Mod [xm] w5 (w5.setCell ⟨xm,1,none⟩ (.bool true)):=(Mod.refl _ _).setCell (fun _=>by simp) _
      have hT1:T.1=40:=by rw [HST.out];exact h40
      rw [← HLL.out,if_neg (by omega),hT1,HST.out]
      refine ⟨rfl,vs5,H5.out.1.own (l':=deadL l) (blk_set H5.out.1.blk 1 _) ms rfl,?_⟩
      exact ((HR3.out.2.1.mono (T:=xm::xd::ob sv) (by simp)).trans H5.out.2 (fun _ x _=>x) (fun x hx _=>List.mem_cons_of_mem _ hx)).trans ms (fun _ x _=>x) (fun x hx _=>by simp at hx;simp [hx])
  · obtain rfl:j=P.length:=by omega
    have hin:=hinv.out
    rw [List.drop_length] at hin
    have hT:T=(0,dj):=hin.symm
    have HM:=Hj3 hM hm hT
    clear hM hm hT hinv hin
    go_wp2_with fail
    go_ret
    rw [← HLL.out,HM.out.2.2,if_pos rfl]
    exact ⟨rfl,vsj,HM.out.1,(HR3.out.2.1.mono (T:=xm::xd::ob sv) (by simp)).trans HM.out.2.1 (fun _ x _=>x) (fun x hx _=>List.mem_cons_of_mem _ hx)⟩
end
end Go.Proofs.YtpphoeimakjjdaaGreatDoor
/-
  WALKS: the document's layer 12: next.
-/
namespace Go.Proofs.YtpphoeimakjjdaaGreatDoor
set_option maxRecDepth 100000
set_option maxHeartbeats 4000000
open Go.RowKit

def NxRel (w:World) (G:Nat) (side:List B8) (gv i:Value) (wr:World):Prop:=∃ (j g:Nat),i=.int .i64 (j:Int)∧gv=.int .i64 (g:Int)∧j≤side.length∧g≤1073741824∧Mod [] w wr∧Hid (maxGen g (side.drop j)=G)
section
variable {w:World} {base xm xd b1:Nat} {K:List Nat} {sv gv:Value} {vs:List Value} {lv:List (Grt × Value)} {d:Dk} {l:Lg}
theorem rnext_any (h:RlM w base K xm xd sv vs b1 gv lv d l) (h49:49≤d.secs.length) (hg:l.gen≤1073741824) (har:l.area≤1) {G:Nat} (hG:maxGen l.gen (sideS d.secs (1 - l.area))=G) :
 Calls Tryz.prog 65 #[.pointer (some ⟨xm,0,none⟩)] w fun e w'=>e=.returned (.int .i64 ((G:Int)+1))∧G≤1073741824∧Mod [] w w':=by
 obtain ⟨ot,hot⟩:∃ x,1 - l.area=x:=⟨_,rfl⟩
 have hsub:(1:Int) - (l.area:Int)=(ot:Int):=by omega
 have hwo:IntKind.i64.wrap (ot:Int)=(ot:Int):=IntWalk.i64_in _ (by omega)
 rw [hot] at hG
 have hof:=fun (W:World) (m:Mod [] w W)=>rof_any (h.dm.rows.rda.quiet m) h49 ot (by omega)
 have hsl:(sideS d.secs ot).length=24:=by unfold sideS;simp;omega
 obtain ⟨S,hS⟩:∃ s,sideS d.secs ot=s:=⟨_,rfl⟩
 rw [hS] at hG hof hsl
 obtain ⟨qs,cs,rfl,-⟩:=h.dm.rows.shape
 have HC:=hide (fun W (m:Mod [] w W)=>And.intro (blk_cell (m.at_ h.blk (by simp))) (blk_cell (m.at_ h.dm.blk (by simp))))
 have C:=blk_cell h.blk
 unfold rlC at C
 have HG:=Hj2 hG hsl
 clear h hot hS hG hsl
 go_enter Tryz.func65,Tryz.ntmps65
 go_upto_region 2 with fail
 clear C
 have mv:Mod [] w w.drew:=(Mod.refl _ _).drew
 refine pB 999 (fun W=>Mod [] w W) mv ?_
 refine pP 0 ?_;refine pP 1 ?_;refine pP 2 ?_
 refine pH 3 rfl (fun W h=>by have C:=(HC.out W h).1;unfold rlC at C;go_simp;try with_reducible rfl) ?_
 refine pP 4 ?_;refine pP 5 ?_
 refine pH 6 rfl (fun W h=>by have C:=(HC.out W h).2;go_simp;try with_reducible rfl) ?_
 refine pP 7 ?_;refine pP 8 ?_;refine pP 9 ?_;refine pP 10 ?_
 refine pH 11 rfl (fun W h=>by have C:=(HC.out W h).1;unfold rlC at C;go_simp;try with_reducible rfl) ?_
 refine pP 12 ?_
 refine pX 13 fun hT K' HK=>?_
 go_simp
 refine (hof _ hT).mono ?_
 rintro e w1 ⟨v1,rfl,hv1,rfl⟩
 refine HK.out _ _ _ hT ?_
 clear HK K' hof
 refine pP 14 ?_
 refine pE fun hT=>?_
 obtain ⟨W2,hW2⟩:∃ x,x=w.drew:=⟨_,rfl⟩
 rw [← hW2] at hv1 hT ⊢
 clear hW2 mv
 obtain ⟨q1,c1,rfl⟩:=hv1.len
 have HV:=Hj2 hv1 hT
 rw [HG.out.2]
 clear hv1 hT
 go_wp2_with fail
 go_loopw [3,5] (fun g i wr=>NxRel W2 G S g i wr) (fun _ i _=>24 - (intOf i).toNat)
 case atStart=>exact ⟨0,l.gen,rfl,rfl,Nat.zero_le _,hg,Mod.refl _ _,hide (by rw [List.drop_zero];exact HG.out.1)⟩
 case round =>
  obtain ⟨j,g,rfl,rfl,hj,hgM,hm,hin⟩:=hrel
  rw [HG.out.2] at hj
  by_cases hlt:j<24
  · obtain ⟨b1,o1,v,rfl,hb1,cv,hrd⟩:=(HV.out.1.quiet hm).at_ j (by rw [HG.out.2];exact hlt)
    obtain ⟨B,hB⟩:∃ b,S.getD j []=b:=⟨_,rfl⟩
    rw [hB] at hrd
    have hdrop:S.drop j=B::S.drop (j+1):=by rw [List.drop_eq_getElem_cons (by rw [HG.out.2];exact hlt),← hB];simp [show j<S.length by rw [HG.out.2];exact hlt]
    have hlook:=rlook_any hrd
    have hin2:=hin.out
    rw [hdrop] at hin2
    unfold maxGen at hin2
    rw [List.foldl_cons] at hin2
    cases hs:lookS B with
    | none =>
      rw [hs] at hlook hin2
      have HI:=Hj2 hin2 hm
      clear hin2 hin hdrop hB hrd hm hs
      go_wp2_with (go_at_call 98;refine hlook.mono ?_;rintro e w3 ⟨rfl,m3⟩;have H3:=hide m3;clear m3 hlook)
      go_roundw
      case rel=>exact ⟨j+1,g,by go_num,rfl,by rw [HG.out.2];omega,hgM,HI.out.2.then (H3.out.alloc _),hide HI.out.1⟩
      case measure=>simp [intOf];omega
    | some p =>
      obtain ⟨pg,ps,pi,pp,pd⟩:=p
      have hpf:=(look_fits hs).2.1.2.1
      rw [hs] at hlook hin2
      simp only at hpf hin2
      have hmx:max (g:Int) (pg:Int)=((max g pg:Nat):Int):=by simp only [Nat.max_def,Int.max_def];split <;> split <;> omega
      have HI:=Hj2 hin2 hm
      clear hin2 hin hdrop hB hrd hm hs
      go_wp2_with (go_at_call 98;refine hlook.mono ?_;rintro e w3 ⟨qp,cp,rfl,rp,m3⟩;have H3:=hide m3;clear m3 hlook rp)
      go_roundw
      case rel=>exact ⟨j+1,max g pg,by go_num,by first | rfl | rw [hmx],by rw [HG.out.2];omega,by omega,HI.out.2.then (H3.out.alloc _),hide HI.out.1⟩
      case measure=>simp [intOf];omega
  · obtain rfl:j=24:=by omega
    have hin2:=hin.out
    rw [List.drop_of_length_le (by rw [HG.out.2];exact Nat.le_refl _)] at hin2
    have hgG:g=G:=hin2
    subst hgG
    have HI:=hide hm
    clear hin hin2 hm
    go_wp2_with fail
    go_ret
    exact ⟨rfl,hgM,HV.out.2.then HI.out⟩
end
end Go.Proofs.YtpphoeimakjjdaaGreatDoor
/-
  WALKS: the document's layer 12: Compact.
-/
namespace Go.Proofs.YtpphoeimakjjdaaGreatDoor
set_option maxRecDepth 100000
set_option maxHeartbeats 4000000
open Go.RowKit

theorem rlC_set (xd:Nat) (l:Lg) (gv:Value) (g ot a u:Nat):((((((((rlC xd l gv).setIfInBounds 2 (.int .i64 (g:Int))).setIfInBounds 3 (.int .i64 (ot:Int))).setIfInBounds 4 (.int .i64 (a:Int))).setIfInBounds 5 (.int .i64 (u:Int))).setIfInBounds 6 (.int .i64 l.book.next)).setIfInBounds 7 (.int .i64 l.book.boots)).setIfInBounds 8 (.int .i64 l.book.longest)).setIfInBounds 9 gv=rlC xd { gen:=g,area:=ot,seq:=a,used:=u,book:=l.book,dead:=l.dead } gv:=by
 simp [rlC]
theorem deadL_dead {l:Lg} (h:l.dead=true):deadL l=l:=by
 obtain ⟨a,b,c,e,f,g⟩:=l
 simp only at h
 subst h
 rfl
section
variable {w:World} {base xm xd b1:Nat} {K:List Nat} {sv gv:Value} {vs:List Value} {lv:List (Grt × Value)} {d:Dk} {l:Lg}
def RcRel (w:World) (base:Nat) (K:List Nat) (xm xd:Nat) (sv:Value) (b1:Nat) (gv:Value) (lv:List (Grt × Value)) (l:Lg) (n a g:Nat) (DS:List B8) (T:Int × Dk) (us i:Value) (wr:World):Prop :=
 ∃ (j u:Nat) (vs:List Value) (d:Dk),i=.int .i64 (j:Int)∧us=.int .i64 (u:Int)∧j≤DS.length∧u+sumW (DS.drop j)=sumW DS∧RlM wr base K xm xd sv vs b1 gv lv d l∧Mod (xm::xd::ob sv) w wr∧d.secs.length=n∧Hid (layD d (a+u) g j (DS.drop j)=T)
theorem rcompact_any (h:RlM w base K xm xd sv vs b1 gv lv d l) (hok:l.Ok) (h49:49≤d.secs.length) {t:Int × Dk × Lg} (ht:compactD d l=t) :
 Calls Tryz.prog 30 #[.pointer (some ⟨xm,0,none⟩)] w fun e w'=>e=.returned (.int .i64 t.1)∧∃ vs',RlM w' base K xm xd sv vs' b1 gv lv t.2.1 t.2.2∧Mod (xm::xd::ob sv) w w':=by
 have hdi:=rdies_any h
 obtain ⟨l0,hl0⟩:∃ x,(if d.off=true then deadL l else l)=x:=⟨_,rfl⟩
 rw [hl0] at hdi
 unfold compactD at ht
 by_cases hdead:l.dead=true∨d.off=true
 · have hb:(l.dead||d.off)=true:=by rcases hdead with h | h <;> simp [h]
   rw [hb] at hdi
   have htt:t=(40,d,l0):=by
    rw [← ht,← hl0]
    by_cases h1:l.dead=true
    · rw [if_pos h1]
      split
      · rw [deadL_dead h1]
      · rfl
    · have h2:=hdead.resolve_left h1
      rw [if_neg h1,if_pos h2,if_pos h2]
   subst htt
   clear ht hl0 hb hdead h
   go_enter Tryz.func30,Tryz.ntmps30
   go_wp2_with (go_at_call 64;refine hdi.mono ?_;rintro e w1 ⟨rfl,h1,m1⟩;have H1:=Hj2 h1 m1;clear h1 m1 hdi)
   go_ret
   exact ⟨rfl,vs,H1.out.1,H1.out.2.mono (fun x hx _=>by simp at hx;simp [hx])⟩
 have hd1:l.dead=false:=by cases hx:l.dead <;> simp_all
 have hd2:d.off=false:=by cases hx:d.off <;> simp_all
 rw [if_neg (by rw [hd1];simp),if_neg (by rw [hd2];simp)] at ht
 obtain rfl:l=l0:=by rw [← hl0,if_neg (by rw [hd2];simp)]
 rw [hd1,hd2] at hdi
 obtain ⟨G,hG⟩:∃ x,maxGen l.gen (sideS d.secs (1 - l.area))=x:=⟨_,rfl⟩
 obtain ⟨ot,hot⟩:∃ x,1 - l.area=x:=⟨_,rfl⟩
 have har:=hok.area
 have hsub:(1:Int) - (l.area:Int)=(ot:Int):=by omega
 have hot1:ot≤1:=by omega
 have hwo:IntKind.i64.wrap (ot:Int)=(ot:Int):=IntWalk.i64_in _ (by omega)
 have hnx:=fun {W:World} (hW:RlM W base K xm xd sv vs b1 gv lv d l)=>rnext_any hW h49 hok.genM hok.area hG
 rw [hG,hot] at ht
 have HD:=Hj2 hd1 hok
 clear hG hot hl0 hdead hd1 hd2 har
 by_cases hworn:1073741824≤G
 · rw [if_pos hworn] at ht
   subst ht
   have hwn:decide (1073741824<((G:Int)+1))=true:=by simp;omega
   clear hok hworn h
   go_enter Tryz.func30,Tryz.ntmps30
   go_wp2_with (first
    | (go_at_call 64;refine hdi.mono ?_;rintro e w1 ⟨rfl,h1,m1⟩;have C1:=blk_cell h1.blk;unfold rlC at C1;have hn1:=hnx h1;have H1:=Hj2 h1 m1;clear h1 m1 hdi hnx)
    | (go_at_call 65;refine hn1.mono ?_;rintro e w2 ⟨rfl,-,m2⟩;have H2:=hide m2;clear m2 hn1 C1)
    | fail)
   go_ret
   exact ⟨rfl,vs,H1.out.1.quiet H2.out,((H1.out.2.mono (T:=xm::xd::ob sv) (fun x hx _=>by simp at hx;simp [hx])).trans H2.out (fun _ x _=>x) (fun x hx=>by cases hx))⟩
 rw [if_neg hworn] at ht
 obtain ⟨g,hg⟩:∃ x,G+1=x:=⟨_,rfl⟩
 have hgI:(G:Int)+1=(g:Int):=by omega
 have hwn:decide (1073741824<(g:Int))=false:=by simp;omega
 have hg1:1≤g:=by omega
 have hg2:g≤1073741824:=by omega
 rw [hg] at ht
 obtain ⟨DS,hDS⟩:∃ x,(dumpB l.book).map encB=x:=⟨_,rfl⟩
 obtain ⟨T,hT⟩:∃ x,layD d (1+ot * 24) g 0 DS=x:=⟨_,rfl⟩
 simp only [hDS,hT] at ht
 have hdl:=dump_len l.book hok.book
 have hdw:=dump_width hok.book
 rw [hDS] at hdw
 have hDl:DS.length=(dumpB l.book).length:=by rw [← hDS];simp
 obtain ⟨a,ha⟩:∃ x,1+ot * 24=x:=⟨_,rfl⟩
 rw [ha] at hT
 have haI:(1:Int)+(ot:Int) * 24=(a:Int):=by omega
 have hwa:IntKind.i64.wrap (a:Int)=(a:Int):=IntWalk.i64_in _ (by omega)
 have hwa2:IntKind.i64.wrap ((ot:Int) * 24)=(ot:Int) * 24:=IntWalk.i64_in _ (by omega)
 have ha25:a≤25:=by omega
 obtain ⟨n,hn⟩:∃ x,d.secs.length=x:=⟨_,rfl⟩
 rw [hn] at h49
 have hmay:=may_dump hok.book
 have HT:=Hj6 ht hT hDS hDl hn hmay
 have hvb:=hok.book
 clear ht hT hDS hn hmay hg ha hok hworn
 go_enter Tryz.func30,Tryz.ntmps30
 go_upto_region 10 with (first
  | (go_at_call 64;refine hdi.mono ?_;rintro e w1 ⟨rfl,h1,m1⟩;have C1:=blk_cell h1.blk;unfold rlC at C1;have hn1:=hnx h1;have H1:=Hj2 h1 m1;clear h1 m1 hdi hnx)
  | (go_at_call 65;refine hn1.mono ?_;rintro e w2 ⟨rfl,-,m2⟩;have h2:=H1.out.1.quiet m2;have C2:=blk_cell h2.blk;unfold rlC at C2;have hdp:=rdump_any h2.bk hvb;unfold aggB at hdp;have H2:=Hj2 h2 ((H1.out.2.mono (T:=xm::xd::ob sv) (fun x hx _=>by simp at hx;simp [hx])).trans m2 (fun _ x _=>x) (fun x hx=>by cases hx));clear m2 hn1 C1 h2)
  | (go_at_call 66;refine hdp.mono ?_;rintro e w3 ⟨v3,lr,rfl,hlr,hdm,m3⟩;clear hdp C2)
  | fail)
 obtain ⟨q3,c3,rfl,-⟩:=hdm.shape
 have hlrl:lr.length=DS.length:=by have:=congrArg List.length hlr;simp at this;omega
 rw [hlrl] at hdm ⊢
 have H3:=Hj6 (H2.out.1.quiet m3) (H2.out.2.trans (U:=xm::xd::ob sv) m3 (fun _ x _=>x) (fun x hx=>by cases hx)) hdm hlr hlrl H2.out.1.lts
 have hxm2:=lt_of_block H2.out.1.blk
 have HX2:=hide hxm2
 have hDS8:DS.length≤8:=by omega
 clear hlrl hlr hdm m3 hDl hdl hxm2
 go_wp2_with fail
 go_loopw [6,8] (fun us i wr=>RcRel w3 base K xm xd sv b1 gv lv l n a g DS T us i wr) (fun _ i _=>DS.length - (intOf i).toNat)
 case atStart=>exact ⟨0,0,vs,d,rfl,rfl,Nat.zero_le _,by rw [List.drop_zero];omega,H3.out.1,Mod.refl _ _,HT.out.2.2.2.2.1,hide (by rw [Nat.add_zero,List.drop_zero];exact HT.out.2.1)⟩
 case round =>
  obtain ⟨j,u,vsj,dj,rfl,rfl,hj,hsum,hM,hm,hnj,hin⟩:=hrel
  by_cases hlt:j<DS.length
  · have hDM:=H3.out.2.2.1.mod hm (fun k hk=>.inl (by
     rcases List.mem_cons.1 hk with e | e
     · have:=HX2.out;omega
     · exact H3.out.2.2.2.2.2 k e))
    obtain ⟨rb,rfl,-,hrb,hcs,-,hrs,hno⟩:=hDM.at_ j (by rw [H3.out.2.2.2.2.1];exact hlt)
    have hdr:DS.drop j=DS.getD j []::DS.drop (j+1):=by rw [List.drop_eq_getElem_cons hlt];simp [hlt]
    have hjr:j<lr.length:=by rw [H3.out.2.2.2.2.1];exact hlt
    have hEr:DS.getD j []=encB (lr.getD j default).1:=by
     rw [← HT.out.2.2.1,← H3.out.2.2.2.1]
     simp [hjr]
    have hmr:mayB (lr.getD j default).1=true:=HT.out.2.2.2.2.2 _ (by rw [← H3.out.2.2.2.1];exact List.mem_map.2 ⟨_,by simp [hjr],rfl⟩)
    have hal:=fun (W:World) (m:Mod (xm::xd::ob sv) wr W)=>(show (∀ i,i<12→W.cell? ⟨rb,j * 12+i,none⟩=(encP (lr.getD j default))[i]?)∧RdN W (lr.getD j default).2 (lr.getD j default).1.grant.stamp from by
     obtain ⟨b,e1,-,-,e2,-,e3,-⟩:=(hDM.mod m (fun k hk=>.inl (by
      rcases List.mem_cons.1 hk with e | e
      · have:=HX2.out;omega
      · exact H3.out.2.2.2.2.2 k e))).at_ j hjr
     obtain rfl:rb=b:=by simpa using e1
     exact ⟨e2,e3⟩)
    generalize lr.getD j default=rp at hcs hrs hno hEr hmr hal
    obtain ⟨r,sv'⟩:=rp
    simp only at hrs hno hEr hmr hal
    rw [hEr] at hdr
    have hwd:=enc_width hmr
    have hel:=(enc_len hmr).2
    have hpth:=may_path hmr
    obtain ⟨wd,hwde⟩:∃ x,widthN (encB r).length=x:=⟨_,rfl⟩
    have hsE:sumW (DS.drop j)=wd+sumW (DS.drop (j+1)):=by rw [hdr,← hwde];simp [sumW]
    obtain ⟨T1,hT1⟩:∃ x,putD dj (a+u) g j (encB r)=x:=⟨_,rfl⟩
    have hst:T=if T1.1=0 then layD T1.2 (a+u+wd) g (j+1) (DS.drop (j+1)) else T1:=by
     rw [← hin.out,hdr];conv=>lhs;unfold layD
     rw [hT1,hwde]
    have hln:T1.2.secs.length=n:=by rw [← hT1];unfold putD;rw [writes_len];exact hnj
    have her:T1.1=0∨T1.1=40:=by rw [← hT1];exact writes_err dj (a+u) (packL g j (encB r)) (by rw [packL_len,hwde,hnj];omega) pack_64
    have hlay:=rlayR_any hM (r:=r) (rs:=sv') (rt:=.slice none 0 0) hrs (by rw [hno];exact rdN_nil _) hmr (a+u) g j hg1 hg2 (by omega) (by rw [hwde,hnj];omega) hT1
    have henc:=fun (W:World) (hd:RdN W sv' r.grant.stamp)=>rencode_any (w:=W) (r:=r) (sv:=sv') (tv:=.slice none 0 0) hd (by rw [hno];exact rdN_nil _) (by omega)
    rw [hmr] at henc
    have hwau:IntKind.i64.wrap ((a:Int)+(u:Int))=((a+u:Nat):Int):=(IntWalk.i64_in _ (by omega)).trans (by omega)
    have hwuw:IntKind.i64.wrap ((u:Int)+(wd:Int))=((u+wd:Nat):Int):=(IntWalk.i64_in _ (by omega)).trans (by omega)
    obtain ⟨E,hE⟩:∃ x,encB r=x:=⟨_,rfl⟩
    rw [hE] at henc hel hwde
    obtain ⟨el,hell⟩:∃ x,E.length=x:=⟨_,rfl⟩
    rw [hell] at hel hwde
    have hpt:=fun W=>rparts_any el (by omega) W
    rw [hwde] at hpt
    have hDA:=hM.av
    have HA:=hide hal
    have HS:=Hj5 hst hln hsE hell hm
    have HM:=hide hM
    have henc2:=fun (W:World) (m:Mod (xm::xd::ob sv) wr W)=>henc W (hal W m).2
    unfold aggR cellsR at hlay henc2
    have Y:∀ i,i<12→wr.cell? ⟨rb,j * 12+i,none⟩=(encP (r,sv'))[i]?:=hcs
    unfold encP cellsR at Y
    simp only at Y
    have Y0:=Y 0 (by decide);have Y1:=Y 1 (by decide);have Y2:=Y 2 (by decide);have Y3:=Y 3 (by decide);have Y4:=Y 4 (by decide);have Y5:=Y 5 (by decide);have Y6:=Y 6 (by decide);have Y7:=Y 7 (by decide);have Y8:=Y 8 (by decide);have Y9:=Y 9 (by decide);have Y10:=Y 10 (by decide);have Y11:=Y 11 (by decide)
    simp only [List.getElem?_cons_zero,List.getElem?_cons_succ,Nat.add_zero] at Y0 Y1 Y2 Y3 Y4 Y5 Y6 Y7 Y8 Y9 Y10 Y11
    clear Y hst hln hell hE hT1 hdr hEr hmr hM hm hin hal henc hcs hrs hno hDM hDA hnj hpth hwde
    rcases her with h0 | h40
    · rw [h0,if_pos rfl] at hlay
      have hst:=HS.out.1
      rw [if_pos h0] at hst
      have HST:=hide hst
      clear hst h0
      go_upto_region 14 with (go_at_call 67;refine hlay.mono ?_;rintro e w4 ⟨rfl,vs4,h4,m4⟩;clear Y0 Y1 Y2 Y3 Y4 Y5 Y6 Y7 Y8 Y9 Y10 Y11 hlay)
      have Y:=(HA.out w4 m4).1
      unfold encP cellsR at Y
      simp only at Y
      have Y0:=Y 0 (by decide);have Y1:=Y 1 (by decide);have Y2:=Y 2 (by decide);have Y3:=Y 3 (by decide);have Y4:=Y 4 (by decide);have Y5:=Y 5 (by decide);have Y6:=Y 6 (by decide);have Y7:=Y 7 (by decide);have Y8:=Y 8 (by decide);have Y9:=Y 9 (by decide);have Y10:=Y 10 (by decide);have Y11:=Y 11 (by decide)
      simp only [List.getElem?_cons_zero,List.getElem?_cons_succ,Nat.add_zero] at Y0 Y1 Y2 Y3 Y4 Y5 Y6 Y7 Y8 Y9 Y10 Y11
      have he4:=henc2 w4 m4
      have H4:=Hj2 h4 m4
      clear Y h4 m4 henc2
      go_wp2_with (first
       | (go_at_call 68;refine he4.mono ?_;intro e w5 hq;obtain ⟨p5,c5,rfl,-,m5⟩:=hq.t rfl;rw [HS.out.2.2.2.1];have H5:=hide m5;clear hq m5 he4 Y0 Y1 Y2 Y3 Y4 Y5 Y6 Y7 Y8 Y9 Y10 Y11)
       | (go_at_call 69;refine (hpt _).mono ?_;rintro e w6 ⟨rfl,hw6⟩;rw [hw6];clear hw6 hpt)
       | fail)
      refine ⟨⟨j+1,u+wd,vs4,T1.2,by go_num,by go_num,by omega,by have:=HS.out.2.2.1;omega,H4.out.1.quiet H5.out,(HS.out.2.2.2.2.trans (U:=xm::xd::ob sv) H4.out.2 (fun _ x _=>x) (fun _ x _=>x)).trans H5.out (fun _ x _=>x) (fun x hx=>by cases hx),HS.out.2.1,hide ?_⟩,by simp [intOf];omega⟩
      rw [HST.out,Nat.add_assoc]
    · have hne:¬ T1.1=0:=by omega
      rw [h40,if_neg (by decide)] at hlay
      have hst:=HS.out.1
      rw [if_neg hne] at hst
      have HST:=Hj2 hst h40
      clear hst hne h40
      go_wp2_with (go_at_call 67;refine hlay.mono ?_;rintro e w4 ⟨rfl,vs4,h4,m4⟩;have H4:=Hj2 h4 m4;clear Y0 Y1 Y2 Y3 Y4 Y5 Y6 Y7 Y8 Y9 Y10 Y11 hlay h4 m4)
      go_ret
      have htt:=HT.out.1
      rw [HST.out.1,if_pos (by rw [HST.out.2];decide),HST.out.2] at htt
      rw [← htt]
      exact ⟨rfl,vs4,H4.out.1,(H3.out.2.1.trans (U:=xm::xd::ob sv) HS.out.2.2.2.2 (fun _ x _=>x) (fun _ x _=>x)).trans H4.out.2 (fun _ x _=>x) (fun _ x _=>x)⟩
  · obtain rfl:j=DS.length:=by omega
    have hin2:=hin.out
    rw [List.drop_length] at hin2 hsum
    have hu:u=sumW DS:=by simpa [sumW] using hsum
    have hT:T=(0,dj):=hin2.symm
    obtain ⟨N,hN⟩:∃ x,nameD dj g ot=x:=⟨_,rfl⟩
    have her:N.1=0∨N.1=40:=by rw [← hN];exact write_err dj 0 _ (by rw [hnj];omega) (packOne_len (by simp))
    have hnm:=rnames_any hM g ot hg1 hg2 hot1
    rw [hN] at hnm
    have htt:=HT.out.1
    rw [hT,if_neg (by simp),hN] at htt
    have HE:=Hj4 htt hu hm (H3.out.2.1)
    have HD1:=HD.out.1
    clear htt hu hm hT hN hin hin2 hsum hM hnj
    rcases her with h0 | h40
    · rw [h0] at hnm
      have htt:=HE.out.1
      rw [if_neg (by omega)] at htt
      have HTT:=hide htt
      clear htt h0
      obtain ⟨qg,cg,rfl,-⟩:=H3.out.1.bk.gr.shape
      go_upto_region 22 with (go_at_call 63;refine hnm.mono ?_;rintro e w4 ⟨rfl,vs4,h4,m4⟩;have C4:=blk_cell h4.blk;have F4:=blk_free h4.blk;have L4:=lt_of_block h4.blk;unfold rlC at C4;have H4:=Hj2 h4 m4;clear hnm h4 m4)
      go_wp2_with fail
      go_ret
      have ms:∀ (v2 v3 v4 v5 v6 v7 v8 v9:Value),Mod [xm] w4 ((((((((w4.setCell ⟨xm,2,none⟩ v2).setCell ⟨xm,3,none⟩ v3).setCell ⟨xm,4,none⟩ v4).setCell ⟨xm,5,none⟩ v5).setCell ⟨xm,6,none⟩ v6).setCell ⟨xm,7,none⟩ v7).setCell ⟨xm,8,none⟩ v8).setCell ⟨xm,9,none⟩ v9):=fun _ _ _ _ _ _ _ _ =>
       ((((((((Mod.refl _ _).setCell (fun _=>by simp) _).setCell (fun _=>by simp) _).setCell (fun _=>by simp) _).setCell (fun _=>by simp) _).setCell (fun _=>by simp) _).setCell (fun _=>by simp) _).setCell (fun _=>by simp) _).setCell (fun _=>by simp) _
      have ms':=ms (.int .i64 (g:Int)) (.int .i64 (ot:Int)) (.int .i64 (DS.length:Int)) (.int .i64 (u:Int)) (.int .i64 l.book.next) (.int .i64 l.book.boots) (.int .i64 l.book.longest) (.slice qg lv.length cg)
      rw [← HTT.out]
      refine ⟨rfl,vs4,H4.out.1.own ?_ ms' rfl,?_⟩
      · have B:=blk_set (blk_set (blk_set (blk_set (blk_set (blk_set (blk_set (blk_set H4.out.1.blk 2 (.int .i64 (g:Int))) 3 (.int .i64 (ot:Int))) 4 (.int .i64 (DS.length:Int))) 5 (.int .i64 (u:Int))) 6 (.int .i64 l.book.next)) 7 (.int .i64 l.book.boots)) 8 (.int .i64 l.book.longest)) 9 (.slice qg lv.length cg)
        rw [HE.out.2.1,HT.out.2.2.2.1] at B ⊢
        rw [rlC_set] at B
        exact B
      · exact ((HE.out.2.2.2.trans (U:=xm::xd::ob sv) HE.out.2.2.1 (fun _ x _=>x) (fun _ x _=>x)).trans H4.out.2 (fun _ x _=>x) (fun x hx _=>List.mem_cons_of_mem _ hx)).trans ms' (fun _ x _=>x) (fun x hx _=>by simp at hx;simp [hx])
    · rw [h40] at hnm
      have htt:=HE.out.1
      rw [if_pos (by omega),h40] at htt
      have HTT:=hide htt
      clear htt h40
      go_wp2_with (go_at_call 63;refine hnm.mono ?_;rintro e w4 ⟨rfl,vs4,h4,m4⟩;have C4:=blk_cell h4.blk;have F4:=blk_free h4.blk;have L4:=lt_of_block h4.blk;unfold rlC at C4;have H4:=Hj2 h4 m4;clear hnm h4 m4)
      go_ret
      have ms:Mod [xm] w4 (w4.setCell ⟨xm,1,none⟩ (.bool true)):=(Mod.refl _ _).setCell (fun _=>by simp) _
      rw [← HTT.out]
      refine ⟨rfl,vs4,H4.out.1.own (l':=deadL l) (blk_set H4.out.1.blk 1 _) ms rfl,?_⟩
      exact ((HE.out.2.2.2.trans (U:=xm::xd::ob sv) HE.out.2.2.1 (fun _ x _=>x) (fun _ x _=>x)).trans H4.out.2 (fun _ x _=>x) (fun x hx _=>List.mem_cons_of_mem _ hx)).trans ms (fun _ x _=>x) (fun x hx _=>by simp at hx;simp [hx])
end
end Go.Proofs.YtpphoeimakjjdaaGreatDoor
/-
  WALKS: the document's layer 12: Append.
-/
namespace Go.Proofs.YtpphoeimakjjdaaGreatDoor
set_option maxRecDepth 100000
set_option maxHeartbeats 4000000
open Go.RowKit

theorem RdN.mod_ne {w w':World} {v:Value} {m:List Int} (h:RdN w v m) {S:List Nat} (md:Mod S w w') (h1:m≠[]→∀ k,k∈ob v→k ∉ S):RdN w' v m:=by
 by_cases e:m=[]
 · subst e
   obtain ⟨p,c,rfl⟩:=h.len
   exact ⟨h.1,.inl ⟨p,c,rfl,rfl⟩⟩
 · exact h.mod md (h1 e)
theorem RdN.lt0 {w:World} {v:Value} {m:List Int} (h:RdN w v m) (hm:m≠[]):∀ k,k∈ob v→k<w.heap.size:=by
 intro k hk
 rcases h.2 with ⟨p,c,rfl,rfl⟩ | ⟨b,off,cap,rfl,hb,_⟩
 · exact absurd rfl hm
 · simp [ob,Value.ownBlock] at hk
   omega

theorem rlC_set2 (xd:Nat) (l:Lg) (gv gv':Value) (g ot a u:Nat) (c:Bk):((((((((rlC xd l gv).setIfInBounds 2 (.int .i64 (g:Int))).setIfInBounds 3 (.int .i64 (ot:Int))).setIfInBounds 4 (.int .i64 (a:Int))).setIfInBounds 5 (.int .i64 (u:Int))).setIfInBounds 6 (.int .i64 c.next)).setIfInBounds 7 (.int .i64 c.boots)).setIfInBounds 8 (.int .i64 c.longest)).setIfInBounds 9 gv'=rlC xd { gen:=g,area:=ot,seq:=a,used:=u,book:=c,dead:=l.dead } gv':=by
 simp [rlC]
theorem put_off {d:Dk} (h:d.off=true) (a g q:Nat) (b:B8):putD d a g q b=(40,d):=by
 unfold putD
 have hl:=packL_len g q b
 have hw:=width_pos b.length
 cases hp:packL g q b with
 | nil=>rw [hp] at hl;simp at hl;omega
 | cons x y =>
   have e:writeD d a x=(40,d):=by unfold writeD;rw [if_pos h]
   unfold writesD
   rw [e,if_neg (by simp)]
theorem add_off {d:Dk} {l:Lg} (h:d.off=true) (c:Bk) (b:B8):addD d l c b=(40,d,deadL l):=by
 unfold addD
 rw [put_off h]
 simp
theorem app_off {d:Dk} {l:Lg} (hd:l.dead=false) (h:d.off=true) {c c2:Bk} {b b2:B8} {n:Nat}:(if 24<n then (if (compactD d l).1≠0 then compactD d l else addD (compactD d l).2.1 (compactD d l).2.2 c b) else addD d l c2 b2)=(40,d,deadL l):=by
 have hc:compactD d l=(40,d,deadL l):=by unfold compactD;rw [if_neg (by rw [hd];simp),if_pos h]
 rw [hc,add_off h,add_off h]
 simp
section
variable {w:World} {base xm xd b1:Nat} {K:List Nat} {sv gv:Value} {vs:List Value} {lv:List (Grt × Value)} {d:Dk} {l:Lg}
theorem RlM.newb {w':World} (h:RlM w base K xm xd sv vs b1 gv lv d l) {l':Lg} {b2:Nat} {gv':Value} {lv':List (Grt × Value)} (hb:w'.heap[xm]?=some (.cells (rlC xd l' gv') 105 (0,0))) (m:Mod [xm] w w') (bk:BkM w' b2 gv' l'.book lv') (h1:xm<b2) (h2:xd<b2) (h3:∀ k,k∈ob sv→k<b2) (h4:∀ k,k∈K→k<b2):RlM w' base K xm xd sv vs b2 gv' lv' d l':=by
 have hm:=h.av xm List.mem_cons_self
 refine ⟨hb,⟨m.at_ h.dm.blk (by simp;exact fun e=>hm.2.1 e.symm),⟨m.row h.dm.rows.row (fun k hk e=>by simp at e;rw [e] at hk;exact hm.2.2.1 (by simpa [ob] using hk)),fun i hi=>(h.dm.rows.el i hi).mod m (fun k hk e=>by simp at e;rw [e] at hk;exact hm.2.2.2 i hi hk),h.dm.rows.apart⟩,h.dm.ap,h.dm.ok⟩,fun k hk=>⟨Nat.lt_of_lt_of_le (h.av k hk).1 m.size,(h.av k hk).2⟩,bk,⟨h.lo.1,h1,h2,h3,h.lo.2.2.2.2.1,h4⟩⟩
def RaRel (w:World) (A:Bk × Int) (s5 s6:Value) (wx:World):Prop :=
 ∃ (pb n:Nat) (q:Option Addr) (c:Nat) (lv:List (Grt × Value)),s5=.pointer (some ⟨pb,0,none⟩)∧s6=.int .i64 A.2∧w.heap.size≤pb∧pb<wx.heap.size∧Mod [] w wx∧wx.heap[pb]?=some (.cells #[.int .i64 A.1.next,.int .i64 A.1.boots,.int .i64 A.1.longest,.slice q n c] 34 (0,0))∧BkM wx w.heap.size (.slice q n c) A.1 lv
theorem rappend_any (h:RlM w base K xm xd sv vs b1 gv lv d l) (hok:l.Ok) (h49:49≤d.secs.length) {r:Rcd} {rs rt:Value} (hs:RdN w rs r.grant.stamp) (ht:RdN w rt r.stamp) (hp:r.grant.path.size≤9223372036854775806) (has:r.grant.stamp≠[]→∀ k,k∈ob rs→k ∉ xm::xd::ob sv) (hat:r.stamp≠[]→∀ k,k∈ob rt→k ∉ xm::xd::ob sv) {t:Int × Dk × Lg} (hT:appendD d l r=t) :
 Calls Tryz.prog 33 #[.pointer (some ⟨xm,0,none⟩),aggR r rs rt] w fun e w'=>e=.returned (.int .i64 t.1)∧∃ vs' b1' gv' lv',RlM w' base K xm xd sv vs' b1' gv' lv' t.2.1 t.2.2∧Mod (xm::xd::ob sv) w w':=by
 have hsm:=valid_small hok.book h.bk.eq
 obtain ⟨q1,c1,rfl⟩:=hs.len
 obtain ⟨q2,c2,rfl⟩:=ht.len
 obtain ⟨n1,hn1⟩:∃ n,r.grant.stamp.length=n:=⟨_,rfl⟩
 obtain ⟨n2,hn2⟩:∃ n,r.stamp.length=n:=⟨_,rfl⟩
 rw [hn1] at hs has ⊢
 rw [hn2] at ht hat ⊢
 unfold aggR cellsR
 obtain ⟨W0,hW0⟩:∃ W0,W0=w.alloc (.cells #[.int .i64 r.kind,.int .i64 r.grant.id,.int .i64 r.grant.holder,.string r.grant.path,.int .i64 r.grant.mode,.slice q1 n1 c1,.int .i64 r.grant.term,.int .i64 r.id,.slice q2 n2 c2,.int .i64 r.next,.int .i64 r.boots,.int .i64 r.longest] 42 (0,0)):=⟨_,rfl⟩
 have hr0:=heap_alloc_new w (.cells #[.int .i64 r.kind,.int .i64 r.grant.id,.int .i64 r.grant.holder,.string r.grant.path,.int .i64 r.grant.mode,.slice q1 n1 c1,.int .i64 r.grant.term,.int .i64 r.id,.slice q2 n2 c2,.int .i64 r.next,.int .i64 r.boots,.int .i64 r.longest] 42 (0,0))
 rw [← hW0] at hr0
 have m0:Mod [] w W0:=by rw [hW0];exact (Mod.refl _ _).alloc _
 have H0:=Hj3 (h.quiet m0) m0 hr0
 have C0:=blk_cell (h.quiet m0).blk
 unfold rlC at C0
 unfold appendD at hT
 by_cases hd:l.dead=true
 · rw [if_pos hd] at hT
   subst hT
   rw [hd] at C0
   clear h hok hs ht hp has hat hsm m0 hr0 hd hn1 hn2
   go_enter Tryz.func33,Tryz.ntmps33
   go_upto_region 1 with fail
   rw [← hW0]
   clear hW0
   go_wp2_with fail
   go_ret
   exact ⟨rfl,vs,b1,gv,lv,H0.out.1,H0.out.2.1.mono (by simp)⟩
 have hd0:l.dead=false:=by cases hx:l.dead <;> simp_all
 rw [if_neg hd] at hT
 rw [hd0] at C0
 clear hd
 have hap:=fun (W:World) (m:Mod [] W0 W)=>rapply_any ((h.quiet m0).quiet m).bk (fun p hp=>by have:=(hsm.2 p hp).2;omega) ((hs.mod m0 (by simp)).mod m (by simp)) ((ht.mod m0 (by simp)).mod m (by simp)) hp
 obtain ⟨A,hA⟩:∃ A,applyB l.book r=A:=⟨_,rfl⟩
 rw [hA] at hT hap
 unfold AppTo aggB aggR cellsR at hap
 obtain ⟨qg,cg,rfl,-⟩:=h.bk.gr.shape
 have hlt:=h.lts
 have hK:=h.av
 have hlo:=h.lo
 have HC:=hide (fun W (m:Mod [] W0 W)=>And.intro (blk_cell (m.at_ H0.out.1.blk (by simp))) (blk_cell (m.at_ hr0 (by simp))))
 have hbl:=lt_of_block hr0
 have hz0:=m0.size
 have HA:=Hj8 hA hT hok hd0 hlt hK hlo hsm
 have HS:=Hj5 hs ht hp has hat
 have HN:=Hj2 hn1 hn2
 clear hA hT hok hlt hK hlo h hs ht hp has hat hsm hn1 hn2 m0 hr0 hd0
 go_enter Tryz.func33,Tryz.ntmps33
 go_upto_region 1 with fail
 rw [← hW0]
 clear hW0
 go_upto_region 3 with fail
 go_cut [5,6] (fun s5 s6 wx=>RaRel W0 A s5 s6 wx)
 case first =>
  refine pB 999 (Mod [] W0) ((Mod.refl [] W0).drew) ?_
  refine pP 0 ?_;refine pP 1 ?_;refine pP 2 ?_;refine pP 3 ?_
  refine pH 4 rfl (fun w h=>by have D:=(HC.out _ h).1;unfold rlC at D;go_simp;try with_reducible rfl) ?_
  refine pH 5 rfl (fun w h=>by have D:=(HC.out _ h).2;go_simp;try with_reducible rfl) ?_
  refine pX2 6 10 (fun hT KK HK=>?_) (fun hT KK HK=>?_)
  · go_simp
    refine (hap _ hT).mono ?_;rintro e w9 ⟨gv9,lv9,rfl,hb9,m9⟩
    obtain ⟨q9,c9,rfl,-⟩:=hb9.gr.shape
    obtain ⟨n9,hn9⟩:∃ n,lv9.length=n:=⟨_,rfl⟩
    rw [hn9] at hb9 ⊢
    have hs0:=hT.size
    have H9:=Hj3 hb9 (hT.then m9) hs0
    refine HK.out _ _ _ (hT.then m9) ?_
    clear HK KK hT hb9 m9 hn9 hap
    refine pP 7 ?_;refine pP 8 ?_;refine pP 9 ?_
    refine pX 10 fun hT KK HK=>?_
    go_simp
    obtain ⟨W10,hW10⟩:∃ W10,W10=w9.alloc (.cells #[.int .i64 0,.int .i64 0,.int .i64 0,.slice none 0 0] 34 (0,0)):=⟨_,rfl⟩
    have hk10:W10.heap[w9.heap.size]?=some (.cells #[.int .i64 0,.int .i64 0,.int .i64 0,.slice none 0 0] 34 (0,0)):=by rw [hW10];exact heap_alloc_new _ _
    have m10:Mod [] w9 W10:=by rw [hW10];exact (Mod.refl _ _).alloc _
    rw [← hW10]
    have H10:=Hj2 hk10 m10
    clear hW10 hk10 m10
    refine HK.out _ _ _ (hT.then H10.out.2) ?_
    clear HK KK hT
    refine pX 11 fun hT KK HK=>?_
    have C10:=blk_cell H10.out.1
    have F10:=blk_free H10.out.1
    have L10:=lt_of_block H10.out.1
    go_simp
    obtain ⟨W11,hW11⟩:∃ W11,W11=stL W10 w9.heap.size 0 [.int .i64 A.1.next,.int .i64 A.1.boots,.int .i64 A.1.longest,.slice q9 n9 c9]:=⟨_,rfl⟩
    have hb11:=stL_all H10.out.1 [.int .i64 A.1.next,.int .i64 A.1.boots,.int .i64 A.1.longest,.slice q9 n9 c9] rfl
    have m11:Mod [w9.heap.size] W10 (stL W10 w9.heap.size 0 [.int .i64 A.1.next,.int .i64 A.1.boots,.int .i64 A.1.longest,.slice q9 n9 c9]):=stL_mod (fun _=>by simp) [.int .i64 A.1.next,.int .i64 A.1.boots,.int .i64 A.1.longest,.slice q9 n9 c9] 0 _ (Mod.refl _ _)
    rw [← hW11] at hb11 m11
    simp only [stL,Nat.zero_add,Nat.reduceAdd] at hW11
    rw [← hW11]
    have hm9:Mod [] w9 W11:=mod_fresh H10.out.2 m11 (by simp)
    have hm11:Mod [] W0 W11:=H9.out.2.1.then hm9
    have HREL:Hid (RaRel W0 A (.pointer (some ⟨w9.heap.size,0,none⟩)) (.int .i64 A.2) W11):=hide
     ⟨w9.heap.size,n9,q9,c9,lv9,rfl,rfl,H9.out.2.1.size,lt_of_block hb11,hm11,hb11,(H9.out.1.gr.mod hm9 (by simp)).base H9.out.2.2,H9.out.1.eq⟩
    refine HK.out _ _ _ hm11 ?_
    clear HK KK hT hm11 m11 hb11 hW11 C10 F10 L10 hm9
    refine pP 12 ?_
    refine pE fun hT=>?_
    clear hT
    go_wp2_with fail
    go_meet
    case rel=>exact HREL.out
  · go_simp
    obtain ⟨W10,hW10⟩:∃ W10,W10=(W0.alloc (.cells #[.int .i64 0,.int .i64 0,.int .i64 0,.slice none 0 0] 34 (0,0))).drew:=⟨_,rfl⟩
    have hk10:W10.heap[W0.heap.size]?=some (.cells #[.int .i64 0,.int .i64 0,.int .i64 0,.slice none 0 0] 34 (0,0)):=by rw [hW10];exact heap_alloc_new _ _
    have m10:Mod [] W0 W10:=by rw [hW10];exact ((Mod.refl _ _).alloc _).drew
    have hz10:W10.heap.size=W0.heap.size+1:=by rw [hW10];simp
    rw [← hW10]
    have H10:=Hj3 hk10 m10 hz10
    clear hW10 hk10 m10 hz10
    refine HK.out _ _ _ H10.out.2.1 ?_
    clear HK KK hT
    refine pX 6 fun hT KK HK=>?_
    go_simp
    refine (hap _ H10.out.2.1).mono ?_;rintro e w9 ⟨gv9,lv9,rfl,hb9,m9⟩
    obtain ⟨q9,c9,rfl,-⟩:=hb9.gr.shape
    obtain ⟨n9,hn9⟩:∃ n,lv9.length=n:=⟨_,rfl⟩
    rw [hn9] at hb9 ⊢
    have H9:=Hj3 hb9 (H10.out.2.1.then m9) (m9.at_ H10.out.1 (by simp))
    refine HK.out _ _ _ (H10.out.2.1.then m9) ?_
    clear HK KK hT hb9 m9 hn9 hap
    refine pP 7 ?_;refine pP 8 ?_;refine pP 9 ?_
    refine pX 11 fun hT KK HK=>?_
    have C10:=blk_cell H9.out.2.2
    have F10:=blk_free H9.out.2.2
    have L10:=lt_of_block H9.out.2.2
    go_simp
    obtain ⟨W11,hW11⟩:∃ W11,W11=stL w9 W0.heap.size 0 [.int .i64 A.1.next,.int .i64 A.1.boots,.int .i64 A.1.longest,.slice q9 n9 c9]:=⟨_,rfl⟩
    have hb11:=stL_all H9.out.2.2 [.int .i64 A.1.next,.int .i64 A.1.boots,.int .i64 A.1.longest,.slice q9 n9 c9] rfl
    have m11:Mod [W0.heap.size] w9 (stL w9 W0.heap.size 0 [.int .i64 A.1.next,.int .i64 A.1.boots,.int .i64 A.1.longest,.slice q9 n9 c9]):=stL_mod (fun _=>by simp) [.int .i64 A.1.next,.int .i64 A.1.boots,.int .i64 A.1.longest,.slice q9 n9 c9] 0 _ (Mod.refl _ _)
    rw [← hW11] at hb11 m11
    simp only [stL,Nat.zero_add,Nat.reduceAdd] at hW11
    rw [← hW11]
    have hm11:Mod [] W0 W11:=mod_fresh H9.out.2.1 m11 (by simp)
    have hz10:=H10.out.2.2
    have HREL:Hid (RaRel W0 A (.pointer (some ⟨W0.heap.size,0,none⟩)) (.int .i64 A.2) W11):=hide
     ⟨W0.heap.size,n9,q9,c9,lv9,rfl,rfl,Nat.le_refl _,lt_of_block hb11,hm11,hb11,(H9.out.1.gr.mod m11 (fun k hk=>.inl (by simp at hk;omega))).base (by omega),H9.out.1.eq⟩
    refine HK.out _ _ _ hm11 ?_
    clear HK KK hT hm11 m11 hb11 hW11 C10 F10 L10 hz10
    refine pP 12 ?_
    refine pE fun hT=>?_
    clear hT
    go_wp2_with fail
    go_meet
    case rel=>exact HREL.out
 case rest =>
  obtain ⟨A1,a⟩:=A
  unfold RaRel at hcut
  simp only at hcut
  obtain ⟨pb,n9,q9,c9,lv9,rfl,rfl,hpb,hpb2,m3,hbb,hb3⟩:=hcut
  obtain ⟨w3,rfl⟩:∃ x:World,x=wc:=⟨_,rfl⟩
  have hr3:=H0.out.1.quiet m3
  have C3:=blk_cell hr3.blk
  unfold rlC at C3
  rw [HA.out.2.2.2.1] at C3
  clear C0 hap
  by_cases ha:a=0
  · subst ha
    obtain ⟨-,-,-,hV,hmay,-⟩:=apply_ok (show (applyB l.book r).2=0 by rw [HA.out.1])
    have hdi:=rdies_any hr3
    rw [HA.out.2.2.2.1,Bool.false_or] at hdi
    have hfr:∀ k,k∈xm::xd::ob sv→k<w.heap.size:=fun k hk=>by
     rcases List.mem_cons.1 hk with rfl | e
     · exact (HA.out.2.2.2.2.2.1 k List.mem_cons_self).1
     · exact HA.out.2.2.2.2.1 k e
    have HF:=hide hfr
    have HB:=hide (fun (W:World) (m:Mod (xm::xd::ob sv) w3 W)=>And.intro (blk_cell (m.at_ (m3.at_ H0.out.2.2 (by simp)) (fun e=>by have:=HF.out _ e;omega))) (And.intro (m.at_ hbb (fun e=>by have:=HF.out _ e;have:=hz0;omega)) (And.intro ((((HS.out.1.mod H0.out.2.1 (by simp)).mod m3 (by simp))).mod_ne m HS.out.2.2.2.1) (And.intro ((((HS.out.2.1.mod H0.out.2.1 (by simp)).mod m3 (by simp))).mod_ne m HS.out.2.2.2.2) (show BkM W w.heap.size (.slice q9 n9 c9) A1 lv9 from ⟨(hb3.gr.base hz0).mod m (fun k hk=>.inl (HF.out k hk)),hb3.eq⟩)))))
    have H3:=Hj6 hr3 m3 hV hmay hpb hpb2
    clear hr3 m3 hV hpb hpb2 hbb hb3
    have ht:=HA.out.2.1
    rw [if_neg (by simp)] at ht
    simp only at ht
    by_cases hoff:d.off=true
    · rw [app_off HA.out.2.2.2.1 hoff] at ht
      rw [hoff,if_pos rfl] at hdi
      have HTT:=hide ht
      clear hmay ht hoff hfr
      go_wp2_with (go_at_call 64;refine hdi.mono ?_;rintro e w4 ⟨rfl,h4,m4⟩;have H4:=Hj2 h4 m4;clear h4 m4 hdi)
      go_ret
      rw [← HTT.out]
      exact ⟨rfl,vs,b1,_,lv,H4.out.1,((H0.out.2.1.then H3.out.2.1).mono (by simp)).trans H4.out.2 (fun _ x _=>x) (fun x hx _=>by simp at hx;simp [hx])⟩
    have hoff0:d.off=false:=by cases hx:d.off <;> simp_all
    rw [hoff0,if_neg (by simp)] at hdi
    have hel:=(enc_len hmay).2
    have hwd:=enc_width hmay
    have hen:=fun (W:World) (m:Mod (xm::xd::ob sv) w3 W)=>rencode_any (r:=r) (HB.out W m).2.2.1 (HB.out W m).2.2.2.1 HS.out.2.2.1
    rw [hmay] at hen
    unfold aggR cellsR at hen
    obtain ⟨E,hE⟩:∃ E,encB r=E:=⟨_,rfl⟩
    rw [hE] at hel hwd ht hen
    obtain ⟨wd,hwde⟩:∃ n,widthN E.length=n:=⟨_,rfl⟩
    obtain ⟨el,hell⟩:∃ n,E.length=n:=⟨_,rfl⟩
    rw [hell] at hel hwde
    rw [hell,hwde] at hwd
    have hpt:=fun W=>rparts_any el (by omega) W
    rw [hwde] at hpt
    have hu:=HA.out.2.2.1.used
    have hwuw:IntKind.i64.wrap ((l.used:Int)+(wd:Int))=((l.used+wd:Nat):Int):=(IntWalk.i64_in _ (by omega)).trans (by omega)
    have HE:=Hj3 hE hell hwde
    have HTT:=hide ht
    clear hE hell hwde ht hmay hfr hoff
    by_cases hbig:24<l.used+wd
    · have hgg:decide ((24:Int)<((l.used+wd:Nat):Int))=true:=by simp;omega
      have hg3:decide ((24:Int)<(l.used:Int)+(wd:Int))=true:=by simp;omega
      have hcl:=comp_len d l
      have hcz:=comp_zero (d:=d) HA.out.2.2.1
      obtain ⟨C,hC⟩:∃ x,compactD d l=x:=⟨_,rfl⟩
      have hcm:=fun (W:World) (hr:RlM W base K xm xd sv vs b1 (.slice qg lv.length cg) lv d l)=>rcompact_any hr HA.out.2.2.1 h49 hC
      have hadd0:=HTT.out
      rw [HE.out.2.1,HE.out.2.2,if_pos hbig,hC] at hadd0
      rw [hC] at hcl hcz
      clear hC
      obtain ⟨ce,d2,l2⟩:=C
      simp only at hcl hcz hadd0 hcm
      by_cases hce:ce=0
      · subst hce
        obtain ⟨gn,ar,sq,us,hl2,h21,h22,h23,h24,h25⟩:=hcz rfl
        have hd2:l2.dead=false:=by rw [hl2]
        have hg1:1≤l2.gen:=by rw [hl2];exact h21
        have hg2:l2.gen≤1073741824:=by rw [hl2];exact h22
        have har:l2.area≤1:=by rw [hl2];exact h23
        have hsq:l2.seq≤l2.used:=by rw [hl2];exact h24
        have hu2:l2.used≤16:=by rw [hl2];exact h25
        have hln:49≤d2.secs.length:=by omega
        rw [if_neg (by simp)] at hadd0
        have HAD0:=hide hadd0
        clear hadd0 hcz hcl hbig hl2 h21 h22 h23 h24 h25
        go_upto_region 14 with (first
         | (go_at_call 64;refine hdi.mono ?_;rintro e w4 ⟨rfl,h4,m4⟩;have m34:=m4.mono (T:=xm::xd::ob sv) (fun x hx _=>by simp at hx;simp [hx]);have he4:=hen w4 m34;have D4:=(HB.out w4 m34).1;have C4:=blk_cell h4.blk;unfold rlC at C4;rw [HA.out.2.2.2.1] at C4;have H4:=Hj2 h4 m34;clear h4 m4 m34 hdi hen C3)
         | (go_at_call 68;refine he4.mono ?_;intro e w5 hq;obtain ⟨p5,c5,rfl,-,m5⟩:=hq.t rfl;rw [HE.out.2.1];have h5:=H4.out.1.quiet m5;have C5:=blk_cell h5.blk;unfold rlC at C5;rw [HA.out.2.2.2.1] at C5;have hc5:=hcm _ h5;have H5:=Hj2 h5 (H4.out.2.trans (U:=xm::xd::ob sv) m5 (fun _ x _=>x) (fun x hx=>by cases hx));clear h5 hq m5 he4 C4 D4 hcm)
         | (go_at_call 69;refine (hpt _).mono ?_;rintro e w6 ⟨rfl,hw6⟩;rw [hw6];clear hw6 hpt)
         | (go_at_call 30;refine hc5.mono ?_;rintro e w8 ⟨rfl,vs8,h8,m8⟩;have C8:=blk_cell h8.blk;unfold rlC at C8;rw [hd2] at C8;have H8:=Hj2 h8 (H5.out.2.trans (U:=xm::xd::ob sv) m8 (fun _ x _=>x) (fun _ x _=>x));clear h8 m8 hc5 C5)
         | fail)
        go_upto_region 15 with fail
        have HW:=Hj3 H8.out.1 H8.out.2 HAD0.out
        clear H8 HAD0 C8 hwuw hgg hg3
        obtain ⟨at_,hat_⟩:∃ x,1+l2.area * 24+l2.used=x:=⟨_,rfl⟩
        have hwa:IntKind.i64.wrap ((l2.area:Int) * 24)=(l2.area:Int) * 24:=IntWalk.i64_in _ (by omega)
        have hwa1:IntKind.i64.wrap (1+(l2.area:Int) * 24)=1+(l2.area:Int) * 24:=IntWalk.i64_in _ (by omega)
        have hwa2:IntKind.i64.wrap (1+(l2.area:Int) * 24+(l2.used:Int))=(at_:Int):=(IntWalk.i64_in _ (by omega)).trans (by omega)
        have hws:IntKind.i64.wrap ((l2.seq:Int)+1)=((l2.seq+1:Nat):Int):=(IntWalk.i64_in _ (by omega)).trans (by omega)
        have hwu:IntKind.i64.wrap ((l2.used:Int)+(wd:Int))=((l2.used+wd:Nat):Int):=(IntWalk.i64_in _ (by omega)).trans (by omega)
        obtain ⟨T,hT1⟩:∃ x,putD d2 at_ l2.gen l2.seq E=x:=⟨_,rfl⟩
        have her:T.1=0∨T.1=40:=by rw [← hT1];exact writes_err d2 at_ (packL l2.gen l2.seq E) (by rw [packL_len,HE.out.2.1,HE.out.2.2];omega) pack_64
        have hadd:=HW.out.2.2
        unfold addD at hadd
        rw [hat_,hT1,HE.out.2.1,HE.out.2.2] at hadd
        simp only at hadd
        obtain ⟨W6,hW6⟩:∃ W6,W6=w8.alloc (.cells #[.int .i64 (l2.gen:Int),.int .i64 (l2.area:Int),.int .i64 (l2.seq:Int),.int .i64 (l2.used:Int),.int .i64 l2.book.next,.int .i64 l2.book.boots,.int .i64 l2.book.longest,.slice qg lv.length cg] 103 (0,0)):=⟨_,rfl⟩
        have hk6:=heap_alloc_new w8 (.cells #[.int .i64 (l2.gen:Int),.int .i64 (l2.area:Int),.int .i64 (l2.seq:Int),.int .i64 (l2.used:Int),.int .i64 l2.book.next,.int .i64 l2.book.boots,.int .i64 l2.book.longest,.slice qg lv.length cg] 103 (0,0))
        have m6:Mod [] w8 W6:=by rw [hW6];exact (Mod.refl _ _).alloc _
        rw [← hW6] at hk6 ⊢
        have hz5:=HW.out.2.1.size
        have hz3:=H3.out.2.1.size
        have hm36:=HW.out.2.1.trans (U:=xm::xd::ob sv) m6 (fun _ x _=>x) (fun x hx=>by cases hx)
        have hlay:=rlayR_any (T:=T) (HW.out.1.quiet m6) (HB.out W6 hm36).2.2.1 (HB.out W6 hm36).2.2.2.1 H3.out.2.2.2.1 at_ l2.gen l2.seq hg1 hg2 (by omega) (by rw [HE.out.1,HE.out.2.1,HE.out.2.2];omega) (by rw [HE.out.1];exact hT1)
        unfold aggR cellsR at hlay
        have B6:=blk_cell hk6
        have D6:=(HB.out W6 hm36).1
        have HX:=Hj4 hk6 hm36 (show w.heap.size≤w8.heap.size by omega) (show ∀ k,k∈xm::xd::ob sv→k≠w8.heap.size from fun k hk e=>by have:=HF.out k hk;omega)
        clear hW6 hk6 m6 hz5 hz3 hm36 hT1 hat_ HTT
        rcases her with h0 | h40
        · rw [h0] at hlay
          rw [h0,if_neg (by simp)] at hadd
          rw [if_pos rfl] at hlay
          have HAD:=hide hadd
          clear hadd h0
          go_upto_region 18 with (go_at_call 67;refine hlay.mono ?_;rintro e w7 ⟨rfl,vs7,h7,m7⟩;have m37:=HX.out.2.1.trans (U:=xm::xd::ob sv) m7 (fun _ x _=>x) (fun _ x _=>x);have B7:=blk_cell (m7.at_ HX.out.1 (fun e=>HX.out.2.2.2 _ e rfl));have D7:=blk_cell (HB.out w7 m37).2.1;have C7:=blk_cell h7.blk;unfold rlC at C7;have F7:=blk_free h7.blk;have L7:=lt_of_block h7.blk;have H7:=Hj2 h7 m37;clear hlay h7 m7 m37 B6 D6)
          go_wp2_with fail
          go_ret
          have e1:(l2.seq:Int)+1=((l2.seq+1:Nat):Int):=by omega
          have e2:(l2.used:Int)+(wd:Int)=((l2.used+wd:Nat):Int):=by omega
          simp only [e1,e2]
          have ms:Mod [xm] w7 (stL w7 xm 2 [.int .i64 (l2.gen:Int),.int .i64 (l2.area:Int),.int .i64 ((l2.seq+1:Nat):Int),.int .i64 ((l2.used+wd:Nat):Int),.int .i64 A1.next,.int .i64 A1.boots,.int .i64 A1.longest,.slice q9 n9 c9]):=stL_mod (fun _=>by simp) _ 2 _ (Mod.refl _ _)
          have B:=blk_set (blk_set (blk_set (blk_set (blk_set (blk_set (blk_set (blk_set H7.out.1.blk 2 (.int .i64 (l2.gen:Int))) 3 (.int .i64 (l2.area:Int))) 4 (.int .i64 ((l2.seq+1:Nat):Int))) 5 (.int .i64 ((l2.used+wd:Nat):Int))) 6 (.int .i64 A1.next)) 7 (.int .i64 A1.boots)) 8 (.int .i64 A1.longest)) 9 (.slice q9 n9 c9)
          rw [rlC_set2] at B
          simp only [stL,Nat.reduceAdd] at ms
          rw [← HAD.out]
          have bk:=(HB.out w7 H7.out.2).2.2.2.2
          exact ⟨rfl,vs7,w.heap.size,_,lv9,H7.out.1.newb B ms ⟨bk.gr.mod ms (fun k hk=>.inl (HF.out k (by simp at hk;simp [hk]))),bk.eq⟩ (HF.out xm (by simp)) (HF.out xd (by simp)) (fun k hk=>HF.out k (by simp [hk])) (fun k hk=>(HA.out.2.2.2.2.2.1 k (List.mem_cons_of_mem _ hk)).1),(((H0.out.2.1.then H3.out.2.1).mono (by simp)).trans H7.out.2 (fun _ x _=>x) (fun _ x _=>x)).trans ms (fun _ x _=>x) (fun x hx _=>by simp at hx;simp [hx])⟩
        · rw [h40] at hlay
          rw [h40,if_pos (by simp)] at hadd
          rw [if_neg (by simp)] at hlay
          have HAD:=hide hadd
          clear hadd h40
          go_wp2_with (go_at_call 67;refine hlay.mono ?_;rintro e w7 ⟨rfl,vs7,h7,m7⟩;have m37:=HX.out.2.1.trans (U:=xm::xd::ob sv) m7 (fun _ x _=>x) (fun _ x _=>x);have H7:=Hj2 h7 m37;clear hlay h7 m7 m37 B6 D6)
          go_ret
          rw [← HAD.out]
          exact ⟨rfl,vs7,b1,_,lv,H7.out.1,((H0.out.2.1.then H3.out.2.1).mono (by simp)).trans H7.out.2 (fun _ x _=>x) (fun _ x _=>x)⟩
      · rw [if_pos hce] at hadd0
        have HAD:=hide hadd0
        clear hadd0 hcz hcl hbig
        go_wp2_with (first
         | (go_at_call 64;refine hdi.mono ?_;rintro e w4 ⟨rfl,h4,m4⟩;have m34:=m4.mono (T:=xm::xd::ob sv) (fun x hx _=>by simp at hx;simp [hx]);have he4:=hen w4 m34;have D4:=(HB.out w4 m34).1;have C4:=blk_cell h4.blk;unfold rlC at C4;rw [HA.out.2.2.2.1] at C4;have H4:=Hj2 h4 m34;clear h4 m4 m34 hdi hen C3)
         | (go_at_call 68;refine he4.mono ?_;intro e w5 hq;obtain ⟨p5,c5,rfl,-,m5⟩:=hq.t rfl;rw [HE.out.2.1];have h5:=H4.out.1.quiet m5;have C5:=blk_cell h5.blk;unfold rlC at C5;rw [HA.out.2.2.2.1] at C5;have hc5:=hcm _ h5;have H5:=Hj2 h5 (H4.out.2.trans (U:=xm::xd::ob sv) m5 (fun _ x _=>x) (fun x hx=>by cases hx));clear h5 hq m5 he4 C4 D4 hcm)
         | (go_at_call 69;refine (hpt _).mono ?_;rintro e w6 ⟨rfl,hw6⟩;rw [hw6];clear hw6 hpt)
         | (go_at_call 30;refine hc5.mono ?_;rintro e w8 ⟨rfl,vs8,h8,m8⟩;have H8:=Hj2 h8 (H5.out.2.trans (U:=xm::xd::ob sv) m8 (fun _ x _=>x) (fun _ x _=>x));clear h8 m8 hc5 C5)
         | fail)
        go_ret
        rw [← HAD.out]
        exact ⟨rfl,vs8,b1,_,lv,H8.out.1,((H0.out.2.1.then H3.out.2.1).mono (by simp)).trans H8.out.2 (fun _ x _=>x) (fun _ x _=>x)⟩
    · have hgg:decide ((24:Int)<((l.used+wd:Nat):Int))=false:=by simp;omega
      have hg3:decide ((24:Int)<(l.used:Int)+(wd:Int))=false:=by simp;omega
      go_upto_region 14 with (first
       | (go_at_call 64;refine hdi.mono ?_;rintro e w4 ⟨rfl,h4,m4⟩;have m34:=m4.mono (T:=xm::xd::ob sv) (fun x hx _=>by simp at hx;simp [hx]);have he4:=hen w4 m34;have D4:=(HB.out w4 m34).1;have C4:=blk_cell h4.blk;unfold rlC at C4;rw [HA.out.2.2.2.1] at C4;have H4:=Hj2 h4 m34;clear h4 m4 m34 hdi hen C3)
       | (go_at_call 68;refine he4.mono ?_;intro e w5 hq;obtain ⟨p5,c5,rfl,-,m5⟩:=hq.t rfl;rw [HE.out.2.1];have h5:=H4.out.1.quiet m5;have C5:=blk_cell h5.blk;unfold rlC at C5;rw [HA.out.2.2.2.1] at C5;have H5:=Hj2 h5 (H4.out.2.trans (U:=xm::xd::ob sv) m5 (fun _ x _=>x) (fun x hx=>by cases hx));clear h5 hq m5 he4 C4 D4)
       | (go_at_call 69;refine (hpt _).mono ?_;rintro e w6 ⟨rfl,hw6⟩;rw [hw6];clear hw6 hpt)
       | fail)
      go_upto_region 15 with fail
      have hg1:=HA.out.2.2.1.gen1
      have hg2:=HA.out.2.2.1.genM
      have har:=HA.out.2.2.1.area
      have hsq:=HA.out.2.2.1.seq
      have hln:=h49
      have hadd0:=HTT.out
      rw [HE.out.2.1,HE.out.2.2,if_neg hbig] at hadd0
      have HW:=Hj3 H5.out.1 H5.out.2 hadd0
      clear H5 hadd0 C5 hwuw hgg hg3
      obtain ⟨at_,hat_⟩:∃ x,1+l.area * 24+l.used=x:=⟨_,rfl⟩
      have hwa:IntKind.i64.wrap ((l.area:Int) * 24)=(l.area:Int) * 24:=IntWalk.i64_in _ (by omega)
      have hwa1:IntKind.i64.wrap (1+(l.area:Int) * 24)=1+(l.area:Int) * 24:=IntWalk.i64_in _ (by omega)
      have hwa2:IntKind.i64.wrap (1+(l.area:Int) * 24+(l.used:Int))=(at_:Int):=(IntWalk.i64_in _ (by omega)).trans (by omega)
      have hws:IntKind.i64.wrap ((l.seq:Int)+1)=((l.seq+1:Nat):Int):=(IntWalk.i64_in _ (by omega)).trans (by omega)
      have hwu:IntKind.i64.wrap ((l.used:Int)+(wd:Int))=((l.used+wd:Nat):Int):=(IntWalk.i64_in _ (by omega)).trans (by omega)
      obtain ⟨T,hT1⟩:∃ x,putD d at_ l.gen l.seq E=x:=⟨_,rfl⟩
      have her:T.1=0∨T.1=40:=by rw [← hT1];exact writes_err d at_ (packL l.gen l.seq E) (by rw [packL_len,HE.out.2.1,HE.out.2.2];omega) pack_64
      have hadd:=HW.out.2.2
      unfold addD at hadd
      rw [hat_,hT1,HE.out.2.1,HE.out.2.2] at hadd
      simp only at hadd
      obtain ⟨W6,hW6⟩:∃ W6,W6=w5.alloc (.cells #[.int .i64 (l.gen:Int),.int .i64 (l.area:Int),.int .i64 (l.seq:Int),.int .i64 (l.used:Int),.int .i64 l.book.next,.int .i64 l.book.boots,.int .i64 l.book.longest,.slice qg lv.length cg] 103 (0,0)):=⟨_,rfl⟩
      have hk6:=heap_alloc_new w5 (.cells #[.int .i64 (l.gen:Int),.int .i64 (l.area:Int),.int .i64 (l.seq:Int),.int .i64 (l.used:Int),.int .i64 l.book.next,.int .i64 l.book.boots,.int .i64 l.book.longest,.slice qg lv.length cg] 103 (0,0))
      have m6:Mod [] w5 W6:=by rw [hW6];exact (Mod.refl _ _).alloc _
      rw [← hW6] at hk6 ⊢
      have hz5:=HW.out.2.1.size
      have hz3:=H3.out.2.1.size
      have hm36:=HW.out.2.1.trans (U:=xm::xd::ob sv) m6 (fun _ x _=>x) (fun x hx=>by cases hx)
      have hlay:=rlayR_any (T:=T) (HW.out.1.quiet m6) (HB.out W6 hm36).2.2.1 (HB.out W6 hm36).2.2.2.1 H3.out.2.2.2.1 at_ l.gen l.seq hg1 hg2 (by omega) (by rw [HE.out.1,HE.out.2.1,HE.out.2.2];omega) (by rw [HE.out.1];exact hT1)
      unfold aggR cellsR at hlay
      have B6:=blk_cell hk6
      have D6:=(HB.out W6 hm36).1
      have HX:=Hj4 hk6 hm36 (show w.heap.size≤w5.heap.size by omega) (show ∀ k,k∈xm::xd::ob sv→k≠w5.heap.size from fun k hk e=>by have:=HF.out k hk;omega)
      clear hW6 hk6 m6 hz5 hz3 hm36 hT1 hat_ HTT
      rcases her with h0 | h40
      · rw [h0] at hlay
        rw [h0,if_neg (by simp)] at hadd
        rw [if_pos rfl] at hlay
        have HAD:=hide hadd
        clear hadd h0
        go_upto_region 18 with (go_at_call 67;refine hlay.mono ?_;rintro e w7 ⟨rfl,vs7,h7,m7⟩;have m37:=HX.out.2.1.trans (U:=xm::xd::ob sv) m7 (fun _ x _=>x) (fun _ x _=>x);have B7:=blk_cell (m7.at_ HX.out.1 (fun e=>HX.out.2.2.2 _ e rfl));have D7:=blk_cell (HB.out w7 m37).2.1;have C7:=blk_cell h7.blk;unfold rlC at C7;have F7:=blk_free h7.blk;have L7:=lt_of_block h7.blk;have H7:=Hj2 h7 m37;clear hlay h7 m7 m37 B6 D6)
        go_wp2_with fail
        go_ret
        have e1:(l.seq:Int)+1=((l.seq+1:Nat):Int):=by omega
        have e2:(l.used:Int)+(wd:Int)=((l.used+wd:Nat):Int):=by omega
        simp only [e1,e2]
        have ms:Mod [xm] w7 (stL w7 xm 2 [.int .i64 (l.gen:Int),.int .i64 (l.area:Int),.int .i64 ((l.seq+1:Nat):Int),.int .i64 ((l.used+wd:Nat):Int),.int .i64 A1.next,.int .i64 A1.boots,.int .i64 A1.longest,.slice q9 n9 c9]):=stL_mod (fun _=>by simp) _ 2 _ (Mod.refl _ _)
        have B:=blk_set (blk_set (blk_set (blk_set (blk_set (blk_set (blk_set (blk_set H7.out.1.blk 2 (.int .i64 (l.gen:Int))) 3 (.int .i64 (l.area:Int))) 4 (.int .i64 ((l.seq+1:Nat):Int))) 5 (.int .i64 ((l.used+wd:Nat):Int))) 6 (.int .i64 A1.next)) 7 (.int .i64 A1.boots)) 8 (.int .i64 A1.longest)) 9 (.slice q9 n9 c9)
        rw [rlC_set2] at B
        simp only [stL,Nat.reduceAdd] at ms
        rw [← HAD.out]
        have bk:=(HB.out w7 H7.out.2).2.2.2.2
        exact ⟨rfl,vs7,w.heap.size,_,lv9,H7.out.1.newb B ms ⟨bk.gr.mod ms (fun k hk=>.inl (HF.out k (by simp at hk;simp [hk]))),bk.eq⟩ (HF.out xm (by simp)) (HF.out xd (by simp)) (fun k hk=>HF.out k (by simp [hk])) (fun k hk=>(HA.out.2.2.2.2.2.1 k (List.mem_cons_of_mem _ hk)).1),(((H0.out.2.1.then H3.out.2.1).mono (by simp)).trans H7.out.2 (fun _ x _=>x) (fun _ x _=>x)).trans ms (fun _ x _=>x) (fun x hx _=>by simp at hx;simp [hx])⟩
      · rw [h40] at hlay
        rw [h40,if_pos (by simp)] at hadd
        rw [if_neg (by simp)] at hlay
        have HAD:=hide hadd
        clear hadd h40
        go_wp2_with (go_at_call 67;refine hlay.mono ?_;rintro e w7 ⟨rfl,vs7,h7,m7⟩;have m37:=HX.out.2.1.trans (U:=xm::xd::ob sv) m7 (fun _ x _=>x) (fun _ x _=>x);have H7:=Hj2 h7 m37;clear hlay h7 m7 m37 B6 D6)
        go_ret
        rw [← HAD.out]
        exact ⟨rfl,vs7,b1,_,lv,H7.out.1,((H0.out.2.1.then H3.out.2.1).mono (by simp)).trans H7.out.2 (fun _ x _=>x) (fun _ x _=>x)⟩
  · have hT:=HA.out.2.1
    rw [if_pos (show (A1,a).2≠0 from ha)] at hT
    have HTT:=hide hT
    have H3:=Hj2 hr3 m3
    clear hT hr3 m3 hpb hpb2 hbb hb3
    go_wp2_with fail
    go_ret
    rw [← HTT.out]
    exact ⟨rfl,⟨vs,b1,_,lv,H3.out.1⟩,(H0.out.2.1.then H3.out.2).mono (by simp)⟩
end
end Go.Proofs.YtpphoeimakjjdaaGreatDoor
/-
  WALKS: the document's layer 12: Open.
-/
namespace Go.Proofs.YtpphoeimakjjdaaGreatDoor
set_option maxRecDepth 100000
set_option maxHeartbeats 4000000
open Go.RowKit

theorem state_dead {s:List B8} {l:Lg} (h:stateS s=some l):l.dead=false:=by
 unfold stateS at h
 cases hh:headS (s.getD 0 []) with
 | none=>rw [hh] at h;cases h
 | some p=>rw [hh] at h;cases h;rfl
section
variable {w:World} {base xd:Nat} {K:List Nat} {sv:Value} {vs:List Value} {d:Dk}
def RopTo (w:World) (base:Nat) (K:List Nat) (xd:Nat) (sv:Value) (t:Int × Dk × Option Lg) (e:Ending) (w':World):Prop :=
 match t.2.2 with
 | none=>e=.returned (.tuple #[.pointer none,.int .i64 t.1])∧∃ vs',RdM w' base xd sv vs' t.2.1∧Mod (xd::ob sv) w w'
 | some l=>∃ xm vs' b1 gv lv,e=.returned (.tuple #[.pointer (some ⟨xm,0,none⟩),.int .i64 t.1])∧RlM w' base K xm xd sv vs' b1 gv lv t.2.1 l∧w.heap.size≤xm∧Mod (xd::ob sv) w w'
theorem ropen_any (h:RdM w base xd sv vs d) (hK:∀ k,k∈K→k<w.heap.size∧k≠xd∧k ∉ ob sv∧∀ i,i<d.secs.length→k ∉ ob (vs.getD i nilS)) {t:Int × Dk × Option Lg} (ht:openD d=t) :
 Calls Tryz.prog 29 #[.pointer (some ⟨xd,0,none⟩)] w fun e w'=>RopTo w base K xd sv t e w':=by
 obtain ⟨qs,cs,rfl,-⟩:=h.rows.shape
 have C:=blk_cell h.blk
 obtain ⟨n,hn⟩:∃ n,d.secs.length=n:=⟨_,rfl⟩
 have hn512:n≤512:=by rw [← hn];exact h.ok.most
 rw [hn] at C
 unfold openD at ht
 rw [hn] at ht
 by_cases h49:n<49
 · rw [if_pos h49] at ht
   have hg:decide ((n:Int)<49)=true:=by simp;omega
   have HH:=Hj3 h ht hn
   clear h ht hn h49 hK
   rw [HH.out.2.2]
   go_enter Tryz.func29,Tryz.ntmps29
   go_wp2_with fail
   go_ret2
   rw [← HH.out.2.1]
   exact ⟨rfl,vs,by rw [← HH.out.2.2];exact HH.out.1,Mod.refl _ _⟩
 rw [if_neg h49] at ht
 have hg:decide ((n:Int)<49)=false:=by simp;omega
 by_cases hoff:d.off=true
 · rw [if_pos hoff] at ht
   rw [hoff] at C
   have HH:=Hj3 h ht hn
   clear h ht hn h49 hK hoff
   rw [HH.out.2.2]
   go_enter Tryz.func29,Tryz.ntmps29
   go_wp2_with fail
   go_ret2
   rw [← HH.out.2.1]
   exact ⟨rfl,vs,by rw [← HH.out.2.2];exact HH.out.1,Mod.refl _ _⟩
 rw [if_neg hoff] at ht
 have hoff0:d.off=false:=by cases hx:d.off <;> simp_all
 rw [hoff0] at C
 have hbx:=hK
 obtain ⟨W0,hW0⟩:∃ W0,W0=w.alloc (.cells #[.pointer (some ⟨xd,0,none⟩),.bool false,.int .i64 0,.int .i64 0,.int .i64 0,.int .i64 0,.int .i64 0,.int .i64 0,.int .i64 0,.slice none 0 0] 105 (0,0)):=⟨_,rfl⟩
 have hb0:=heap_alloc_new w (.cells #[.pointer (some ⟨xd,0,none⟩),.bool false,.int .i64 0,.int .i64 0,.int .i64 0,.int .i64 0,.int .i64 0,.int .i64 0,.int .i64 0,.slice none 0 0] 105 (0,0))
 have m0:Mod [] w W0:=by rw [hW0];exact (Mod.refl _ _).alloc _
 have hz0:W0.heap.size=w.heap.size+1:=by rw [hW0];simp
 rw [← hW0] at hb0
 have hlx:xd<w.heap.size:=lt_of_block h.blk
 have hR0:RlM W0 base K w.heap.size xd (.slice qs d.secs.length cs) vs (w.heap.size+1) (.slice none 0 0) [] d ⟨0,0,0,0,Bk.zero,false⟩:=by
  have hbs:=h.ap.1
  refine ⟨hb0,h.quiet m0,fun k hk=>?_,BkM.nil _ _,⟨by omega,by omega,by omega,fun k hk=>by have:=(h.rows.blk k hk).2;omega,fun e=>by have:=(hK _ e).1;omega,fun k hk=>by have:=(hK _ hk).1;omega⟩⟩
  rcases List.mem_cons.1 hk with rfl | e
  · exact ⟨by omega,by omega,fun q=>by have:=(h.rows.blk _ q).2;omega,fun i hi q=>by have:=((h.rows.el i hi).blk _ q).2;omega⟩
  · exact ⟨by have:=(hK k e).1;omega,(hK k e).2⟩
 have hrd:=rread_any hR0.dm.rows.rda (by omega) (by omega)
 have C0:=blk_cell hR0.dm.blk
 have B0:=blk_cell hb0
 have F0:=blk_free hb0
 have L0:=lt_of_block hb0
 have H0:=Hj5 hR0 m0 hz0 hn ht
 rw [hoff0] at C0
 rw [hn] at C0 ⊢
 clear hR0 m0 hz0 hb0 hbx hoff hoff0 hK h ht hlx
 cases hs:stateS d.secs with
 | some l =>
   rw [hs] at hrd
   have HS:=hide hs
   clear hs
   obtain ⟨n,rfl⟩:∃ m,m=n:=⟨_,rfl⟩
   unfold ReadTo at hrd
   simp only at hrd
   rw [hn] at hrd
   unfold stC at hrd
   clear hn
   go_enter Tryz.func29,Tryz.ntmps29
   go_upto_region 8 with fail
   rw [← hW0]
   clear hW0
   go_upto_region 14 with (first
    | (go_at_call 62;refine hrd.mono ?_;rintro e w3 ⟨q3,n3,c3,lv3,rfl,hb3,m3⟩;have h3:=H0.out.1.quiet m3;have C3:=blk_cell h3.blk;have F3:=blk_free h3.blk;have L3:=lt_of_block h3.blk;unfold rlC at C3;have H3:=Hj3 h3 hb3 m3;clear hb3 m3 h3 hrd C C0 B0 F0 L0)
    | fail)
   go_wp2_with fail
   go_ret2
   have hw:=H0.out.2.2.2.2
   rw [HS.out] at hw
   simp only at hw
   have hnn:=H0.out.2.2.2.1
   have h3:=H3.out.1
   rw [hnn] at h3
   have hz0:=H0.out.2.2.1
   have hlo:=h3.lo
   rw [← hw]
   have ms:Mod [w.heap.size] w3 (stL w3 w.heap.size 2 [.int .i64 (l.gen:Int),.int .i64 (l.area:Int),.int .i64 (l.seq:Int),.int .i64 (l.used:Int),.int .i64 l.book.next,.int .i64 l.book.boots,.int .i64 l.book.longest,.slice q3 n3 c3]):=stL_mod (fun _=>by simp) _ 2 _ (Mod.refl _ _)
   have B:=blk_set (blk_set (blk_set (blk_set (blk_set (blk_set (blk_set (blk_set h3.blk 2 (.int .i64 (l.gen:Int))) 3 (.int .i64 (l.area:Int))) 4 (.int .i64 (l.seq:Int))) 5 (.int .i64 (l.used:Int))) 6 (.int .i64 l.book.next)) 7 (.int .i64 l.book.boots)) 8 (.int .i64 l.book.longest)) 9 (.slice q3 n3 c3)
   rw [rlC_set2,show ({ gen:=l.gen,area:=l.area,seq:=l.seq,used:=l.used,book:=l.book,dead:=false }:Lg)=l from by rw [← state_dead HS.out]] at B
   simp only [stL,Nat.reduceAdd] at ms
   have hR:=h3.newb B ms ⟨H3.out.2.1.gr.mod ms (fun k hk=>.inl (by simp at hk;omega)),H3.out.2.1.eq⟩ (by omega) (by omega) (fun k hk=>by have:=hlo.2.2.2.1 k hk;omega) (fun k hk=>by have:=hlo.2.2.2.2.2 k hk;omega)
   have mf:=mod_fresh (H0.out.2.1.then H3.out.2.2) ms (by simp)
   exact ⟨w.heap.size,vs,_,_,lv3,rfl,hR.quiet ((Mod.refl _ _).alloc _),Nat.le_refl _,(mf.alloc _).mono (by simp)⟩
 | none =>
   rw [hs] at hrd
   have HS:=hide hs
   clear hs
   obtain ⟨n,rfl⟩:∃ m,m=n:=⟨_,rfl⟩
   unfold ReadTo at hrd
   simp only at hrd
   rw [hn] at hrd
   unfold stC Bk.new at hrd
   clear hn
   have hw:=H0.out.2.2.2.2
   rw [HS.out] at hw
   simp only at hw
   obtain ⟨N,hN⟩:∃ x,nameD d 1 0=x:=⟨_,rfl⟩
   rw [hN] at hw
   have her:N.1=0∨N.1=40:=by rw [← hN];exact write_err d 0 _ (by have:=H0.out.2.2.2.1;omega) (packOne_len (by simp))
   have hK2:∀ (W:World) (p:Nat),Mod [] W0 W→W0.heap.size≤p→p<W.heap.size→RlM W base (p::K) w.heap.size xd (.slice qs d.secs.length cs) vs (p+1) (.slice none 0 0) [] d ⟨0,0,0,0,Bk.zero,false⟩:=fun W p m h1 h2=>by
    have h:=H0.out.1.quiet m
    have hlt:=H0.out.1.lts
    have hs0:=H0.out.2.2.1
    have hx:=hlt xd List.mem_cons_self
    have hlo:=h.lo
    refine ⟨h.blk,h.dm,fun k hk=>?_,BkM.nil _ _,⟨hlo.1,by omega,by omega,fun k hk=>by have:=hlt k (List.mem_cons_of_mem _ hk);omega,fun e=>?_,fun k hk=>?_⟩⟩
    · rcases List.mem_cons.1 hk with rfl | hk'
      · exact h.av _ List.mem_cons_self
      · rcases List.mem_cons.1 hk' with rfl | hk''
        · exact ⟨h2,by omega,fun q=>by have:=hlt k (List.mem_cons_of_mem _ q);omega,fun i hi q=>by have:=((H0.out.1.dm.rows.el i hi).blk _ q).2;omega⟩
        · exact h.av k (List.mem_cons_of_mem _ hk'')
    · rcases List.mem_cons.1 e with e | e
      · omega
      · exact hlo.2.2.2.2.1 e
    · rcases List.mem_cons.1 hk with rfl | hk
      · omega
      · have:=hlo.2.2.2.2.2 k hk;omega
   have hnm:=fun (W:World) (p:Nat) (m:Mod [] W0 W) (h1:W0.heap.size≤p) (h2:p<W.heap.size)=>rnames_any (hK2 W p m h1 h2) 1 0 (by omega) (by omega) (by omega)
   clear hK2
   rw [hN] at hnm
   rcases her with h0 | h40
   · rw [if_pos h0] at hw
     rw [h0] at hnm
     have hs2:stateS N.2.secs=some (readL N.2.secs 1 0):=by
      have h':N.2.secs=d.secs.set 0 (headB 1 0):=by rw [← hN];exact (write_zero (show (writeD d 0 (headB 1 0)).1=0 from by have:=h0;rw [← hN] at this;exact this)).1
      unfold stateS
      rw [show N.2.secs.getD 0 []=headB 1 0 from by rw [h',getD_set _ _ _ _ (by have:=H0.out.2.2.2.1;omega),if_pos rfl],head_look (by omega) (by omega)]
      rfl
     have hln:N.2.secs.length=n:=by rw [← hN,name_len];exact H0.out.2.2.2.1
     obtain ⟨l2,hl2⟩:∃ x,readL N.2.secs 1 0=x:=⟨_,rfl⟩
     rw [hl2] at hw hs2
     have HW:=Hj3 hw hs2 hln
     clear hw hN h0 hs2 hln hl2
     have hrd2:=fun (W:World) (p:Nat) (vs4:List Value) (h:RlM W base (p::K) w.heap.size xd (.slice qs d.secs.length cs) vs4 (p+1) (.slice none 0 0) [] N.2 ⟨0,0,0,0,Bk.zero,false⟩)=>rread_any h.dm.rows.rda (by rw [HW.out.2.2];omega) (by rw [HW.out.2.2];omega)
     rw [HW.out.2.1] at hrd2
     unfold ReadTo stC at hrd2
     simp only at hrd2
     rw [H0.out.2.2.2.1] at hrd2 hnm
     go_enter Tryz.func29,Tryz.ntmps29
     go_upto_region 8 with fail
     rw [← hW0]
     clear hW0
     go_upto_region 13 with (first
      | (go_at_call 62;refine hrd.mono ?_;rintro e w3 ⟨rfl,m3⟩;have hn3:=fun (v:Obj)=>hnm (w3.alloc v) w3.heap.size (m3.alloc v) m3.size (by simp);have H3:=hide m3;clear m3 hrd hnm C C0 B0 F0 L0)
      | (go_at_call 63;refine (hn3 _).mono ?_;rintro e w4 ⟨rfl,vs4,h4,m4⟩;have C4:=blk_cell h4.dm.blk;have hr4:=hrd2 _ _ _ h4;have hk4:=m4.at_ (heap_alloc_new w3 _) (fun e=>by have h1:=H0.out.1.lts _ (by rw [H0.out.2.2.2.1];exact e);have h2:=H3.out.size;omega);have H4:=Hj3 h4 m4 hk4;clear h4 m4 hn3 hrd2 hk4)
      | fail)
     go_upto_region 14 with (first
      | (go_at_call 62;refine hr4.mono ?_;rintro e w5 ⟨q5,n5,c5,lv5,rfl,hb5,m5⟩;have h5:=H4.out.1.quiet m5;have C5:=blk_cell h5.blk;have F5:=blk_free h5.blk;have L5:=lt_of_block h5.blk;unfold rlC at C5;have hk5:=m5.at_ H4.out.2.2 (by simp);have B5:=blk_cell hk5;have G5:=blk_free hk5;have M5:=lt_of_block hk5;have H5:=Hj4 h5 hb5 m5 hk5;clear hb5 m5 h5 hr4 C4 hk5)
      | fail)
     have HF:=hide (stL_all H5.out.2.2.2 [.int .i64 (l2.gen:Int),.int .i64 (l2.area:Int),.int .i64 (l2.seq:Int),.int .i64 (l2.used:Int),.int .i64 l2.book.next,.int .i64 l2.book.boots,.int .i64 l2.book.longest,.slice q5 n5 c5] rfl)
     have HM:=hide (stL_mod (r:=w3.heap.size) (S:=[w3.heap.size]) (w0:=w5) (fun _=>by simp) [.int .i64 (l2.gen:Int),.int .i64 (l2.area:Int),.int .i64 (l2.seq:Int),.int .i64 (l2.used:Int),.int .i64 l2.book.next,.int .i64 l2.book.boots,.int .i64 l2.book.longest,.slice q5 n5 c5] 0 w5 (Mod.refl _ _))
     obtain ⟨W6,hW6⟩:∃ W,W=stL w5 w3.heap.size 0 [.int .i64 (l2.gen:Int),.int .i64 (l2.area:Int),.int .i64 (l2.seq:Int),.int .i64 (l2.used:Int),.int .i64 l2.book.next,.int .i64 l2.book.boots,.int .i64 l2.book.longest,.slice q5 n5 c5]:=⟨_,rfl⟩
     rw [← hW6] at HF HM
     simp only [stL,Nat.reduceAdd] at hW6
     rw [← hW6]
     clear hW6 B5 G5 M5 C5 F5 L5
     have h6:=H5.out.1.mod HM.out (fun k hk=>.inr (by simp at hk;rw [hk];exact List.mem_cons_self))
     have C6:=blk_cell h6.blk
     have F6:=blk_free h6.blk
     have L6:=lt_of_block h6.blk
     have B6:=blk_cell HF.out
     unfold rlC at C6
     have H6:=hide h6
     clear h6
     go_wp2_with fail
     go_ret2
     have hnn:=H0.out.2.2.2.1
     have h6:=H6.out
     have hz0:=H0.out.2.2.1
     have hlo:=h6.lo
     rw [← HW.out.1]
     have ms:Mod [w.heap.size] W6 (stL W6 w.heap.size 2 [.int .i64 (l2.gen:Int),.int .i64 (l2.area:Int),.int .i64 (l2.seq:Int),.int .i64 (l2.used:Int),.int .i64 l2.book.next,.int .i64 l2.book.boots,.int .i64 l2.book.longest,.slice q5 n5 c5]):=stL_mod (fun _=>by simp) _ 2 _ (Mod.refl _ _)
     have B:=blk_set (blk_set (blk_set (blk_set (blk_set (blk_set (blk_set (blk_set h6.blk 2 (.int .i64 (l2.gen:Int))) 3 (.int .i64 (l2.area:Int))) 4 (.int .i64 (l2.seq:Int))) 5 (.int .i64 (l2.used:Int))) 6 (.int .i64 l2.book.next)) 7 (.int .i64 l2.book.boots)) 8 (.int .i64 l2.book.longest)) 9 (.slice q5 n5 c5)
     rw [rlC_set2,show ({ gen:=l2.gen,area:=l2.area,seq:=l2.seq,used:=l2.used,book:=l2.book,dead:=false }:Lg)=l2 from by rw [← state_dead HW.out.2.1]] at B
     simp only [stL,Nat.reduceAdd] at ms
     have hp4:w3.heap.size<w4.heap.size:=lt_of_block H4.out.2.2
     have hsz:w.heap.size≤w3.heap.size:=by have:=H3.out.size;omega
     have hR:=h6.newb B ms ⟨(H5.out.2.1.gr.mod HM.out (fun k hk=>.inl (by simp at hk;omega))).mod ms (fun k hk=>.inl (by simp at hk;omega)),H5.out.2.1.eq⟩ (by omega) (by omega) (fun k hk=>by have:=hlo.2.2.2.1 k hk;omega) (fun k hk=>by have:=hlo.2.2.2.2.2 k hk;omega)
     have hS:RlM _ base K w.heap.size xd (.slice qs n cs) vs4 w4.heap.size (.slice q5 n5 c5) lv5 N.2 l2:=⟨hR.blk,hR.dm,fun k hk=>hR.av k (by
      rcases List.mem_cons.1 hk with rfl | e
      · exact List.mem_cons_self
      · exact List.mem_cons_of_mem _ (List.mem_cons_of_mem _ e)),hR.bk,⟨hR.lo.1,hR.lo.2.1,hR.lo.2.2.1,hR.lo.2.2.2.1,fun e=>hR.lo.2.2.2.2.1 (List.mem_cons_of_mem _ e),fun k hk=>hR.lo.2.2.2.2.2 k (List.mem_cons_of_mem _ hk)⟩⟩
     have M1:=(((H0.out.2.1.then H3.out).alloc _).mono (T:=xd::ob (.slice qs n cs)) (by simp)).trans H4.out.2.1 (fun _ x _=>x) (fun _ x _=>x)
     have M2:=M1.trans H5.out.2.2.1 (U:=xd::ob (.slice qs n cs)) (fun _ x _=>x) (fun _ x _=>by cases x)
     have M3:=M2.trans HM.out (U:=xd::ob (.slice qs n cs)) (fun _ x _=>x) (fun k x hk=>by simp at x;omega)
     have M4:=M3.trans ms (U:=xd::ob (.slice qs n cs)) (fun _ x _=>x) (fun k x hk=>by simp at x;omega)
     exact ⟨w.heap.size,vs4,_,_,lv5,rfl,hS,Nat.le_refl _,M4⟩
   · rw [if_neg (by omega),h40] at hw
     rw [h40] at hnm
     have HW:=hide hw
     clear hw hN h40
     go_enter Tryz.func29,Tryz.ntmps29
     go_upto_region 8 with fail
     rw [← hW0]
     clear hW0
     go_wp2_with (first
      | (go_at_call 62;refine hrd.mono ?_;rintro e w3 ⟨rfl,m3⟩;have hn3:=fun (v:Obj)=>hnm (w3.alloc v) w3.heap.size (m3.alloc v) m3.size (by simp);have H3:=hide m3;clear m3 hrd hnm C C0 B0 F0 L0)
      | (go_at_call 63;refine (hn3 _).mono ?_;rintro e w4 ⟨rfl,vs4,h4,m4⟩;have H4:=Hj2 h4 m4;clear h4 m4 hn3)
      | fail)
     go_ret2
     have hnn:=H0.out.2.2.2.1
     have h4:=H4.out
     rw [hnn] at h4
     rw [← HW.out]
     exact ⟨rfl,vs4,h4.1.dm,((H0.out.2.1.then H3.out).alloc _ |>.mono (by simp)).trans h4.2 (fun _ x _=>x) (fun _ x _=>x)⟩
end
end Go.Proofs.YtpphoeimakjjdaaGreatDoor
/-
  PLAIN, NO WALK: layer 12, once more: generations and writes over any calls; a ledger that lives, or whose power is off.
-/
namespace Go.Proofs.YtpphoeimakjjdaaGreatDoor
open Go.RowKit

/-! ### generations -/
def gensLe (s:List B8) (G:Nat):Prop:=∀ b p,b∈s→lookS b=some p→p.gen≤G
theorem gensLe.mono {s:List B8} {G H:Nat} (h:gensLe s G) (k:G≤H):gensLe s H:=fun b p hb hp=>Nat.le_trans (h b p hb hp) k
theorem write_gens {d:Dk} {i:Nat} {b:B8} {G:Nat} (h:gensLe d.secs G) (hb:∀ p,lookS b=some p→p.gen≤G):gensLe (writeD d i b).2.secs G:=by
 by_cases h0:(writeD d i b).1=0
 · rw [(write_zero h0).1]
   intro x p hx hp
   rcases List.mem_or_eq_of_mem_set hx with hx | rfl
   · exact h x p hx hp
   · exact hb p hp
 · rw [(write_fail h0).1];exact h
theorem writes_gens:∀ {l:List B8} {d:Dk} {a:Nat} {G:Nat},gensLe d.secs G→(∀ b p,b∈l→lookS b=some p→p.gen≤G)→gensLe (writesD d a l).2.secs G
 | [],d,a,G,h,_=>h
 | b::l,d,a,G,h,hb=>by
   have h1:=write_gens (i:=a) h (fun p hp=>hb b p List.mem_cons_self hp)
   unfold writesD
   split
   · exact writes_gens h1 (fun x p hx hp=>hb x p (List.mem_cons_of_mem _ hx) hp)
   · exact h1
/-! ### writes are counted, and nothing happens to a disk that is off -/
structure Wr (d d':Dk) (n:Nat):Prop where
 cnt:0≤d.writes→d.writes+n<9223372036854775808→d.writes≤d'.writes∧d'.writes≤d.writes+n
 arm:d.armed=false→d'.armed=false
 on:d.armed=false→d.off=false→d'.off=false
 off:d.off=true→d'=d
theorem Wr.refl (d:Dk):Wr d d 0:=⟨fun _ _=>⟨Int.le_refl _,by simp⟩,fun h=>h,fun _ h=>h,fun _=>rfl⟩
theorem Wr.trans {a b c:Dk} {n m:Nat} (h:Wr a b n) (k:Wr b c m):Wr a c (n+m):=by
 refine ⟨fun h0 h1=>?_,fun e=>k.arm (h.arm e),fun e e2=>k.on (h.arm e) (h.on e e2),fun e=>?_⟩
 · have h2:=h.cnt h0 (by omega)
   have h3:=k.cnt (by omega) (by omega)
   omega
 · have:=h.off e;subst this;exact k.off e
theorem Wr.mono {a b:Dk} {n m:Nat} (h:Wr a b n) (k:n≤m):Wr a b m:=⟨fun h0 h1=>by have:=h.cnt h0 (by omega);omega,h.arm,h.on,h.off⟩
theorem write_wr (d:Dk) (i:Nat) (b:B8):Wr d (writeD d i b).2 1:=by
 unfold writeD
 by_cases h1:d.off=true
 · rw [if_pos h1];exact (Wr.refl d).mono (by omega)
 rw [if_neg h1]
 by_cases h2:d.secs.length≤i
 · rw [if_pos h2];exact (Wr.refl d).mono (by omega)
 rw [if_neg h2]
 by_cases h3:b.length≠64
 · rw [if_pos h3];exact (Wr.refl d).mono (by omega)
 rw [if_neg h3]
 by_cases h4:d.armed=true∧d.left=0
 · rw [if_pos h4]
   refine ⟨fun _ _=>⟨Int.le_refl _,?_⟩,fun _=>rfl,fun e=>?_,fun e=>absurd e h1⟩
   · show d.writes≤d.writes+_;omega
   · rw [h4.1] at e;cases e
 rw [if_neg h4]
 refine ⟨fun h0 hm=>?_,fun e=>e,fun _ e=>e,fun e=>absurd e h1⟩
 have hw:(wroteD d i b).writes=d.writes+1:=wrap64_small (by omega) (by omega)
 simp only
 rw [hw]
 omega
theorem write_more {d:Dk} {i:Nat} {b:B8} (h:(writeD d i b).1=0) (h0:0≤d.writes) (h1:d.writes+1<9223372036854775808):(writeD d i b).2.writes=d.writes+1:=by
 unfold writeD at h ⊢
 split at h
 · cases h
 rename_i e1
 split at h
 · cases h
 rename_i e2
 split at h
 · cases h
 rename_i e3
 split at h
 · cases h
 rename_i e4
 rw [if_neg e1,if_neg e2,if_neg e3,if_neg e4]
 exact wrap64_small (by omega) (by omega)
theorem writes_wr:∀ (l:List B8) (d:Dk) (a:Nat),Wr d (writesD d a l).2 l.length
 | [],d,a=>Wr.refl d
 | b::l,d,a=>by
   have h1:=write_wr d a b
   unfold writesD
   split
   · exact (h1.trans (writes_wr l (writeD d a b).2 (a+1))).mono (by rw [List.length_cons];omega)
   · exact h1.mono (by simp)
theorem put_wr (d:Dk) (at_ gen seq:Nat) (data:B8):Wr d (putD d at_ gen seq data).2 (widthN data.length):=by
 have:=writes_wr (packL gen seq data) d at_
 rw [packL_len] at this
 exact this
theorem put_more {d:Dk} {at_ gen seq:Nat} {data:B8} (h:(putD d at_ gen seq data).1=0) (h0:0≤d.writes) (h1:d.writes+widthN data.length<9223372036854775808):d.writes<(putD d at_ gen seq data).2.writes:=by
 have hl:(packL gen seq data).length=widthN data.length:=packL_len _ _ _
 have hw:=width_pos data.length
 unfold putD at h ⊢
 generalize packL gen seq data=l at h hl
 cases l with
 | nil=>simp at hl;omega
 | cons b l =>
   unfold writesD at h ⊢
   split at h
   · rename_i e
     rw [if_pos e]
     have h2:=write_more e h0 (by omega)
     simp only [List.length_cons] at hl
     have h3:=(writes_wr l (writeD d at_ b).2 (at_+1)).cnt (by omega) (by omega)
     omega
   · rename_i e;exact absurd h e
theorem lay_wr (gen:Nat) (l:List B8) (d:Dk) (a i:Nat):Wr d (layD d a gen i l).2 (sumW l):=by
 rw [lay_writes]
 have:=writes_wr (flatR gen i l) d a
 rw [flatR_len] at this
 exact this
theorem name_wr (d:Dk) (gen k:Nat):Wr d (nameD d gen k).2 1:=write_wr d 0 _
theorem compact_wr {d:Dk} {l:Lg} (h:validB l.book=true):Wr d (compactD d l).2.1 17:=by
 have hd:=dump_width h
 have h1:=lay_wr (maxGen l.gen (sideS d.secs (1 - l.area))+1) ((dumpB l.book).map encB) d (1+(1 - l.area) * 24) 0
 have h2:=h1.trans (name_wr (layD d (1+(1 - l.area) * 24) (maxGen l.gen (sideS d.secs (1 - l.area))+1) 0 ((dumpB l.book).map encB)).2 (maxGen l.gen (sideS d.secs (1 - l.area))+1) (1 - l.area))
 unfold compactD
 split
 · exact (Wr.refl d).mono (by omega)
 split
 · exact (Wr.refl d).mono (by omega)
 split
 · exact (Wr.refl d).mono (by omega)
 simp only
 split
 · exact h1.mono (by omega)
 split
 · exact h2.mono (by omega)
 · exact h2.mono (by omega)
theorem width_enc {r:Rcd} (h:mayB r=true):widthN (encB r).length≤2:=by
 have:=enc_len h
 unfold widthN
 omega
theorem add_wr {d:Dk} {l:Lg} {c:Bk} {b:B8} (hb:widthN b.length≤2):Wr d (addD d l c b).2.1 2:=by
 have h:=(put_wr d (1+l.area * 24+l.used) l.gen l.seq b).mono hb
 unfold addD
 simp only
 split <;> exact h
theorem append_wr {d:Dk} {l:Lg} (h:validB l.book=true) (r:Rcd):Wr d (appendD d l r).2.1 20:=by
 unfold appendD
 split
 · exact (Wr.refl d).mono (by omega)
 split
 · exact (Wr.refl d).mono (by omega)
 rename_i e
 have hm:mayB r=true:=(apply_zero.1 (Decidable.not_not.1 e)).2.1
 split
 · split
   · exact (compact_wr h).mono (by omega)
   · exact ((compact_wr h).trans (add_wr (width_enc hm))).mono (by omega)
 · exact (add_wr (width_enc hm)).mono (by omega)
theorem add_more {d:Dk} {l:Lg} {c:Bk} {b:B8} (hb:widthN b.length≤2) (h:(addD d l c b).1=0) (h0:0≤d.writes) (h1:d.writes+2<9223372036854775808):d.writes<(addD d l c b).2.1.writes:=by
 unfold addD at h ⊢
 simp only at h ⊢
 split at h
 · rename_i e;exact absurd h e
 · rename_i e
   rw [if_neg e]
   exact put_more (Decidable.not_not.1 e) h0 (by omega)
theorem append_more {d:Dk} {l:Lg} (h:validB l.book=true) {r:Rcd} (he:(appendD d l r).1=0) (h0:0≤d.writes) (h1:d.writes+20<9223372036854775808):d.writes<(appendD d l r).2.1.writes:=by
 unfold appendD at he ⊢
 split at he
 · cases he
 rename_i e1
 rw [if_neg e1]
 split at he
 · rename_i e2;exact absurd he e2
 rename_i e2
 rw [if_neg e2]
 have hm:mayB r=true:=(apply_zero.1 (Decidable.not_not.1 e2)).2.1
 split at he
 · rename_i e3
   rw [if_pos e3]
   split at he
   · rename_i e4;exact absurd he e4
   · rename_i e4
     rw [if_neg e4]
     have h2:=(compact_wr (d:=d) h).cnt h0 (by omega)
     have:=add_more (width_enc hm) he (by omega) (by omega)
     omega
 · rename_i e3
   rw [if_neg e3]
   exact add_more (width_enc hm) he h0 (by omega)
/-! ### generations over a call -/
theorem head_gens {g k:Nat} (hg:g<4294967296) {p:Prt} (h:lookS (headB g k)=some p):p.gen=g:=look_gen hg h
theorem compact_gens {d:Dk} {l:Lg} {G:Nat} (h:gensLe d.secs G) (hl:l.gen≤G) (hG:G+1<4294967296):gensLe (compactD d l).2.1.secs (G+1)∧(compactD d l).2.2.gen≤G+1:=by
 have hm:maxGen l.gen (sideS d.secs (1 - l.area))≤G:=maxGen_most _ _ _ hl (fun b p hb hp=>h b p (List.mem_of_mem_drop (List.mem_of_mem_take hb)) hp)
 have h0:=h.mono (Nat.le_succ G)
 have h1:gensLe (layD d (1+(1 - l.area) * 24) (maxGen l.gen (sideS d.secs (1 - l.area))+1) 0 ((dumpB l.book).map encB)).2.secs (G+1):=by
  rw [lay_writes]
  exact writes_gens h0 (fun b p hb hp=>by rw [flat_gen (by omega) hb hp];omega)
 unfold compactD
 split
 · exact ⟨h0,by show l.gen≤_;omega⟩
 split
 · exact ⟨h0,by show l.gen≤_;omega⟩
 split
 · exact ⟨h0,by show l.gen≤_;omega⟩
 simp only
 have h2:gensLe (nameD (layD d (1+(1 - l.area) * 24) (maxGen l.gen (sideS d.secs (1 - l.area))+1) 0 ((dumpB l.book).map encB)).2 (maxGen l.gen (sideS d.secs (1 - l.area))+1) (1 - l.area)).2.secs (G+1) :=
  write_gens h1 (fun p hp=>by rw [head_gens (by omega) hp];omega)
 split
 · exact ⟨h1,by show l.gen≤_;omega⟩
 split
 · exact ⟨h2,by show l.gen≤_;omega⟩
 · exact ⟨h2,by show _+1≤_;omega⟩
theorem add_gens {d:Dk} {l:Lg} {c:Bk} {b:B8} {G:Nat} (h:gensLe d.secs G) (hl:l.gen≤G) (hG:G<4294967296):gensLe (addD d l c b).2.1.secs G∧(addD d l c b).2.2.gen≤G:=by
 have h1:gensLe (putD d (1+l.area * 24+l.used) l.gen l.seq b).2.secs G:=writes_gens h (fun x p hx hp=>by rw [pack_gen (by omega) hx hp];exact hl)
 unfold addD
 simp only
 split
 · exact ⟨h1,hl⟩
 · exact ⟨h1,hl⟩
theorem append_gens {d:Dk} {l:Lg} {r:Rcd} {G:Nat} (h:gensLe d.secs G) (hl:l.gen≤G) (hG:G+1<4294967296):gensLe (appendD d l r).2.1.secs (G+1)∧(appendD d l r).2.2.gen≤G+1:=by
 have h0:=h.mono (Nat.le_succ G)
 unfold appendD
 split
 · exact ⟨h0,by show l.gen≤_;omega⟩
 split
 · exact ⟨h0,by show l.gen≤_;omega⟩
 obtain ⟨c1,c2⟩:=compact_gens h hl hG
 split
 · split
   · exact ⟨c1,c2⟩
   · exact add_gens c1 c2 hG
 · exact add_gens h0 (by omega) hG
/-! ### a ledger that lives, or whose power is off -/
structure LgS (d:Dk) (l:Lg) (G:Nat):Prop where
 lok:l.Ok
 n49:49≤d.secs.length
 gens:gensLe d.secs G
 gen:l.gen≤G
 dok:d.Ok
 way:(d.off=false∧l.dead=false∧Inv d l)∨(d.off=true∧l.dead=true∧∃ l',Inv d l'∧l'.book=l.book∧l'.dead=false∧l'.gen≤G)
theorem add_dead {d:Dk} {l:Lg} {c:Bk} {b:B8} (h:(addD d l c b).1≠0):(addD d l c b).2.2.dead=true∧(addD d l c b).2.2.book=l.book:=by
 unfold addD at h ⊢
 simp only at h ⊢
 split
 · exact ⟨rfl,rfl⟩
 · rename_i e;rw [if_neg e] at h;exact absurd rfl h
theorem compact_dead {d:Dk} {l:Lg} (h:(compactD d l).1=40):(compactD d l).2.2.dead=true:=by
 unfold compactD at h ⊢
 split
 · assumption
 rename_i e0
 rw [if_neg e0] at h
 split
 · rfl
 rename_i e1
 rw [if_neg e1] at h
 split
 · rename_i e2;rw [if_pos e2] at h;cases h
 rename_i e2
 rw [if_neg e2] at h
 simp only at h ⊢
 split
 · rfl
 rename_i e3
 rw [if_neg e3] at h
 split
 · rfl
 rename_i e4
 rw [if_neg e4] at h
 cases h
theorem append_dead {d:Dk} {l:Lg} {r:Rcd} (h:(appendD d l r).1=40):(appendD d l r).2.2.dead=true:=by
 unfold appendD at h ⊢
 split
 · assumption
 rename_i e0
 rw [if_neg e0] at h
 split
 · rename_i e1
   rw [if_pos e1] at h
   rcases apply_errs l.book r with e | e | e | e <;> rw [e] at h <;> cases h
 rename_i e1
 rw [if_neg e1] at h
 split
 · rename_i e2
   rw [if_pos e2] at h
   split
   · rename_i e3
     rw [if_pos e3] at h
     exact compact_dead h
   · rename_i e3
     rw [if_neg e3] at h
     exact (add_dead (by rw [h];decide)).1
 · rename_i e2
   rw [if_neg e2] at h
   exact (add_dead (by rw [h];decide)).1
theorem append_dead40 {d:Dk} {l:Lg} (r:Rcd) (h:l.dead=true):appendD d l r=(40,d,l):=by unfold appendD;rw [if_pos h]
theorem append_len (d:Dk) (l:Lg) (r:Rcd):(appendD d l r).2.1.secs.length=d.secs.length:=by
 have ha:∀ (d:Dk) (l:Lg) c b,(addD d l c b).2.1.secs.length=d.secs.length:=by
  intro d l c b
  unfold addD
  simp only
  split <;> exact writes_len _ _ _
 have hc:(compactD d l).2.1.secs.length=d.secs.length:=by
  unfold compactD
  repeat' split
  all_goals first | rfl | skip
  all_goals simp only
  all_goals repeat' split
  all_goals first | (rw [lay_writes];exact writes_len _ _ _) | (refine (write_len _ _ _).trans ?_;rw [lay_writes];exact writes_len _ _ _)
 unfold appendD
 repeat' split
 all_goals first | rfl | exact hc | (rw [ha,hc]) | exact ha _ _ _ _
theorem inv_gen {d:Dk} {l:Lg} {G:Nat} (h:Inv d l) (hg:gensLe d.secs G):l.gen≤G:=by
 have hh:=h.head
 unfold headS at hh
 rw [Option.bind_eq_some_iff] at hh
 obtain ⟨p,hp,h2⟩:=hh
 have hm:d.secs.getD 0 []∈d.secs:=by
  have:=h.n49
  have h0:0<d.secs.length:=by omega
  simp [List.getD,h0]
 have:=hg _ _ hm hp
 split at h2
 · have h3:=congrArg Prod.fst (Option.some.inj h2)
   simp only at h3
   omega
 · cases h2
theorem Lg.Ok.dead_ {l:Lg} (h:l.Ok):(deadL l).Ok:=⟨h.gen1,h.genM,h.area,h.seq,h.used,h.book⟩
theorem add_deadL {d:Dk} {l:Lg} {c:Bk} {b:B8} (h:(addD d l c b).1≠0):(addD d l c b).2.2=deadL l:=by
 unfold addD at h ⊢
 simp only at h ⊢
 split
 · rfl
 · rename_i e;rw [if_neg e] at h;exact absurd rfl h
theorem compact_deadL {d:Dk} {l:Lg} (h:(compactD d l).1≠0):(compactD d l).2.2=deadL l∨(compactD d l).2.2=l:=by
 unfold compactD at h ⊢
 split
 · exact .inr rfl
 rename_i e0
 rw [if_neg e0] at h
 split
 · exact .inl rfl
 rename_i e1
 rw [if_neg e1] at h
 split
 · exact .inr rfl
 rename_i e2
 rw [if_neg e2] at h
 simp only at h ⊢
 split
 · exact .inl rfl
 rename_i e3
 rw [if_neg e3] at h
 split
 · exact .inl rfl
 rename_i e4
 rw [if_neg e4] at h
 exact absurd rfl h
theorem append_ok_bad {d:Dk} {l:Lg} {r:Rcd} (hk:l.Ok) (h:(appendD d l r).1≠0):(appendD d l r).2.2.Ok:=by
 unfold appendD at h ⊢
 split
 · exact hk
 rename_i e0
 rw [if_neg e0] at h
 split
 · exact hk
 rename_i e1
 rw [if_neg e1] at h
 split
 · rename_i e2
   rw [if_pos e2] at h
   split
   · rename_i e3
     rcases compact_deadL e3 with e | e <;> rw [e]
     · exact hk.dead_
     · exact hk
   · rename_i e3
     rw [if_neg e3] at h
     rw [add_deadL h]
     obtain ⟨gn,ar,sq,us,e,h1,h2,h3,h4,h5⟩:=comp_zero (d:=d) hk (Decidable.not_not.1 e3)
     rw [e]
     exact ⟨h1,h2,h3,h4,by show us≤24;omega,hk.book⟩
 · rename_i e2
   rw [if_neg e2] at h
   rw [add_deadL h]
   exact hk.dead_
inductive ApW (d:Dk) (l:Lg) (r:Rcd) (p:Int × Dk × Lg):Prop
 | ok (h:p.1=0) (a:(applyB l.book r).2=0) (b:p.2.2.book=(applyB l.book r).1) (o:p.2.1.off=false) (w:0≤d.writes→d.writes+20<9223372036854775808→d.writes<p.2.1.writes)
 | cut (h:p.1=40) (b:p.2.2.book=l.book) (o:p.2.1.off=true) (a:l.dead=true∨d.armed=true)
 | bad (h:p.1≠0) (h2:p.1≠40) (a:p.1=(applyB l.book r).2∨p.1=42) (e:p.2=(d,l)) (o:l.dead=false)
theorem LgS.append {d:Dk} {l:Lg} {G:Nat} (h:LgS d l G) (hG:G+1<1073741824) (r:Rcd) :
 LgS (appendD d l r).2.1 (appendD d l r).2.2 (G+1)∧Wr d (appendD d l r).2.1 20∧ApW d l r (appendD d l r)∧(appendD d l r).1≠42:=by
 obtain ⟨g1,g2⟩:=append_gens (r:=r) h.gens h.gen (by omega)
 have hw:=append_wr (d:=d) h.lok.book r
 have hlen:=append_len d l r
 rcases h.way with ⟨ho,hd,hi⟩ | ⟨ho,hd,l',h1,h2,h3,h4⟩
 · rcases append_law hi hd ho r with ⟨a1,a2,e,a3⟩ | ⟨e0,e1,e2,e3,e4,e5⟩ | ⟨e0,e1,e2,e3,l',e4,e5,e6⟩
   · have hng:(appendD d l r).1≠42:=by
      rcases a3 with a3 | ⟨_,_,a3⟩
      · rw [a3];rcases apply_errs l.book r with e | e | e | e <;> rw [e] <;> decide
      · have:compG d l≤G:=maxGen_most _ _ _ h.gen (fun b p hb hp=>h.gens b p (List.mem_of_mem_drop (List.mem_of_mem_take hb)) hp)
        omega
     refine ⟨?_,hw,.bad a1 a2 ?_ e hd,hng⟩
     · rw [e]
       exact ⟨h.lok,h.n49,h.gens.mono (Nat.le_succ _),Nat.le_succ_of_le h.gen,h.dok,.inl ⟨ho,hd,hi⟩⟩
     · rcases a3 with a3 | a3
       · exact .inl a3
       · exact .inr a3.2.1
   · refine ⟨⟨e2.lok,e2.n49,g1,g2,e2.ok,.inl ⟨e5,e4,e2⟩⟩,hw,.ok e1 e0 e3 e5 (fun h0 h1=>append_more h.lok.book e1 h0 h1),by rw [e1];decide⟩
   · refine ⟨⟨?_,by rw [hlen];exact h.n49,g1,g2,e4.ok,.inr ⟨e2,append_dead e1,l',e4,e5.trans e3.symm,e6,?_⟩⟩,hw,.cut e1 e3 e2 (.inr ?_),by rw [e1];decide⟩
     · exact append_ok_bad h.lok (by rw [e1];decide)
     · exact inv_gen e4 g1
     · cases ha:d.armed with
       | true=>rfl
       | false=>have:=hw.on ha ho;rw [e2] at this;cases this
 · have e:=append_dead40 (d:=d) r hd
   rw [e]
   exact ⟨⟨h.lok,h.n49,h.gens.mono (Nat.le_succ _),Nat.le_succ_of_le h.gen,h.dok,.inr ⟨ho,hd,l',h1,h2,h3,Nat.le_succ_of_le h4⟩⟩,(Wr.refl d).mono (by omega),.cut rfl rfl ho (.inl hd),(by show (40:Int)≠42;decide)⟩
end Go.Proofs.YtpphoeimakjjdaaGreatDoor
/-
  PLAIN, NO WALK: layer 12: what holds of a ledger whatever its disk holds.
-/
namespace Go.Proofs.YtpphoeimakjjdaaGreatDoor
open Go.RowKit

theorem add_zero2 {d:Dk} {l:Lg} {c:Bk} {b:B8} (h:(addD d l c b).1=0):(addD d l c b).2.2={ l with seq:=l.seq+1,used:=l.used+widthN b.length,book:=c }:=by
 unfold addD at h ⊢
 simp only at h ⊢
 split at h
 · rename_i e;exact absurd h e
 · rename_i e
   rw [if_neg e]
theorem append_okk {d:Dk} {l:Lg} {r:Rcd} (hk:l.Ok):(appendD d l r).2.2.Ok:=by
 by_cases h:(appendD d l r).1=0
 case neg=>exact append_ok_bad hk h
 unfold appendD at h ⊢
 split at h
 · cases h
 rename_i e1
 rw [if_neg e1]
 split at h
 · rename_i e2;exact absurd h e2
 rename_i e2
 rw [if_neg e2]
 have ha:(applyB l.book r).2=0:=Decidable.not_not.1 e2
 have hv:=apply_valid ha
 have hwd:=width_enc (apply_zero.1 ha).2.1
 have hwp:=width_pos (encB r).length
 split at h
 · rename_i e3
   rw [if_pos e3]
   split at h
   · rename_i e4;exact absurd h e4
   rename_i e4
   rw [if_neg e4]
   obtain ⟨gn,ar,sq,us,e,h1,h2,h3,h4,h5⟩:=comp_zero (d:=d) hk (Decidable.not_not.1 e4)
   rw [add_zero2 h,e]
   exact ⟨h1,h2,h3,by show sq+1≤us+_;omega,by show us+_≤24;omega,hv⟩
 · rename_i e3
   rw [if_neg e3,add_zero2 h]
   exact ⟨hk.gen1,hk.genM,hk.area,by have:=hk.seq;show l.seq+1≤l.used+_;omega,by show l.used+_≤24;omega,hv⟩
theorem compact_okk {d:Dk} {l:Lg} (hk:l.Ok):(compactD d l).2.2.Ok:=by
 by_cases h:(compactD d l).1=0
 · obtain ⟨gn,ar,sq,us,e,h1,h2,h3,h4,h5⟩:=comp_zero (d:=d) hk h
   rw [e]
   exact ⟨h1,h2,h3,h4,by show us≤24;omega,hk.book⟩
 · rcases compact_deadL h with e | e <;> rw [e]
   · exact hk.dead_
   · exact hk
theorem rec_width {l:List B8} {gen a seq:Nat} {d:B8} {n:Nat} (h:recS l gen a seq=some (d,n)):widthN d.length≤n:=by
 have hn:=rec_pos h
 obtain ⟨p,d',hp,hr,rfl,rfl⟩:=rec_some h
 have h1:=rest_len _ _ hr
 obtain ⟨b,_,hl,_⟩:=part_some hp
 have h2:p.data.length≤47:=by
  have:=(look_fits hl).2.2
  omega
 have:(p.data++d').length≤47 * p.parts:=by
  rw [List.length_append]
  omega
 unfold widthN
 omega
theorem scan_width (l:List B8) (gen:Nat):∀ (f a seq:Nat) (b:Bk),a≤l.length→(playB b (scanF l gen f a seq).1).2.1≤(playB b (scanF l gen f a seq).1).2.2∧(playB b (scanF l gen f a seq).1).2.2+a≤l.length
 | 0,a,seq,b,h=>by simpa [scanF,playB] using h
 | f+1,a,seq,b,h=>by
   unfold scanF
   cases hr:recS l gen a seq with
   | none=>simpa [playB] using h
   | some p =>
     obtain ⟨d,k⟩:=p
     have h1:=rec_fits hr
     have h2:=rec_width hr
     have h3:=width_pos d.length
     simp only [playB]
     split
     · simpa using h
     · rename_i r _
       split
       · have:=scan_width l gen f (a+k) (seq+1) (applyB b r).1 h1
         simp only
         omega
       · simpa using h
theorem read_okk {s:List B8} {gen k:Nat} (hg:1≤gen∧gen≤1073741824) (hk:k≤1):(readL s gen k).Ok:=by
 have hw:=scan_width (sideS s k) gen ((sideS s k).length+1) 0 0 Bk.new (Nat.zero_le _)
 have hl:(sideS s k).length≤24:=by unfold sideS;rw [List.length_take];omega
 exact ⟨hg.1,hg.2,hk,hw.1,by show (playB Bk.new (scanS (sideS s k) gen).1).2.2≤24;unfold scanS;omega,play_valid _ (by kernel_rfl)⟩
theorem open_okk {d d':Dk} {e:Int} {l:Lg} (h:openD d=(e,d',some l)):l.Ok∧e=0∧d'.secs.length=d.secs.length∧49≤d.secs.length:=by
 unfold openD at h
 split at h
 · cases h
 rename_i h1
 split at h
 · cases h
 split at h
 · rename_i l' hs
   simp only [Prod.mk.injEq,Option.some.injEq] at h
   obtain ⟨rfl,rfl,rfl⟩:=h
   refine ⟨?_,rfl,rfl,by omega⟩
   unfold stateS at hs
   cases hh:headS (d.secs.getD 0 []) with
   | none=>rw [hh] at hs;cases hs
   | some p =>
     rw [hh] at hs
     have hf:=head_fits (g:=p.1) (k:=p.2) hh
     cases hs
     exact read_okk ⟨hf.1,hf.2.1⟩ hf.2.2
 · split at h
   · simp only [Prod.mk.injEq,Option.some.injEq] at h
     obtain ⟨rfl,rfl,rfl⟩:=h
     exact ⟨read_okk ⟨by omega,by omega⟩ (by omega),rfl,name_len _ _ _,by omega⟩
   · cases h
end Go.Proofs.YtpphoeimakjjdaaGreatDoor
