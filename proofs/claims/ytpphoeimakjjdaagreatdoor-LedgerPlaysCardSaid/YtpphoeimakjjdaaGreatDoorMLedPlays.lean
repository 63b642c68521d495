/-
  THE LAW LedgerPlays: its walk.
-/
import Derived.Test.YtpphoeimakjjdaaGreatDoorMLedPr
import Derived.Test.YtpphoeimakjjdaaGreatDoorMWpL
import Derived.Test.YtpphoeimakjjdaaGreatDoorMLedRg19
import Derived.Test.YtpphoeimakjjdaaGreatDoorMLedRg18
import Derived.Deep.CutBlock
namespace Go.Proofs.YtpphoeimakjjdaaGreatDoor
set_option maxRecDepth 100000
set_option maxHeartbeats 8000000
open Go.RowKit Go.Shelf

theorem new_pl:∃ d1,openD (newD 49)=(0,d1,some newL)∧newL.Ok∧d1.secs.length=49:=by
 obtain ⟨d1,h1,h2,_,_⟩:=calm_new (d:=newD 49) (n:=49) (by omega) (by omega) rfl rfl (newD_ok (by omega) (by omega)) rfl rfl
 have:=open_okk h1
 exact ⟨d1,h1,this.1,by rw [this.2.2.1];simp [newD]⟩
def PlRel (W:World) (pd bs xd base:Nat) (sv:Value) (N:Nat) (s7 s9 s49:Value) (wr:World):Prop :=
 ∃ (j pl xm:Nat) (d:Dk) (l:Lg),s49=.int .i64 (j:Int)∧s7=.pointer (some ⟨pl,0,none⟩)∧s9=.pointer (some ⟨xm,0,none⟩)∧j≤N∧PR W wr pl pd bs xm xd base sv d l d l∧l.Ok∧d.secs.length=49
theorem lplays_any {W:World} {q0:Option Addr} {c0:Nat} {l0:List OpD} (hl:RdOp W (.slice q0 l0.length c0) l0) :
 Calls Tryz.prog 6 #[.slice q0 l0.length c0] W fun e w'=>e=.returned (.bool true)∧Mod [] W w':=by
 obtain ⟨d1,ho1,hl1⟩:=new_pl
 have HO':=Hj2 ho1 hl1
 have HL:=hide hl
 have hll:l0.length≤9223372036854775807:=hl.1
 clear hl ho1 hl1
 go_enter Tryz.func6,Tryz.ntmps6
 go_wp2_with (first
  | (go_at_call 12;refine (awake_any _).mono ?_;rintro e w1 ⟨rfl,m⟩;have H1:=hide m;clear m)
  | (go_at_call 10
     refine (dnew_any 49 (by omega) (by omega) _).mono ?_
     rintro e w2 ⟨rfl,hd,m⟩
     have H2:=Hj3 hd m (H1.out.then m)
     clear hd m)
  | (go_at_call 28
     refine (rnew9_any (n:=49) (by omega) (by omega) _).mono ?_
     rintro e w3 ⟨xd,sv,vs,rfl,hr,m,-⟩
     have H3:=hide (show D2 W w3 (w1.heap.size+1) w1.heap.size xd w2.heap.size sv (newD 49) (newD 49) from ⟨H2.out.1.mod m (by simp) (by simp),⟨vs,hr⟩,H2.out.2.2.then m,by have:=H1.out.size;have:=H2.out.1.lt;omega⟩)
     clear hr m H2)
  | (go_at_call 11
     refine (popen_eq H3.out HO'.out.1).mono ?_
     rintro e w4 ⟨pl,rfl,h4⟩
     have H4:=hide h4
     clear h4 H3)
  | (go_at_call 29
     refine (dopen_some H4.out HO'.out.1).mono ?_
     rintro e w5 ⟨xm,rfl,h5⟩
     have H5:=hide h5
     clear h5 H4)
  | fail)
 obtain ⟨pd,hpd⟩:∃ pd,w1.heap.size+1=pd:=⟨_,rfl⟩
 obtain ⟨bs,hbs⟩:∃ bs,w1.heap.size=bs:=⟨_,rfl⟩
 obtain ⟨base,hbase⟩:∃ bs,w2.heap.size=bs:=⟨_,rfl⟩
 have H6:=H5.out
 rw [hpd,hbs,hbase] at H6
 rw [hpd]
 have HP:=hide H6
 clear H6 H5 hpd hbs hbase
 go_loopw [7,9,49] (fun s7 s9 s49 wr=>PlRel W pd bs xd base sv l0.length s7 s9 s49 wr) (fun _ _ i _=>l0.length - (intOf i).toNat)
 case atStart=>exact ⟨0,pl,xm,d1,newL,rfl,rfl,rfl,Nat.zero_le _,HP.out,HO'.out.2⟩
 case round =>
  clear HP
  obtain ⟨j,pl,xm,d,l,rfl,rfl,rfl,hj,hp,hok,h49⟩:=hrel
  by_cases hlt:j<l0.length
  · have hji:(j:Int)<(l0.length:Int):=by omega
    obtain ⟨ob0,off,q,c,q',c',rfl,hobw,hcs,hra,hrb,hin⟩:=HL.out.at_ j hlt
    have hcs:=fun i hi=>(hp.s.md.cell (x:=⟨ob0,off+j * 14+i,none⟩) hobw (by simp)).trans (hcs i hi)
    generalize l0.getD j default=o at hcs hra hrb hin
    obtain ⟨okd,ok,⟨rk,⟨gi,gh,gp,gm,gs,gt⟩,ri,rs,rn,rbt,rl⟩⟩:=o
    simp only at hcs hra hrb hin
    have hlt1:gs≠[]→∀ k,k∈ob (.slice q gs.length c)→k<W.heap.size:=fun h=>hra.lt0 h
    have hlt2:rs≠[]→∀ k,k∈ob (.slice q' rs.length c')→k<W.heap.size:=fun h=>hrb.lt0 h
    have hra:=hra.mod hp.s.md (by simp)
    have hrb:=hrb.mod hp.s.md (by simp)
    obtain ⟨m1,hm1⟩:∃ m,gs.length=m:=⟨_,rfl⟩
    obtain ⟨m2,hm2⟩:∃ m,rs.length=m:=⟨_,rfl⟩
    rw [hm1,hm2] at hcs
    rw [hm1] at hra hlt1
    rw [hm2] at hrb hlt2
    have HLT:=Hj2 hlt1 hlt2
    clear hlt1 hlt2
    have y0:=hcs 0 (by decide)
    have y1:=hcs 1 (by decide)
    have y2:=hcs 2 (by decide)
    have y3:=hcs 3 (by decide)
    have y4:=hcs 4 (by decide)
    have y5:=hcs 5 (by decide)
    have y6:=hcs 6 (by decide)
    have y7:=hcs 7 (by decide)
    have y8:=hcs 8 (by decide)
    have y9:=hcs 9 (by decide)
    have y10:=hcs 10 (by decide)
    have y11:=hcs 11 (by decide)
    have y12:=hcs 12 (by decide)
    have y13:=hcs 13 (by decide)
    simp [cellsO,cellsR] at y0 y1 y2 y3 y4 y5 y6 y7 y8 y9 y10 y11 y12 y13
    obtain ⟨hik,hikk,⟨⟨_,hip,hil⟩,_,hir⟩⟩:=hin
    simp only at hik hikk hip hil hir
    have hkm:=(i64w_iff.1 hikk).2
    obtain ⟨C8,hC8⟩:∃ C8:Array Value,C8=#[.int .i64 okd,.int .i64 ok,.int .i64 rk,.int .i64 gi,.int .i64 gh,.string gp,.int .i64 gm,.slice q m1 c,.int .i64 gt,.int .i64 ri,.slice q' m2 c',.int .i64 rn,.int .i64 rbt,.int .i64 rl]:=⟨_,rfl⟩
    obtain ⟨W1,hW1⟩:∃ W1,W1=wr.alloc (.cells C8 53 (0,0)):=⟨_,rfl⟩
    have hb1:W1.heap[wr.heap.size]?=some (.cells C8 53 (0,0)):=by rw [hW1];exact heap_alloc_new wr _
    have hma:Mod [] wr W1:=by rw [hW1];exact (Mod.refl _ _).alloc _
    have HB:=Hj5 hb1 hma (hp.quiet hma) hra hrb
    have HKk:=Hj2 hok h49
    have HC8:=hide hC8
    have B1:=blk_cell hb1
    rw [hC8] at hW1 B1
    have hz:=hp.s.lts
    clear hcs hp hra hrb hb1 hma hik hikk hC8 hok h49
    go_upto_region 14 with fail
    rw [← hW1]
    clear hW1 y0 y1 y2 y3 y4 y5 y6 y7 y8 y9 y10 y11 y12 y13
    by_cases hk1:okd=1
    · subst hk1
      obtain ⟨t,ht⟩:∃ t,compactD d l=t:=⟨_,rfl⟩
      have HT:=Hj3 ht (show t.2.2.Ok by rw [← ht];exact compact_okk HKk.out.1) (show t.2.1.secs.length=49 by rw [← ht];exact (comp_len d l).trans HKk.out.2)
      clear ht
      go_wp2_with (first
       | (go_at_call 21;refine (pcompact_eq HB.out.2.2.1 HKk.out.1 (by have:=HKk.out.2;omega) HT.out.1).mono ?_;rintro e w6 ⟨rfl,h6,-⟩;have H6:=hide h6;clear h6 B1)
       | (go_at_call 30;refine (dcompact_eq H6.out HKk.out.1 (by have:=HKk.out.2;omega) HT.out.1).mono ?_;rintro e w7 ⟨rfl,h7,-⟩;have HZ:=hide h7;clear h7 H6)
       | (go_at_call 34;refine (psame_eq HZ.out HT.out.2.1).mono ?_;rintro e w9 ⟨rfl,m9⟩;have H9:=hide (HZ.out.quiet m9);clear m9)
       | fail)
      go_roundw
      case rel=>exact ⟨j+1,pl,xm,t.2.1,t.2.2,by go_num,rfl,rfl,by omega,H9.out,HT.out.2⟩
      case measure=>simp [intOf];omega
    have hk1b:(okd==1)=false:=by simpa using hk1
    by_cases hk2:okd=2
    · subst hk2
      go_wp2_with (first
       | (go_at_call 25;refine (parm_eq HB.out.2.2.1 ok hkm).mono ?_;rintro e w6 ⟨rfl,h6,m6⟩
          have B6:=blk_cell (m6.at_ HB.out.1 (fun e=>by simp at e;omega))
          rw [HC8.out] at B6
          have H6:=hide h6;clear h6 B1 m6)
       | (go_at_call 31;refine (darm_eq H6.out ok hkm).mono ?_;rintro e w7 ⟨rfl,h7⟩;have HZ:=hide h7;clear h7 H6)
       | (go_at_call 34;refine (psame_eq HZ.out HKk.out.1).mono ?_;rintro e w9 ⟨rfl,m9⟩;have H9:=hide (HZ.out.quiet m9);clear m9)
       | fail)
      go_roundw
      case rel=>exact ⟨j+1,pl,xm,armD d ok,l,by go_num,rfl,rfl,by omega,H9.out,HKk.out.1,HKk.out.2⟩
      case measure=>simp [intOf];omega
    have hk2b:(okd==2)=false:=by simpa using hk2
    by_cases hk3:okd=3
    · subst hk3
      obtain ⟨e0,d',o,ht⟩:∃ e0 d' o,openD (onD d)=(e0,d',o):=⟨_,_,_,rfl⟩
      cases o with
      | some l' =>
        have HT:=Hj3 ht (open_okk ht).1 (show d'.secs.length=49 from (open_okk ht).2.2.1.trans HKk.out.2)
        clear ht hk1b hk2b
        go_wp2_with (first
         | (go_at_call 27;refine (pon_eq HB.out.2.2.1.dsk).mono ?_;rintro e w6 ⟨rfl,h6⟩;have H6:=hide h6;clear h6 B1)
         | (go_at_call 32;refine (don_eq H6.out).mono ?_;rintro e w7 ⟨rfl,h7⟩;have H7:=hide h7;clear h7 H6)
         | (go_at_call 11;refine (popen_eq H7.out HT.out.1).mono ?_;rintro e w8 ⟨pl2,rfl,h8⟩;have H8:=hide h8;clear h8 H7)
         | (go_at_call 29;refine (dopen_some H8.out HT.out.1).mono ?_;rintro e w9 ⟨xm2,rfl,h9⟩;have HZ:=hide h9;clear h9 H8)
         | (go_at_call 34;refine (psame_eq HZ.out HT.out.2.1).mono ?_;rintro e w10 ⟨rfl,m9⟩;have H9:=hide (HZ.out.quiet m9);clear m9)
         | fail)
        go_roundw
        case rel=>exact ⟨j+1,pl2,xm2,d',l',by go_num,rfl,rfl,by omega,H9.out,HT.out.2⟩
        case measure=>simp [intOf];omega
      | none =>
        have HT:=Hj2 ht (open_none ht (by show 49≤d.secs.length;have:=HKk.out.2;omega)).1
        have i0:(e0 != e0)=false:=by simp
        clear ht hk1b hk2b
        go_wp2_with (first
         | (go_at_call 27;refine (pon_eq HB.out.2.2.1.dsk).mono ?_;rintro e w6 ⟨rfl,h6⟩;have H6:=hide h6;clear h6 B1)
         | (go_at_call 32;refine (don_eq H6.out).mono ?_;rintro e w7 ⟨rfl,h7⟩;have H7:=hide h7;clear h7 H6)
         | (go_at_call 11;refine (popen_eq H7.out HT.out.1).mono ?_;rintro e w8 ⟨rfl,h8⟩;have H8:=hide h8;clear h8 H7)
         | (go_at_call 29;refine (dopen_none H8.out HT.out.1).mono ?_;rintro e w9 ⟨rfl,h9⟩;have HZ:=hide h9;clear h9 H8)
         | (go_at_call 26;refine (off_any HZ.out.p).mono ?_;rintro e wx ⟨rfl,hx⟩;rw [hx,HT.out.2];clear hx)
         | fail)
        go_ret
        exact ⟨rfl,HZ.out.md⟩
    have hk3b:(okd==3)=false:=by simpa using hk3
    obtain ⟨t,ht⟩:∃ t,appendD d l ⟨rk,⟨gi,gh,gp,gm,gs,gt⟩,ri,rs,rn,rbt,rl⟩=t:=⟨_,rfl⟩
    have HT:=Hj3 ht (show t.2.2.Ok by rw [← ht];exact append_okk HKk.out.1) (show t.2.1.secs.length=49 by rw [← ht];exact (append_len d l _).trans HKk.out.2)
    have how:=ownRec_any (w:=W1.drew) (r:=⟨rk,⟨gi,gh,gp,gm,gs,gt⟩,ri,rs,rn,rbt,rl⟩) (sv:=.slice q m1 c) (tv:=.slice q' m2 c') (HB.out.2.2.2.1.mod HB.out.2.1.drew (by simp)) (HB.out.2.2.2.2.mod HB.out.2.1.drew (by simp)) hil hir
    unfold aggR cellsR at how
    simp only at how
    obtain ⟨T,hT⟩:∃ T,T=pl::pd::bs::xm::xd::ob sv:=⟨_,rfl⟩
    have hTl:∀ k,k∈T→W.heap.size≤k∧k≠wr.heap.size:=fun k hk=>by
     rw [hT] at hk
     have h1:=HB.out.2.2.1.own
     have h2:=HB.out.2.2.1.s.lo
     rcases List.mem_cons.1 hk with rfl | hk
     · omega
     rcases List.mem_cons.1 hk with rfl | hk
     · omega
     rcases List.mem_cons.1 hk with rfl | hk
     · omega
     refine ⟨(h1 k hk).1,fun e=>?_⟩
     obtain ⟨-,-,-,-,cs,T',hb,-,-⟩:=h1 k hk
     obtain ⟨vs',b1',gv',lv',hr⟩:=HB.out.2.2.1.r
     have hb2:=HB.out.1
     subst e
     rcases List.mem_cons.1 hk with e | e
     · have:=hr.blk
       rw [← e,hb2] at this
       simp at this
     · rcases List.mem_cons.1 e with e | e
       · have:=hr.dm.blk
         rw [← e,hb2] at this
         simp at this
       · exact row_not hr.dm.rows.row hb2 (by decide) e
    have hTp:∀ k,k∈[pl,pd,bs]→k∈T:=fun k hk=>by rw [hT];simp at hk ⊢;omega
    have hTd:∀ k,k∈xm::xd::ob sv→k∈T:=fun k hk=>by rw [hT];exact List.mem_cons_of_mem _ (List.mem_cons_of_mem _ (List.mem_cons_of_mem _ hk))
    have HTT:=Hj3 hTl hTp hTd
    clear hTl hTp hTd hT ht
    go_upto_region 16 with fail
    refine pB 999 (Mod T W1) ((Mod.refl _ _).drew) ?_
    refine pP 0 ?_;refine pP 1 ?_;refine pP 5 ?_;refine pP 6 ?_
    refine pH 2 rfl (fun w h=>by have D:=blk_cell (Mod.at_ h HB.out.1 (fun e=>(HTT.out.1 _ e).2 rfl));rw [HC8.out] at D;go_simp;try with_reducible rfl) ?_
    refine pH 7 rfl (fun w h=>by have D:=blk_cell (Mod.at_ h HB.out.1 (fun e=>(HTT.out.1 _ e).2 rfl));rw [HC8.out] at D;go_simp;try with_reducible rfl) ?_
    refine pX 3 fun hT K HK=>?_
    go_simp
    refine how.mono ?_
    rintro e w6 ⟨p1,n1,d1',p2,n2,d2',rfl,hr1,hr2,-,m6⟩
    simp only [aggR,cellsR]
    have H6:=Hj4 (rdN_of_row hr1) (rdN_of_row hr2) m6 (HB.out.2.2.1.quiet ((Mod.refl [] W1).drew.then m6))
    refine HK.out _ _ _ (hT.then (m6.mono (by simp))) ?_
    clear HK K hT hr1 hr2 m6 how
    refine pX 4 fun hT K HK=>?_
    go_simp
    refine (pappend_eq (r:=⟨rk,⟨gi,gh,gp,gm,gs,gt⟩,ri,rs,rn,rbt,rl⟩) H6.out.2.2.2 HKk.out.1 (by have:=HKk.out.2;omega) H6.out.1 H6.out.2.1 (by simp only;omega) HT.out.1).mono ?_
    rintro e w7 ⟨rfl,h7,m7⟩
    have H7:=hide h7
    refine HK.out _ _ _ (hT.then (m7.mono (fun k hk _=>HTT.out.2.1 k hk))) ?_
    clear HK K hT h7 m7 H6
    refine pX 8 fun hT K HK=>?_
    go_simp
    refine (dappend_eq (r:=⟨rk,⟨gi,gh,gp,gm,gs,gt⟩,ri,rs,rn,rbt,rl⟩) (rs:=.slice q m1 c) (rt:=.slice q' m2 c') H7.out HKk.out.1 (by have:=HKk.out.2;omega) ((HB.out.2.2.2.1.mod HB.out.2.1 (by simp)).mod_ne hT (fun he k hk hkT=>by have:=HLT.out.1 he k hk;have:=(HTT.out.1 k hkT).1;omega)) ((HB.out.2.2.2.2.mod HB.out.2.1 (by simp)).mod_ne hT (fun he k hk hkT=>by have:=HLT.out.2 he k hk;have:=(HTT.out.1 k hkT).1;omega)) (by simp only;omega) HLT.out.1 HLT.out.2 HT.out.1).mono ?_
    rintro e w8 ⟨rfl,h8,m8⟩
    have HZ:=hide h8
    refine HK.out _ _ _ (hT.then (m8.mono (fun k hk _=>HTT.out.2.2 k hk))) ?_
    clear HK K hT h8 m8 H7
    refine pP 9 ?_;refine pP 10 ?_
    refine pE fun hT=>?_
    clear hT
    go_wp2_with (first
     | (go_at_call 34;refine (psame_eq HZ.out HT.out.2.1).mono ?_;rintro e w9 ⟨rfl,m9⟩;have H9:=hide (HZ.out.quiet m9);clear m9)
     | fail)
    go_roundw
    case rel=>exact ⟨j+1,pl,xm,t.2.1,t.2.2,by go_num,rfl,rfl,by omega,H9.out,HT.out.2⟩
    case measure=>simp [intOf];omega
  · obtain rfl:j=l0.length:=by omega
    have HG:=Hj3 hp hok h49
    clear hp hok h49
    obtain ⟨vs',b1,gv,lv,hr⟩:=HG.out.1.r
    have HR:=Hj3 hr.dm HG.out.1.s.dk HG.out.1.s.md
    clear hr HG
    go_upto_region 35 with fail
    refine pB 999 (Mod [] wr) ((Mod.refl _ _).drew) ?_
    refine pP 0 ?_;refine pP 2 ?_;refine pP 3 ?_;refine pP 4 ?_
    refine pH 5 rfl (fun w h=>by have D:=blk_cell (Mod.at_ h HR.out.1.blk (by simp));go_simp;try with_reducible rfl) ?_
    refine pX 1 fun hT K HK=>?_
    go_simp
    refine (image_any (HR.out.2.1.mod hT (by simp) (by simp))).mono ?_
    rintro e w6 ⟨v,vs6,rfl,hv,m6⟩
    have H6:=hide hv
    refine HK.out _ _ _ (hT.then m6) ?_
    clear HK K hT hv m6
    refine pX 6 fun hT K HK=>?_
    go_simp
    refine (rsame9_any H6.out.rda (HR.out.1.quiet hT).rows.rda).mono ?_
    rintro e w7 ⟨rfl,m7⟩
    refine HK.out _ _ _ (hT.then m7) ?_
    clear HK K hT m7 H6
    refine pP 7 ?_
    refine pE fun hT=>?_
    have HE:=hide (HR.out.2.2.then hT)
    clear hT
    go_wp2_with fail
    go_ret
    exact ⟨rfl,HE.out⟩
end Go.Proofs.YtpphoeimakjjdaaGreatDoor
