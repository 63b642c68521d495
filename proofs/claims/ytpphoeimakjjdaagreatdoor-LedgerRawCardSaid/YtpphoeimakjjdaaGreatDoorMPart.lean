/-
  Look LedRg12 LedRg13 Part: see the remarks below.
-/
import Derived.Test.YtpphoeimakjjdaaGreatDoorMRds
import Derived.Test.YtpphoeimakjjdaaGreatDoorMOctS
import Derived.Test.YtpphoeimakjjdaaGreatDoorMDecB
import Derived.Test.YtpphoeimakjjdaaGreatDoorMTrim
import Derived.Shelf.Abstract
import Derived.BigQuiet
import Derived.Deep.RegionHeld3
import Derived.Deep.DeepCutAuto
import Derived.Deep.DrawnRows
import Derived.StillTailTactics
import Derived.Test.YtpphoeimakjjdaaGreatDoorMLedRgA
import Derived.Test.YtpphoeimakjjdaaGreatDoorMWpL
/-
  WALKS: layer 10: Look.
-/
namespace Go.Proofs.YtpphoeimakjjdaaGreatDoor
set_option maxRecDepth 100000
set_option maxHeartbeats 4000000
open Go.RowKit Go.Shelf

def LookTo (w:World) (o:Option Prt) (e:Ending) (w':World):Prop :=
 match o with
 | none=>e=.returned (.tuple #[.agg #[.int .i64 0,.int .i64 0,.int .i64 0,.int .i64 0,.slice none 0 0],.int .i64 43])∧Mod [] w w'
 | some p=>∃ q c,e=.returned (.tuple #[.agg #[.int .i64 (p.gen:Int),.int .i64 (p.seq:Int),.int .i64 (p.index:Int),.int .i64 (p.parts:Int),.slice q p.data.length c],.int .i64 0])∧RowY w' w.heap.size (.slice q p.data.length c) p.data∧Mod [] w w'
def prtCells (p:Prt) (v:Value):Array Value:=#[.int .i64 (p.gen:Int),.int .i64 (p.seq:Int),.int .i64 (p.index:Int),.int .i64 (p.parts:Int),v]
def zeroP:List Value:=[.int .i64 0,.int .i64 0,.int .i64 0,.int .i64 0,.slice none 0 0]
def objP0:Obj:=.cells #[.int .i64 0,.int .i64 0,.int .i64 0,.int .i64 0,.slice none 0 0] 118 (0,0)
theorem look_none {w W:World} {b:B8} (hn:lookS b=none) {tmps:Array Value} (h2:tmps.getD 2 undef=.pointer (some ⟨w.heap.size,0,none⟩)) (h3:tmps.getD 3 undef=.int .i64 43) (hb:∃ cs T,cs.size=5∧W.heap[w.heap.size]?=some (.cells cs T (0,0))) (hm:Mod [w.heap.size] w W) :
 bodyPost Tryz.prog Tryz.f73 (fun e w'=>LookTo w (lookS b) e w') Exit.ret { tmps:=tmps,defers:=[] } (stL W w.heap.size 0 zeroP):=by
 obtain ⟨cs,T,hs,hb⟩:=hb
 have q:=stL_all hb zeroP hs
 refine bodyPost_ret (v:=.tuple #[.agg zeroP.toArray,.int .i64 43]) (res_cell2 Tryz.results73 _ _ h2 q Tryz.isAgg118 Tryz.sizeOf118 (by rw [h3])) rfl ?_
 rw [hn]
 exact ⟨rfl,(stL_mod (by simp) _ _ _ hm).mono (fun x hx hlt=>by simp at hx;omega)⟩
theorem look_some {w X:World} {b:B8} {p:Prt} {q:Option Addr} {c:Nat} (hs:lookS b=some p) {tmps:Array Value} (h2:tmps.getD 2 undef=.pointer (some ⟨w.heap.size,0,none⟩)) (h3:tmps.getD 3 undef=.int .i64 0) (hb:∃ cs T,cs.size=5∧X.heap[w.heap.size]?=some (.cells cs T (0,0)))
 (hr:RowY X (w.heap.size+1) (.slice q p.data.length c) p.data) (hm:Mod [w.heap.size] w X) :
 bodyPost Tryz.prog Tryz.f73 (fun e w'=>LookTo w (lookS b) e w') Exit.ret { tmps:=tmps,defers:=[] } (stL X w.heap.size 0 [.int .i64 (p.gen:Int),.int .i64 (p.seq:Int),.int .i64 (p.index:Int),.int .i64 (p.parts:Int),.slice q p.data.length c]):=by
 obtain ⟨cs,T,hs5,hb⟩:=hb
 have r:=stL_all hb [.int .i64 (p.gen:Int),.int .i64 (p.seq:Int),.int .i64 (p.index:Int),.int .i64 (p.parts:Int),.slice q p.data.length c] hs5
 refine bodyPost_ret (v:=.tuple #[.agg #[.int .i64 (p.gen:Int),.int .i64 (p.seq:Int),.int .i64 (p.index:Int),.int .i64 (p.parts:Int),.slice q p.data.length c],.int .i64 0]) (res_cell2 Tryz.results73 _ _ h2 r Tryz.isAgg118 Tryz.sizeOf118 (by rw [h3])) rfl ?_
 rw [hs]
 refine ⟨q,c,rfl,?_,(stL_mod (by simp) _ _ _ hm).mono (fun x hx hlt=>by simp at hx;omega)⟩
 refine (hr.mod (S:=[w.heap.size]) (stL_mod (by simp) _ _ _ (Mod.refl _ _)) (fun k hk e=>?_)).base (Nat.le_succ _)
 have:=(hr.blk k hk).1
 simp at e
 omega
theorem meets (W1 X:World) (hX:X.heap[W1.heap.size]?=some (.cells zeroP.toArray 118 (0,0))) (hm:Mod [W1.heap.size] W1 X) (a b c d:Int) :
 (((((X.setCell ⟨W1.heap.size,0,none⟩ (.int .i64 a)).setCell ⟨W1.heap.size,1,none⟩ (.int .i64 b)).setCell ⟨W1.heap.size,2,none⟩ (.int .i64 c)).setCell ⟨W1.heap.size,3,none⟩ (.int .i64 d)).setCell ⟨W1.heap.size,4,none⟩ (.slice none 0 0)).heap[W1.heap.size]?=some (.cells #[.int .i64 a,.int .i64 b,.int .i64 c,.int .i64 d,.slice none 0 0] 118 (0,0))∧W1.heap.size≤W1.heap.size ∧
   Mod [] W1 (((((X.setCell ⟨W1.heap.size,0,none⟩ (.int .i64 a)).setCell ⟨W1.heap.size,1,none⟩ (.int .i64 b)).setCell ⟨W1.heap.size,2,none⟩ (.int .i64 c)).setCell ⟨W1.heap.size,3,none⟩ (.int .i64 d)).setCell ⟨W1.heap.size,4,none⟩ (.slice none 0 0)) :=
 ⟨stL_all hX [.int .i64 a,.int .i64 b,.int .i64 c,.int .i64 d,.slice none 0 0] rfl,Nat.le_refl _,(stL_mod (S:=[W1.heap.size]) (by simp) [.int .i64 a,.int .i64 b,.int .i64 c,.int .i64 d,.slice none 0 0] 0 X hm).mono (fun x hx hlt=>by simp at hx;omega)⟩
theorem look_any {w:World} {u:Value} {b:B8} (hu:RdY w u b) :
 Calls Tryz.prog 73 #[u] w fun e w'=>LookTo w (lookS b) e w':=by
 have h1:b.length≤9223372036854775807:=hu.1
 obtain ⟨q,c,rfl⟩:=hu.len
 have hcap:=hu.cap
 by_cases hl:b.length=64
 · rw [hl] at hu hcap ⊢
   obtain ⟨bb,off,rfl,hbb,-⟩:=hu.at_ 0 (by omega)
   have r60:RdY w (.slice (some ⟨bb,off+60,none⟩) 4 (c - 60)) (b.drop 60):=hu.cutA hl 60 (by decide)
   have r4:RdY w (.slice (some ⟨bb,off+4,none⟩) 60 (c - 4)) (b.drop 4):=hu.cutA hl 4 (by decide)
   have rs:RdY w (.slice (some ⟨bb,off,none⟩) 60 c) (b.take 60):=hu.takeA hl 60 (by decide)
   obtain ⟨W,hW⟩:∃ W,w.alloc objP0=W:=⟨_,rfl⟩
   have g0:Gr w W:=by rw [← hW];exact (Gr.refl w).alloc _
   have hW0:W.heap[w.heap.size]?=some (.cells zeroP.toArray 118 (0,0)):=by rw [← hW];exact heap_alloc_new w _
   have z0:W.cell? ⟨w.heap.size,0,none⟩=some (.int .i64 0):=blk_cell hW0 0
   have z1:W.cell? ⟨w.heap.size,1,none⟩=some (.int .i64 0):=blk_cell hW0 1
   have z2:W.cell? ⟨w.heap.size,2,none⟩=some (.int .i64 0):=blk_cell hW0 2
   have z3:W.cell? ⟨w.heap.size,3,none⟩=some (.int .i64 0):=blk_cell hW0 3
   have z4:W.cell? ⟨w.heap.size,4,none⟩=some (.slice none 0 0):=blk_cell hW0 4
   have y0:=blk_free hW0 0
   have y1:=blk_free hW0 1
   have y2:=blk_free hW0 2
   have y3:=blk_free hW0 3
   have y4:=blk_free hW0 4
   have hn60:¬ c=60:=by omega
   have hn4:¬ c=4:=by omega
   have hl60:4≤(b.drop 60).length:=by simp;omega
   have hl4:4≤(b.drop 4).length:=by simp;omega
   by_cases hc:ofFour (b.drop 60)=sumB (b.take 60)
   · have bc:((ofFour (b.drop 60):Int) != (sumB (b.take 60):Int))=false:=by simp;omega
     have hcn:=fun (n:Nat)=>number_any ((r60.gr g0).gr ((Gr.refl _).drewN n)) hl60
     have hsm:=fun (n:Nat)=>(sum_any ((rs.gr g0).gr ((Gr.refl _).drewN n))).mono (R':=fun e w'=>e=.returned (.int .u32 (sumB (b.take 60):Int))∧w'=W.drewN n) (fun _ _ ⟨p,q⟩=>⟨p,q.symm⟩)
     have hslt:=sumB_lt (b.take 60)
     obtain ⟨b8,o8,hq8,-,c8⟩:=hu.at_ 8 (by omega)
     simp only [Option.some.injEq,Addr.mk.injEq,and_true] at hq8
     obtain ⟨rfl,rfl⟩:=hq8
     obtain ⟨b8,o8,hq8,-,c9⟩:=hu.at_ 9 (by omega)
     simp only [Option.some.injEq,Addr.mk.injEq,and_true] at hq8
     obtain ⟨rfl,rfl⟩:=hq8
     obtain ⟨b8,o8,hq8,-,c10⟩:=hu.at_ 10 (by omega)
     simp only [Option.some.injEq,Addr.mk.injEq,and_true] at hq8
     obtain ⟨rfl,rfl⟩:=hq8
     unfold y8 at c8 c9 c10
     have hg:=number_any (hu.gr (g0.drewN 0)) (by omega)
     have hs:=number_any (r4.gr (g0.drewN 0)) hl4
     have HC:=hide (show decide (ofFour (b.drop 60)=sumB (b.take 60))=true from by rw [hc];simp)
     have HL:=Hj3 hl hc hW0
     have HR:=Hj4 hu r4 hl4 hl60
     have lt8:=byte_lt (b.getD 8 0)
     have lt9:=byte_lt (b.getD 9 0)
     have lt10:=byte_lt (b.getD 10 0)
     clear hg hs hl hc hW0
     generalize hx60:ofFour (b.drop 60)=x60 at hcn bc HL
     generalize hxs:sumB (b.take 60)=xs at hsm bc HL hslt
     clear hx60 hxs
     go_enter Tryz.func73,Tryz.ntmps73
     go_wp2_with fail
     change Code.wp _ _ _ _ (w.alloc objP0)
     rw [hW]
     go_quiet ((first | (go_at_call 102;exact Calls.quiet_of (hcn _)) | (go_at_call 103;exact Calls.quiet_of_same (hsm _))))
     clear hcn hsm
     have gW1:Gr w (W.drewN nq):=g0.drewN nq
     have c8':=gW1.kept c8
     have c9':=gW1.kept c9
     have c10':=gW1.kept c10
     have HZ:=Hj5 z0 z1 z2 z3 z4
     have HF:=Hj5 y0 y1 y2 y3 y4
     clear z0 z1 z2 z3 z4 y0 y1 y2 y3 y4 c8 c9 c10
     go_upto_region 3 with fail
     obtain ⟨W1,hW1⟩:∃ W1,W.drewN nq=W1:=⟨_,rfl⟩
     rw [hW1] at gW1 c8' c9' c10' ⊢
     generalize hy8:b.getD 8 0=v8 at c8' lt8
     generalize hy9:b.getD 9 0=v9 at c9' lt9
     go_cut [4] (fun s4 wx=>∃ bx,s4=.pointer (some ⟨bx,0,none⟩)∧wx.heap[bx]?=some (.cells (prtCells ⟨ofFour b,ofFour (b.drop 4),v8.toNat,v9.toNat,[]⟩ (.slice none 0 0)) 118 (0,0))∧W1.heap.size≤bx∧Mod [] W1 wx)
     case first =>
      have t1:Hid True:=hide trivial
      have t2:Hid True:=hide trivial
      obtain ⟨hdc,hdf⟩:=drewN_new W1
      have hw8:IntKind.i64.wrap (v8.toNat:Int)=(v8.toNat:Int):=IntWalk.i64_in _ (by omega)
      have hw9:IntKind.i64.wrap (v9.toNat:Int)=(v9.toNat:Int):=IntWalk.i64_in _ (by omega)
      have hbW:bb<W1.heap.size:=Nat.lt_of_lt_of_le hbb gW1.size
      have hne1:¬ bb=W1.heap.size:=by omega
      have hne2:¬ W1.heap.size=bb:=by omega
      have ha8:∀ (o:Obj),(W1.alloc o).cell? ⟨bb,off+8,none⟩=some (.int .u8 (v8.toNat:Int)):=fun o=>((Gr.refl W1).alloc o).kept c8'
      have ha9:∀ (o:Obj),(W1.alloc o).cell? ⟨bb,off+9,none⟩=some (.int .u8 (v9.toNat:Int)):=fun o=>((Gr.refl W1).alloc o).kept c9'
      have hb8:∀ (n:Nat) (o:Obj),((W1.drewN n).alloc o).cell? ⟨bb,off+8,none⟩=some (.int .u8 (v8.toNat:Int)):=fun n o=>(((Gr.refl W1).drewN n).alloc o).kept c8'
      have hb9:∀ (n:Nat) (o:Obj),((W1.drewN n).alloc o).cell? ⟨bb,off+9,none⟩=some (.int .u8 (v9.toNat:Int)):=fun n o=>(((Gr.refl W1).drewN n).alloc o).kept c9'
      go_region_held3 (fun w'=>w'.cell? ⟨bb,off+8,none⟩=some (.int .u8 (v8.toNat:Int))∧w'.cell? ⟨bb,off+9,none⟩=some (.int .u8 (v9.toNat:Int)))
       (first | go_keep | fail)
       (first
         | (go_at_call 102;have tk:=t1;refine (number_any (HR.out.1.gr (gW1.trans (by repeat (first | exact Gr.refl _ | apply Gr.drew | apply Gr.drewN | apply Gr.alloc)))) (by rw [HL.out.1];decide)).mono ?_;rintro e w' ⟨rfl,n,rfl⟩;clear t1 tk)
         | (go_at_call 102;have tk:=t2;refine (number_any (HR.out.2.1.gr (gW1.trans (by repeat (first | exact Gr.refl _ | apply Gr.drew | apply Gr.drewN | apply Gr.alloc)))) HR.out.2.2.1).mono ?_;rintro e w' ⟨rfl,n,rfl⟩;clear t2 tk)
         | fail)
      all_goals
       go_wp2_with fail
       go_meet
       case rel =>
       first
        | exact ⟨W1.heap.size,rfl,meets W1 ((W1.drewN _).alloc _) (heap_alloc_new _ _) (((Mod.refl [W1.heap.size] W1).drewN _).alloc _) _ _ _ _⟩
        | exact ⟨W1.heap.size,rfl,meets W1 (((W1.drewN _).alloc _).drewN _) (heap_alloc_new _ _) ((((Mod.refl [W1.heap.size] W1).drewN _).alloc _).drewN _) _ _ _ _⟩
        | fail
     case rest =>
     obtain ⟨bx,rfl,hbx,hbx2,hmx⟩:=hcut
     obtain ⟨W2,rfl⟩:∃ W2:World,W2=wc:=⟨_,rfl⟩
     have k0:W2.cell? ⟨bx,0,none⟩=some (.int .i64 (ofFour b:Int)):=blk_cell hbx 0
     have k1:W2.cell? ⟨bx,1,none⟩=some (.int .i64 (ofFour (b.drop 4):Int)):=blk_cell hbx 1
     have k2:W2.cell? ⟨bx,2,none⟩=some (.int .i64 (v8.toNat:Int)):=blk_cell hbx 2
     have k3:W2.cell? ⟨bx,3,none⟩=some (.int .i64 (v9.toNat:Int)):=blk_cell hbx 3
     have e10:=hmx.kept c10' (by simp)
     generalize hy10:b.getD 10 0=v10 at e10 lt10
     have HB:=Hj3 hbx hbx2 hmx
     clear hbx hbx2 hmx c8' c9' c10'
     generalize hxa:ofFour b=ga at *
     generalize hxb:ofFour (b.drop 4)=gb at *
     generalize hna:v8.toNat=na at *
     generalize hnb:v9.toNat=nb at *
     generalize hnc:v10.toNat=nc at *
     obtain ⟨ci,hci⟩:∃ ci:Int,(nc:Int)=ci:=⟨_,rfl⟩
     rw [hci] at e10
     have hci0:0≤ci:=by omega
     have hci1:ci<256:=by omega
     have HE:=Hj9 hxa hxb hna hnb hnc hy8 hy9 hy10 hci
     clear hxa hxb hna hnb hnc hy8 hy9 hy10 hci
     go_upto_if 47 with fail
     go_cut [6] (fun s6 wx=>s6=.bool (fullB nc na nb)∧wx=W2)
     case first =>
      by_cases hlast:na+1=nb
      · have b1:((na:Int)==(nb:Int) - 1)=true:=by simp;omega
        have HH:=hide hlast
        clear hlast
        go_wp2_with fail
        all_goals
         go_meet
         case rel =>
          have hci:=HE.out.2.2.2.2.2.2.2.2
          refine ⟨congrArg Value.bool ?_,rfl⟩
          rw [Bool.eq_iff_iff,full_iff,if_pos HH.out]
          simp
          omega
      · have b1:((na:Int)==(nb:Int) - 1)=false:=by simp;omega
        have HH:=hide hlast
        clear hlast
        go_wp2_with fail
        all_goals
         go_meet
         case rel =>
          have hci:=HE.out.2.2.2.2.2.2.2.2
          refine ⟨congrArg Value.bool ?_,rfl⟩
          rw [Bool.eq_iff_iff,full_iff,if_neg HH.out]
          simp
          omega
     case rest =>
     obtain ⟨rfl,rfl⟩:=hcut
     go_upto_region 8 with fail
     go_cut [7] (fun s7 wx=>s7=.bool (fitsB ga gb na nb)∧wx=wc)
     case first =>
      go_wp2_with fail
      all_goals
       go_meet
       case rel =>
        refine ⟨congrArg Value.bool ?_,rfl⟩
        rw [Bool.eq_iff_iff,fits_iff]
        simp
        omega
     case rest =>
     obtain ⟨rfl,rfl⟩:=hcut
     obtain ⟨W2,rfl⟩:∃ W2:World,W2=wc:=⟨_,rfl⟩
     obtain ⟨hxa,hxb,hna,hnb,hnc,hy8,hy9,hy10,hci⟩:=HE.out
     have hlS:lenS b=nc:=by unfold lenS;rw [hy10,hnc]
     have hW1z:W1.heap[w.heap.size]?=some (.cells zeroP.toArray 118 (0,0)):=by rw [← hW1];exact (((Gr.refl W).drewN nq).heap (lt_of_block HL.out.2.2)).trans HL.out.2.2
     have hbz:W2.heap[w.heap.size]?=some (.cells zeroP.toArray 118 (0,0)):=HB.out.2.2.at_ hW1z (by simp)
     have mz:Mod [] w W2:=(gW1.mod []).then HB.out.2.2
     have z0:W2.cell? ⟨w.heap.size,0,none⟩=some (.int .i64 0):=blk_cell hbz 0
     have z1:W2.cell? ⟨w.heap.size,1,none⟩=some (.int .i64 0):=blk_cell hbz 1
     have z2:W2.cell? ⟨w.heap.size,2,none⟩=some (.int .i64 0):=blk_cell hbz 2
     have z3:W2.cell? ⟨w.heap.size,3,none⟩=some (.int .i64 0):=blk_cell hbz 3
     have z4:W2.cell? ⟨w.heap.size,4,none⟩=some (.slice none 0 0):=blk_cell hbz 4
     have y0:=blk_free hbz 0
     have y1:=blk_free hbz 1
     have y2:=blk_free hbz 2
     have y3:=blk_free hbz 3
     have y4:=blk_free hbz 4
     have hbxw:w.heap.size<bx:=by have:=lt_of_block hW1z;have:=HB.out.2.1;omega
     have HM:=Hj3 hbz mz hlS
     clear hxa hxb hna hnb hnc hy8 hy9 hy10 hci hlS hW1z hbz mz
     have hdead:∀ (P:Prop),(okLook b=true→P)→¬ P→lookS b=none:=fun P h1 h2=>by
      unfold lookS
      rw [if_neg (fun h=>h2 (h1 h))]
     have hlk:okLook b=true→fitsB ga gb na nb=true∧fullB nc na nb=true∧zeroB ((b.drop (11+nc)).take (49 - nc))=true:=fun h=>by
      obtain ⟨hxa,hxb,hna,hnb,hnc,hy8,hy9,hy10,hci⟩:=HE.out
      obtain ⟨_,_,h3,h4,h5⟩:=okLook_iff.1 h
      rw [HM.out.2.2] at h4 h5
      rw [hy8,hy9,hna,hnb] at h4
      rw [hy8,hy9,hna,hnb,hxa,hxb] at h3
      exact ⟨h3,h4,h5⟩
     have HD:=Hj2 hdead hlk
     clear hdead hlk
     cases hft:fitsB ga gb na nb with
     | false =>
       have hn:lookS b=none:=HD.out.1 _ (fun h=>(HD.out.2 h).1) (by rw [hft];decide)
       have HN:=hide hn
       clear hn
       go_wp2_with fail
       exact look_none HN.out rfl rfl ⟨_,_,rfl,HM.out.1⟩ (HM.out.2.1.mono (by simp))
     | true =>
       cases hfu:fullB nc na nb with
       | false =>
         have hn:lookS b=none:=HD.out.1 _ (fun h=>(HD.out.2 h).2.1) (by rw [hfu];decide)
         have HN:=hide hn
         clear hn
         go_wp2_with fail
         exact look_none HN.out rfl rfl ⟨_,_,rfl,HM.out.1⟩ (HM.out.2.1.mono (by simp))
       | true =>
         have hn47:=(full_iff.1 hfu).1
         obtain rfl:ci=(nc:Int):=HE.out.2.2.2.2.2.2.2.2.symm
         have hcc1:¬ c=11+nc:=by omega
         have hi1:(0:Int)≤11+(nc:Int):=by omega
         have hi2:(11:Int)+(nc:Int)≤60:=by omega
         have hi3:(11:Int)+(nc:Int)≤(c:Int):=by omega
         have hl:b.length=64:=HL.out.1
         have hu2:=hu.mod HM.out.2.1 (by simp)
         have rt0:=(hu2.cutA hl (11+nc) (by omega)).takeA (by rw [List.length_drop,hl]) (60 - (11+nc)) (by omega)
         have rt:RdY W2 (.slice (some ⟨bb,off+(11+nc),none⟩) (60 - (11+nc)) (c - (11+nc))) ((b.drop (11+nc)).take (49 - nc)):=by
          rw [show 49 - nc=60 - (11+nc) by omega];exact rt0
         have rtl:((b.drop (11+nc)).take (49 - nc)).length=60 - (11+nc):=by simp [hl];omega
         have ra:RdY W2 (.slice (some ⟨bb,off+11,none⟩) nc (c - 11)) ((b.drop 11).take nc):=(hu2.cutA hl 11 (by decide)).takeA (by rw [List.length_drop,hl]) nc (by omega)
         have ral:((b.drop 11).take nc).length=nc:=by simp [hl];omega
         have hcB:c≤9223372036854775807:=hu2.capM (by omega)
         have htr:=trim_any rt rtl (by omega) (by omega)
         clear hu2 rt0 rt rtl hl
         cases hzr:zeroB ((b.drop (11+nc)).take (49 - nc)) with
         | false =>
           have hn:lookS b=none:=HD.out.1 _ (fun h=>(HD.out.2 h).2.2) (by rw [hzr];decide)
           have HN:=hide hn
           rw [hzr] at htr
           clear hn
           go_wp2_with (go_at_call 104;refine htr.mono ?_;rintro e w' ⟨⟨p',k,c',rfl,hk⟩,n,rfl⟩;have hk0:0<k:=(by refine Nat.pos_of_ne_zero fun e=>?_;have:=hk.1 e;cases this);clear hk)
           exact look_none HN.out rfl rfl ⟨_,_,rfl,(((Gr.refl W2).drewN _).heap (lt_of_block HM.out.1)).trans HM.out.1⟩ ((HM.out.2.1.mono (by simp)).drewN _)
         | true =>
           rw [hzr] at htr
           have hls:lookS b=some ⟨ga,gb,na,nb,(b.drop 11).take nc⟩:=by
            have h3:okLook b=true:=by
             obtain ⟨hxa,hxb,hna,hnb,hnc,hy8,hy9,hy10,-⟩:=HE.out
             rw [okLook_iff]
             refine ⟨HL.out.1,?_,?_,?_,?_⟩
             · have:=HL.out.2.1
               unfold crcOk
               exact HC.out
             · rw [hxa,hxb,hy8,hy9,hna,hnb];exact hft
             · rw [HM.out.2.2,hy8,hy9,hna,hnb];exact hfu
             · rw [HM.out.2.2];exact hzr
            obtain ⟨hxa,hxb,hna,hnb,hnc,hy8,hy9,hy10,-⟩:=HE.out
            unfold lookS
            rw [if_pos h3]
            unfold prtOf
            rw [HM.out.2.2,hxa,hxb,hy8,hy9,hna,hnb]
           generalize (b.drop 11).take nc=D at ra ral hls
           have HLS:=hide hls
           have ra':RdY W2 (.slice (some ⟨bb,off+11,none⟩) (11+nc - 11) (c - 11)) D:=by rw [Nat.add_sub_cancel_left];exact ra
           clear hls ra
           have ral':=hide ral
           have hDl:D.length≤47:=by omega
           clear ral hzr
           go_wp2_with (first
            | (go_at_call 104;refine htr.mono ?_;rintro e w' ⟨⟨p',k,c',rfl,hk⟩,n,rfl⟩;obtain rfl:k=0:=hk.2 rfl;clear hk)
            | (at_builtin;refine wpList_copy_y (m:=D) _ rfl _ _ rfl rfl rfl (ra'.gr ((Gr.refl W2).drewN _)) (Nat.le_trans hDl (by decide)) ?_;intro p5 c5 w5 hr5 hm5;have hbx5:=hm5.at_ ((((Gr.refl W2).drewN n).heap (lt_of_block HB.out.1)).trans HB.out.1) (by simp);have hbz5:=hm5.at_ ((((Gr.refl W2).drewN n).heap (lt_of_block HM.out.1)).trans HM.out.1) (by simp);have q0:w5.cell? ⟨bx,0,none⟩=some (.int .i64 (ga:Int)):=blk_cell hbx5 0;have q1:w5.cell? ⟨bx,1,none⟩=some (.int .i64 (gb:Int)):=blk_cell hbx5 1;have q2:w5.cell? ⟨bx,2,none⟩=some (.int .i64 (na:Int)):=blk_cell hbx5 2;have q3:w5.cell? ⟨bx,3,none⟩=some (.int .i64 (nb:Int)):=blk_cell hbx5 3;have q4:w5.cell? ⟨bx,4,none⟩=some (.slice none 0 0):=blk_cell hbx5 4;have q5:=blk_free hbx5 4;have z0':w5.cell? ⟨w.heap.size,0,none⟩=some (.int .i64 0):=blk_cell hbz5 0;have z1':w5.cell? ⟨w.heap.size,1,none⟩=some (.int .i64 0):=blk_cell hbz5 1;have z2':w5.cell? ⟨w.heap.size,2,none⟩=some (.int .i64 0):=blk_cell hbz5 2;have z3':w5.cell? ⟨w.heap.size,3,none⟩=some (.int .i64 0):=blk_cell hbz5 3;have z4':w5.cell? ⟨w.heap.size,4,none⟩=some (.slice none 0 0):=blk_cell hbz5 4;have f0':=blk_free hbz5 0;have f1':=blk_free hbz5 1;have f2':=blk_free hbz5 2;have f3':=blk_free hbz5 3;have f4':=blk_free hbz5 4;have H5:=Hj2 hbx5 hbz5;clear hbx5 hbz5))
           have hsz5:(W2.drewN n).heap.size≤w5.heap.size:=hm5.size
           have hsw:w.heap.size<W2.heap.size:=lt_of_block HM.out.1
           have hm6:Mod [w.heap.size] w w5:=((HM.out.2.1.drewN n).then hm5).mono (by simp)
           exact look_some (p:=⟨ga,gb,na,nb,D⟩) HLS.out rfl rfl ⟨_,_,rfl,(blk_other H5.out.2 (a:=⟨bx,4,none⟩) (by show bx≠_;omega) _)⟩ (RowY.mod (S:=[bx]) (hr5.base (b':=w.heap.size+1) hsw) ((Mod.refl [bx] w5).setCell (by simp) _) (fun x hx e=>by
            have h1:=(hr5.blk x hx).1
            have h2:=lt_of_block HB.out.1
            simp at e
            have h3:(W2.drewN n).heap.size=W2.heap.size:=rfl
            omega)) (hm6.trans (U:=[w.heap.size]) ((Mod.refl [bx] w5).setCell (by simp) _) (fun _ x _=>x) (fun x hx hlt=>by
            have h1:=HB.out.2.1
            have h2:=(gW1.mod []).size
            simp at hx
            omega))
   · have hn:lookS b=none:=by
      unfold lookS
      rw [if_neg (fun h=>hc (by simpa [crcOk] using (okLook_iff.1 h).2.1))]
     have bc:((ofFour (b.drop 60):Int) != (sumB (b.take 60):Int))=true:=by simp;omega
     have HL:=Hj4 hl hc hn hW0
     have hcn:=fun (n:Nat)=>number_any ((r60.gr g0).gr ((Gr.refl _).drewN n)) hl60
     have hsm:=fun (n:Nat)=>(sum_any ((rs.gr g0).gr ((Gr.refl _).drewN n))).mono (R':=fun e w'=>e=.returned (.int .u32 (sumB (b.take 60):Int))∧w'=W.drewN n) (fun _ _ ⟨p,q⟩=>⟨p,q.symm⟩)
     have hslt:=sumB_lt (b.take 60)
     generalize ofFour (b.drop 60)=x60 at *
     generalize sumB (b.take 60)=xs at *
     clear hl hc hn hW0
     go_enter Tryz.func73,Tryz.ntmps73
     go_wp2_with fail
     change Code.wp _ _ _ _ (w.alloc objP0)
     rw [hW]
     go_quiet ((first | (go_at_call 102;exact Calls.quiet_of (hcn _)) | (go_at_call 103;exact Calls.quiet_of_same (hsm _))))
     go_wp2_with fail
     exact look_none HL.out.2.2.1 rfl rfl ⟨_,_,rfl,(((Gr.refl W).drewN nq).heap (lt_of_block HL.out.2.2.2)).trans HL.out.2.2.2⟩ ((g0.mod [w.heap.size]).drewN _)
 · have hn:lookS b=none:=by
    unfold lookS
    rw [if_neg (fun h=>hl (okLook_iff.1 h).1)]
   have b0:((b.length:Int) != 64)=true:=by simp;omega
   have HL:=Hj2 hl hn
   clear hl hn hu
   go_enter Tryz.func73,Tryz.ntmps73
   go_wp2_with fail
   go_quiet (fail)
   go_wp2_with fail
   exact look_none HL.out.2 rfl rfl ⟨_,_,rfl,(((Gr.refl _).drewN _).heap (by simp)).trans (heap_alloc_new w objP0)⟩ ((((Mod.refl [w.heap.size] w).alloc _)).drewN _)
end Go.Proofs.YtpphoeimakjjdaaGreatDoor
/-
  WALKS: the document's layer 10: Look.
-/
namespace Go.Proofs.YtpphoeimakjjdaaGreatDoor
set_option maxRecDepth 100000
set_option maxHeartbeats 4000000
open Go.RowKit

theorem rlook_none {w W:World} {b:B8} (hn:lookS b=none) {tmps:Array Value} (h2:tmps.getD 2 undef=.pointer (some ⟨w.heap.size,0,none⟩)) (h3:tmps.getD 3 undef=.int .i64 43) (hb:∃ cs T,cs.size=5∧W.heap[w.heap.size]?=some (.cells cs T (0,0))) (hm:Mod [w.heap.size] w W) :
 bodyPost Tryz.prog Tryz.f98 (fun e w'=>LookTo w (lookS b) e w') Exit.ret { tmps:=tmps,defers:=[] } (stL W w.heap.size 0 zeroP):=by
 obtain ⟨cs,T,hs,hb⟩:=hb
 have q:=stL_all hb zeroP hs
 refine bodyPost_ret (v:=.tuple #[.agg zeroP.toArray,.int .i64 43]) (res_cell2 Tryz.results98 _ _ h2 q Tryz.isAgg118 Tryz.sizeOf118 (by rw [h3])) rfl ?_
 rw [hn]
 exact ⟨rfl,(stL_mod (by simp) _ _ _ hm).mono (fun x hx hlt=>by simp at hx;omega)⟩
theorem rlook_some {w X:World} {b:B8} {p:Prt} {q:Option Addr} {c n:Nat} (hs:lookS b=some p) (hn:p.data.length=n) {tmps:Array Value} (h2:tmps.getD 2 undef=.pointer (some ⟨w.heap.size,0,none⟩)) (h3:tmps.getD 3 undef=.int .i64 0) (hb:∃ cs T,cs.size=5∧X.heap[w.heap.size]?=some (.cells cs T (0,0)))
 (hr:RowY X (w.heap.size+1) (.slice q n c) p.data) (hm:Mod [w.heap.size] w X) :
 bodyPost Tryz.prog Tryz.f98 (fun e w'=>LookTo w (lookS b) e w') Exit.ret { tmps:=tmps,defers:=[] } (stL X w.heap.size 0 [.int .i64 (p.gen:Int),.int .i64 (p.seq:Int),.int .i64 (p.index:Int),.int .i64 (p.parts:Int),.slice q n c]):=by
 subst hn
 obtain ⟨cs,T,hs5,hb⟩:=hb
 have r:=stL_all hb [.int .i64 (p.gen:Int),.int .i64 (p.seq:Int),.int .i64 (p.index:Int),.int .i64 (p.parts:Int),.slice q p.data.length c] hs5
 refine bodyPost_ret (v:=.tuple #[.agg #[.int .i64 (p.gen:Int),.int .i64 (p.seq:Int),.int .i64 (p.index:Int),.int .i64 (p.parts:Int),.slice q p.data.length c],.int .i64 0]) (res_cell2 Tryz.results98 _ _ h2 r Tryz.isAgg118 Tryz.sizeOf118 (by rw [h3])) rfl ?_
 rw [hs]
 refine ⟨q,c,rfl,?_,(stL_mod (by simp) _ _ _ hm).mono (fun x hx hlt=>by simp at hx;omega)⟩
 refine (hr.mod (S:=[w.heap.size]) (stL_mod (by simp) _ _ _ (Mod.refl _ _)) (fun k hk e=>?_)).base (Nat.le_succ _)
 have:=(hr.blk k hk).1
 simp at e
 omega
def LkRel (b:B8) (px ga gb na nb nc:Nat) (W3:World) (i:Value) (wr:World):Prop :=
 ∃ (k:Nat) (bq:Option Addr) (bc:Nat),i=.int .i64 (k:Int)∧k≤nc∧wr.heap[px]?=some (.cells #[.int .i64 ga,.int .i64 gb,.int .i64 na,.int .i64 nb,.slice bq k bc] 118 (0,0))∧RowY wr W3.heap.size (.slice bq k bc) ((b.drop 11).take k)∧Mod [px] W3 wr
def LkT (px ga gb na nb k bb o:Nat) (bq:Option Addr) (bc:Nat) (z:UInt8) (wr w':World):Prop:=w'.heap[px]?=some (.cells #[.int .i64 ga,.int .i64 gb,.int .i64 na,.int .i64 nb,.slice bq k bc] 118 (0,0))∧w'.cell? ⟨bb,o,none⟩=some (.int .u8 (z.toNat:Int))∧Mod (ob (.slice bq k bc)) wr w'
theorem rlook_any {w:World} {u:Value} {b:B8} (hu:RdY w u b) :
 Calls Tryz.prog 98 #[u] w fun e w'=>LookTo w (lookS b) e w':=by
 have h1:b.length≤9223372036854775807:=hu.1
 obtain ⟨q,c,rfl⟩:=hu.len
 have hcap:=hu.cap
 obtain ⟨W1,hW1⟩:∃ x,x=(w.alloc (.cells #[.int .i64 0,.int .i64 0,.int .i64 0,.int .i64 0,.slice none 0 0] 118 (0,0))).alloc (.cells #[.int .i64 0,.int .i64 0,.int .i64 0,.int .i64 0,.slice none 0 0] 118 (0,0)):=⟨_,rfl⟩
 have k0:W1.heap[w.heap.size]?=some (.cells #[.int .i64 0,.int .i64 0,.int .i64 0,.int .i64 0,.slice none 0 0] 118 (0,0)):=by rw [hW1];exact blk_alloc (heap_alloc_new w objP0) _
 have k1:W1.heap[w.heap.size+1]?=some (.cells #[.int .i64 0,.int .i64 0,.int .i64 0,.int .i64 0,.slice none 0 0] 118 (0,0)):=by
  rw [hW1]
  have:=heap_alloc_new (w.alloc objP0) objP0
  simp at this
  exact (Array.getElem?_eq_some_iff.2 ⟨_,this⟩)
 have m1:Mod [] w W1:=by rw [hW1];exact ((Mod.refl _ _).alloc _).alloc _
 have hz1:W1.heap.size=w.heap.size+2:=by rw [hW1];simp
 have HB:=Hj4 k0 k1 m1 hz1
 have CZ:∀ W,Mod [] W1 W→∀ j,W.cell? ⟨w.heap.size+1,j,none⟩=(#[.int .i64 0,.int .i64 0,.int .i64 0,.int .i64 0,.slice none 0 0]:Array Value)[j]?:=fun W m=>blk_cell (m.at_ k1 (by simp))
 have HCZ:=hide CZ
 clear k0 k1 m1 hz1 CZ
 have C0:=blk_cell HB.out.1;have F0:=blk_free HB.out.1;have L0:=lt_of_block HB.out.1
 have C1:=HCZ.out W1 (Mod.refl _ _)
 by_cases hl:b.length=64
 · rw [hl] at hu hcap ⊢
   obtain ⟨bb,off,rfl,hbb,-⟩:=hu.at_ 0 (by omega)
   obtain ⟨b8,o8,hq8,-,c8⟩:=(hu.mod HB.out.2.2.1 (by simp)).at_ 8 (by omega)
   simp only [Option.some.injEq,Addr.mk.injEq,and_true] at hq8
   obtain ⟨rfl,rfl⟩:=hq8
   obtain ⟨b8,o8,hq8,-,c9⟩:=(hu.mod HB.out.2.2.1 (by simp)).at_ 9 (by omega)
   simp only [Option.some.injEq,Addr.mk.injEq,and_true] at hq8
   obtain ⟨rfl,rfl⟩:=hq8
   obtain ⟨b8,o8,hq8,-,c10⟩:=(hu.mod HB.out.2.2.1 (by simp)).at_ 10 (by omega)
   simp only [Option.some.injEq,Addr.mk.injEq,and_true] at hq8
   obtain ⟨rfl,rfl⟩:=hq8
   unfold y8 at c8 c9 c10
   have r4:RdY w (.slice (some ⟨bb,off+4,none⟩) 60 (c - 4)) (b.drop 4):=hu.cutA hl 4 (by decide)
   have hl4:(b.drop 4).length=60:=by simp;omega
   have hn4:¬ c=4:=by omega
   have hf1:=fun (W:World) (m:Mod [] w W)=>rofFour_any (hu.mod m (by simp))
   have hf2:=fun (W:World) (m:Mod [] w W)=>rofFour_any (r4.mod m (by simp))
   rw [hl,if_neg (by decide),decide_eq_true (by decide)] at hf1
   rw [hl4,if_neg (by decide),decide_eq_true (by decide)] at hf2
   have lta:ofFour b<4294967296:=by rw [← p4_four];exact p4_lt b 4
   have ltb:ofFour (b.drop 4)<4294967296:=by rw [← p4_four];exact p4_lt _ 4
   have lt8:=byte_lt (b.getD 8 0)
   have lt9:=byte_lt (b.getD 9 0)
   have lt10:=byte_lt (b.getD 10 0)
   obtain ⟨ga,hga⟩:∃ x,ofFour b=x:=⟨_,rfl⟩
   obtain ⟨gb,hgb⟩:∃ x,ofFour (b.drop 4)=x:=⟨_,rfl⟩
   obtain ⟨na,hna⟩:∃ x,(b.getD 8 0).toNat=x:=⟨_,rfl⟩
   obtain ⟨nb,hnb⟩:∃ x,(b.getD 9 0).toNat=x:=⟨_,rfl⟩
   obtain ⟨nc,hnc⟩:∃ x,(b.getD 10 0).toNat=x:=⟨_,rfl⟩
   rw [hga] at hf1 lta;rw [hgb] at hf2 ltb;rw [hna] at c8 lt8;rw [hnb] at c9 lt9;rw [hnc] at c10 lt10
   have hbl:bb<W1.heap.size:=by have:=HB.out.2.2.2;omega
   have HL:=Hj6 (And.intro hl hu) hga hgb hna hnb hnc
   clear hl hu hga hgb hna hnb hnc r4 hl4
   go_enter Tryz.func98,Tryz.ntmps98
   go_upto_region 1 with fail
   go_upto_region 2 with fail
   rw [← hW1]
   clear hW1
   go_upto_region 6 with (first
    | (go_at_call 138;refine (hf1 _ HB.out.2.2.1).mono ?_;rintro e w' ⟨rfl,rfl⟩;clear hf1)
    | (go_at_call 138;refine (hf2 _ HB.out.2.2.1).mono ?_;rintro e w' ⟨rfl,rfl⟩;clear hf2)
    | fail)
   obtain ⟨W1,rfl⟩:∃ W1:World,W1=w':=⟨_,rfl⟩
   have hwa:IntKind.i64.wrap (ga:Int)=(ga:Int):=IntWalk.i64_in _ (by omega)
   have hwb:IntKind.i64.wrap (gb:Int)=(gb:Int):=IntWalk.i64_in _ (by omega)
   have hw8:IntKind.i64.wrap (na:Int)=(na:Int):=IntWalk.i64_in _ (by omega)
   have hw9:IntKind.i64.wrap (nb:Int)=(nb:Int):=IntWalk.i64_in _ (by omega)
   have hwc:IntKind.i64.wrap (nc:Int)=(nc:Int):=IntWalk.i64_in _ (by omega)
   have mv:Mod [] W1 W1.drew:=(Mod.refl _ _).drew
   have K8:∀ W,Mod [] W1 W→W.cell? ⟨bb,off+8,none⟩=some (.int .u8 (na:Int))∧W.cell? ⟨bb,off+9,none⟩=some (.int .u8 (nb:Int))∧W.cell? ⟨bb,off+10,none⟩=some (.int .u8 (nc:Int)):=fun W m=>⟨m.kept c8 (by simp),m.kept c9 (by simp),m.kept c10 (by simp)⟩
   have HK8:=hide K8
   clear c8 c9 c10 K8 C0 F0 L0 C1
   refine pB 999 (fun w2=>Mod [] W1 w2) mv ?_
   refine pP 0 ?_;refine pP 1 ?_;refine pP 2 ?_;refine pP 3 ?_;refine pP 4 ?_;refine pP 5 ?_
   refine pH 6 rfl (fun w2 h=>by have D:=(HK8.out w2 h).1;go_simp;try with_reducible rfl) ?_
   refine pP 7 ?_;refine pP 8 ?_;refine pP 9 ?_
   refine pH 10 rfl (fun w2 h=>by have D:=(HK8.out w2 h).2.1;go_simp;try with_reducible rfl) ?_
   refine pP 11 ?_;refine pP 12 ?_
   refine pX 13 fun hT K HK=>?_
   go_simp
   obtain ⟨W2,hW2⟩:∃ x,x=(W1.alloc (.cells #[.int .i64 0,.int .i64 0,.int .i64 0,.int .i64 0,.slice none 0 0] 118 (0,0))).drew:=⟨_,rfl⟩
   rw [← hW2]
   have k2:W2.heap[W1.heap.size]?=some (.cells #[.int .i64 0,.int .i64 0,.int .i64 0,.int .i64 0,.slice none 0 0] 118 (0,0)):=by rw [hW2];exact heap_alloc_new W1 objP0
   have m2:Mod [] W1 W2:=by rw [hW2];exact ((Mod.refl _ _).alloc _).drew
   refine HK.out _ _ _ m2 ?_
   clear HK K hT hW2
   have C2:=blk_cell k2;have F2:=blk_free k2;have L2:=lt_of_block k2
   have H2:=hide (meets W1 W2 k2 (m2.mono (by simp)) ga gb na nb)
   clear k2 m2
   refine pX 14 fun hT K HK=>?_
   go_simp
   obtain ⟨W3,hW3⟩:∃ x,x=((((W2.setCell ⟨W1.heap.size,0,none⟩ (.int .i64 ga)).setCell ⟨W1.heap.size,1,none⟩ (.int .i64 gb)).setCell ⟨W1.heap.size,2,none⟩ (.int .i64 na)).setCell ⟨W1.heap.size,3,none⟩ (.int .i64 nb)).setCell ⟨W1.heap.size,4,none⟩ (.slice none 0 0):=⟨_,rfl⟩
   try rw [← hW3]
   rw [← hW3] at H2
   refine HK.out _ _ _ H2.out.2.2 ?_
   clear HK K hT hW3 C2 F2 L2
   refine pE fun hT=>?_
   have C2:=blk_cell H2.out.1
   have c10:=(HK8.out _ H2.out.2.2).2.2
   obtain ⟨px,hpx⟩:∃ x,W1.heap.size=x:=⟨_,rfl⟩
   rw [hpx] at H2 C2 ⊢
   have HP:=hide hpx
   clear hpx
   obtain ⟨ci,hci⟩:∃ ci:Int,(nc:Int)=ci:=⟨_,rfl⟩
   have hci0:0≤ci:=by omega
   have hci1:ci<256:=by omega
   have hwi:IntKind.i64.wrap ci=ci:=IntWalk.i64_in _ (by omega)
   rw [hci] at c10
   have HCI:=hide hci
   clear hci hwc lt10
   go_upto_region 8 with fail
   clear c10 HK8
   go_cut [80] (fun s wx=>s=.bool (!(fitsB ga gb na nb&&decide (nc≤47)))∧wx=W3)
   case first =>
    go_wp2_with fail
    all_goals
     go_meet
     case rel =>
      refine ⟨congrArg Value.bool ?_,rfl⟩
      have:=HCI.out
      rw [Bool.eq_iff_iff]
      simp [fitsB]
      omega
   case rest =>
   obtain ⟨rfl,hwx⟩:=hcut
   rw [hwx]
   clear hwx
   have C0:∀ W,Mod [px] W3 W→W.heap[w.heap.size]?=some (.cells #[.int .i64 0,.int .i64 0,.int .i64 0,.int .i64 0,.slice none 0 0] 118 (0,0)):=fun W m=>m.at_ (H2.out.2.2.at_ HB.out.1 (by simp)) (by have:=HB.out.2.2.2;have:=HP.out;simp;omega)
   have C1:∀ W,Mod [px] W3 W→W.heap[w.heap.size+1]?=some (.cells #[.int .i64 0,.int .i64 0,.int .i64 0,.int .i64 0,.slice none 0 0] 118 (0,0)):=fun W m=>m.at_ (H2.out.2.2.at_ HB.out.2.1 (by simp)) (by have:=HB.out.2.2.2;have:=HP.out;simp;omega)
   have M0:∀ W,Mod [px] W3 W→Mod [] w W:=fun W m=>mod_new (HB.out.2.2.1.then H2.out.2.2) m (by have:=HB.out.2.2.2;have:=HP.out;simp;omega)
   have HC:=Hj3 C0 C1 M0
   clear C0 C1 M0
   have D1:=blk_cell (HC.out.1 W3 (Mod.refl _ _));have F1:=blk_free (HC.out.1 W3 (Mod.refl _ _));have L1:=lt_of_block (HC.out.1 W3 (Mod.refl _ _))
   have E1:=blk_cell (HC.out.2.1 W3 (Mod.refl _ _))
   have hdoc:lookS b=if fitsB ga gb na nb=true∧fullB nc na nb=true∧packOne ga gb na nb ((b.drop 11).take nc)=b then some ⟨ga,gb,na,nb,(b.drop 11).take nc⟩ else none:=by
    obtain ⟨⟨h64,-⟩,e1,e2,e3,e4,e5⟩:=HL.out
    have h:=look_doc h64
    unfold prtOf lenS at h
    rw [e1,e2,e3,e4,e5] at h
    exact h
   have HD:=hide hdoc
   clear hdoc
   cases hft:(fitsB ga gb na nb&&decide (nc≤47)) with
   | false =>
     have hn:lookS b=none:=by
      rw [HD.out,if_neg]
      rintro ⟨a1,a2,-⟩
      have:=(full_iff.1 a2).1
      rw [a1,decide_eq_true this] at hft
      cases hft
     have HN:=hide hn
     clear hn
     go_wp2_with fail
     exact rlook_none HN.out rfl rfl ⟨_,_,rfl,HC.out.1 _ (Mod.refl _ _)⟩ ((HC.out.2.2 _ (Mod.refl _ _)).mono (by simp))
   | true =>
   simp only [Bool.and_eq_true,decide_eq_true_eq] at hft
   obtain ⟨hft,hn47⟩:=hft
   have HF:=hide hft
   clear hft
   obtain ⟨tb,htb⟩:∃ t,((na:Int)==(nb:Int) - 1)=t:=⟨_,rfl⟩
   have HTB:=hide htb
   go_upto_region 11 with fail
   clear htb
   go_cut [105] (fun s wx=>s=.bool (!fullB nc na nb)∧wx=W3)
   case first =>
    cases tb with
    | true =>
      rcases Bool.eq_false_or_eq_true (ci==0) with b2 | b2
      all_goals
       have HB2:=hide b2
       go_wp2_with fail
       all_goals
        go_meet
        case rel =>
         refine ⟨congrArg Value.bool ?_,rfl⟩
         have a1:=HCI.out
         have a2:=HB2.out
         have a3:=HTB.out
         simp at a2 a3
         rw [Bool.eq_iff_iff,Bool.not_eq_true',Bool.eq_false_iff,ne_eq,full_iff,if_pos (by omega)]
         simp
         omega
    | false =>
      rcases Bool.eq_false_or_eq_true (ci != 47) with b2 | b2
      all_goals
       have HB2:=hide b2
       go_wp2_with fail
       all_goals
        go_meet
        case rel =>
         refine ⟨congrArg Value.bool ?_,rfl⟩
         have a1:=HCI.out
         have a2:=HB2.out
         have a3:=HTB.out
         simp at a2 a3
         rw [Bool.eq_iff_iff,Bool.not_eq_true',Bool.eq_false_iff,ne_eq,full_iff,if_neg (by omega)]
         simp
         omega
   case rest =>
   obtain ⟨rfl,hwx⟩:=hcut
   rw [hwx]
   clear hwx
   cases hfu:fullB nc na nb with
   | false =>
     have hn:lookS b=none:=by
      rw [HD.out,if_neg]
      rintro ⟨a1,a2,-⟩
      rw [a2] at hfu
      cases hfu
     have HN:=hide hn
     clear hn
     go_wp2_with fail
     exact rlook_none HN.out rfl rfl ⟨_,_,rfl,HC.out.1 _ (Mod.refl _ _)⟩ ((HC.out.2.2 _ (Mod.refl _ _)).mono (by simp))
   | true =>
   have HFU:=hide hfu
   obtain rfl:ci=(nc:Int):=HCI.out.symm
   clear hfu D1 F1 L1 E1 C2 hT
   go_wp2_with fail
   go_loopw [12] (fun i wr=>LkRel b px ga gb na nb nc W3 i wr) (fun i _=>nc - (intOf i).toNat)
   case atStart=>exact ⟨0,none,0,rfl,Nat.zero_le _,H2.out.1,by rw [List.take_zero];exact RowY.nil _ _,Mod.refl _ _⟩
   case round =>
    obtain ⟨k,bq,bc,rfl,hk,hbx,hrow,hm⟩:=hrel
    have hDl:((b.drop 11).take k).length=k:=by rw [List.length_take,List.length_drop,HL.out.1.1];omega
    by_cases hlt:k<nc
    · obtain ⟨b1,o1,hq1,-,c1⟩:=(HL.out.1.2.mod (HC.out.2.2 wr hm) (by simp)).at_ (11+k) (by rw [HL.out.1.1];omega)
      simp only [Option.some.injEq,Addr.mk.injEq,and_true] at hq1
      obtain ⟨rfl,rfl⟩:=hq1
      have ht:(b.drop 11).take (k+1)=(b.drop 11).take k++[b.getD (11+k) 0]:=by
       rw [List.take_add_one]
       simp [List.getD,List.getElem?_drop,show 11+k<b.length by rw [HL.out.1.1];omega]
      generalize b.getD (11+k) 0=z at c1 ht
      unfold y8 at c1
      obtain ⟨D,hD⟩:∃ D,(b.drop 11).take k=D:=⟨_,rfl⟩
      rw [hD] at ht hDl hrow
      have HR:=Hj4 hrow ht hDl hm
      have hT0:LkT px ga gb na nb k bb (off+(11+k)) bq bc z wr wr.drew:=⟨hbx,c1,(Mod.refl _ _).drew⟩
      have hL3:=lt_of_block H2.out.1
      have hbp:bb<px:=by have:=HP.out;omega
      clear hrow ht hDl hm hD
      have hw16:IntKind.i64.wrap (11+(k:Int))=((11+k:Nat):Int):=(IntWalk.i64_in _ (by omega)).trans (by omega)
      obtain ⟨m,hm⟩:∃ m,11+k=m:=⟨_,rfl⟩
      rw [hm] at hT0 hw16 c1
      have hm64:(m:Int)<64:=by omega
      clear hm
      go_upto_region 16 with fail
      refine pB 10 (LkT px ga gb na nb k bb (off+m) bq bc z wr) hT0 ?_
      clear hT0
      have HC1:=Hj2 hbx c1
      clear hbx c1
      refine pP 0 ?_
      refine pT 1 rfl [8,10] (fun w2 h=>by have A:=blk_cell h.1;go_simp;try with_reducible rfl) ?_
      refine pP 2 ?_;refine pP 3 ?_;refine pP 4 ?_;refine pP 5 ?_
      refine pT 6 rfl [7,8,10] (fun w2 h=>by have A:=h.2.1;go_simp;try with_reducible rfl) ?_
      refine pX 7 fun hT K HK=>?_
      go_simp
      obtain ⟨W5,hW5⟩:∃ x,x=wr.drew.alloc (.cells #[.int .u8 (z.toNat:Int)] 5 (0,0)):=⟨_,rfl⟩
      first | rw [← hW5] | (rw [show (wr.alloc (.cells #[.int .u8 (z.toNat:Int)] 5 (0,0))).drew=wr.drew.alloc (.cells #[.int .u8 (z.toNat:Int)] 5 (0,0)) from rfl,← hW5])
      have hm5:Mod [] wr W5:=by rw [hW5];exact (Mod.refl [] wr).drew.alloc _
      have hk5:W5.heap[wr.heap.size]?=some (.cells #[.int .u8 (z.toNat:Int)] 5 (0,0)):=by rw [hW5];exact heap_alloc_new wr.drew _
      have hz5:W5.heap.size=wr.drew.heap.size+1:=by rw [hW5];simp
      have hT5:LkT px ga gb na nb k bb (off+m) bq bc z wr W5:=⟨hm5.at_ HC1.out.1 (by simp),hm5.kept HC1.out.2 (by simp),hm5.mono (by simp)⟩
      have hr5:RdY W5 (.slice (some ⟨wr.heap.size,0,none⟩) 1 1) [z]:=(RowY.of_block (base:=0) (m:=[z]) hk5 (Nat.zero_le _) (Nat.le_refl 1) (by decide) rfl rfl).rd
      have H5:=Hj3 hm5 hr5 hz5
      clear hW5 hm5 hk5 hz5 hr5
      refine HK.out _ _ _ hT5 ?_
      clear HK K hT hT5
      refine pX 8 fun hT K HK=>?_
      refine step_app_y rfl (.tmp 113) (.tmp 119) rfl W3.heap.size (.slice bq k bc) D (by simp [Act.eval]) (HR.out.1.mod H5.out.1 (by simp)) (.slice (some ⟨wr.heap.size,0,none⟩) 1 1) [z] (by simp [Act.eval]) H5.out.2.1 (by simp) (by have:=HR.out.2.2.1;simp;omega) (by have:=HR.out.2.2.2.size;have h5:=H5.out.2.2;have h6:wr.drew.heap.size=wr.heap.size:=rfl;omega) ?_
      intro g cap' w6 hr6 hm6 hg1 hg2
      have hmr:Mod (ob (.slice bq k bc)) wr w6:=(H5.out.1.mono (by simp)).trans hm6 (fun _ x _=>x) (fun x hx _=>hx)
      have hbx6:=hm6.at_ (H5.out.1.at_ HC1.out.1 (by simp)) (fun e=>by have:=(HR.out.1.blk _ e).1;omega)
      have hT6:LkT px ga gb na nb k bb (off+m) bq bc z wr w6:=⟨hbx6,hm6.kept (H5.out.1.kept HC1.out.2 (by simp)) (fun e=>by have:=(HR.out.1.blk _ e).1;have e2:W3.heap.size≤bb:=this;omega),hmr⟩
      have H6:=Hj3 hr6 hmr hbx6
      clear hr6 hmr hbx6 hm6 hg1 hg2
      refine HK.out _ _ _ hT6 ?_
      clear HK K hT hT6
      refine pP 9 ?_
      refine pY 10 fun hT K HK=>?_
      have C6:=blk_cell H6.out.2.2
      have F6:=blk_free H6.out.2.2
      go_simp
      clear C6 F6
      refine HK.out _ _ _ ?_
      clear HK K hT
      refine pD ?_
      go_wp2_with fail
      go_roundw
      case rel =>
       have hms:Mod [px] w6 (w6.setCell ⟨px,4,none⟩ (.slice (some ⟨g,0,none⟩) (k+1) cap')):=(Mod.refl _ _).setCell (fun _=>by simp) _
       have hr6:=H6.out.1
       rw [HR.out.2.2.1,← HR.out.2.1] at hr6
       refine ⟨k+1,some ⟨g,0,none⟩,cap',by go_num,by omega,?_,?_,?_⟩
       · have h:=blk_set H6.out.2.2 4 (.slice (some ⟨g,0,none⟩) (k+1) cap')
         rw [HR.out.2.2.1]
         exact h
       · rw [HR.out.2.2.1]
         exact hr6.mod hms (fun x hx e=>by have:=(hr6.blk x hx).1;simp at e;omega)
       · rw [HR.out.2.2.1]
         exact (HR.out.2.2.2.trans (U:=[px]) H6.out.2.1 (fun _ x _=>x) (fun x hx hlt=>by have:=(HR.out.1.blk x hx).1;omega)).trans hms (fun _ x _=>x) (fun x hx _=>hx)
      case measure=>simp [intOf];omega
    · obtain rfl:k=nc:=by omega
      obtain ⟨D,hD⟩:∃ D,(b.drop 11).take k=D:=⟨_,rfl⟩
      rw [hD] at hrow hDl HD
      have hr:RdY wr (.slice bq D.length bc) D:=by rw [hDl];exact hrow.rd
      have hlay:=rlay_any lta ltb lt8 lt9 hr (by omega)
      rw [hDl] at hlay
      have hsb:=fun (W:World) (m:Mod [] w W)=>(HL.out.1.2.mod m (by simp)).str
      have HR:=Hj3 hrow hDl hm
      have B1:=blk_cell hbx
      have HBX:=hide (fun W (m:Mod [] wr W)=>m.at_ hbx (by simp))
      obtain ⟨P,hP⟩:∃ P,packOne ga gb na nb D=P:=⟨_,rfl⟩
      rw [hP] at hlay HD
      have hln:(P != b)=!decide (P=b):=by by_cases e:P=b <;> simp [e]
      clear hrow hDl hr hD hbx hm hP
      go_upto_region 18 with (go_at_call 137;refine hlay.mono ?_;rintro e w4 ⟨v4,rfl,r4,m4⟩)
      have hs1:=r4.rd.str
      have hs2:=hsb w4 ((HC.out.2.2 wr HR.out.2.2).then m4)
      have H4:=Hj2 r4 m4
      clear r4 m4 hsb B1
      obtain ⟨s1,hs1e⟩:∃ s:ByteArray,(⟨P.toArray⟩:ByteArray)=s:=⟨_,rfl⟩
      obtain ⟨s2,hs2e⟩:∃ s:ByteArray,(⟨b.toArray⟩:ByteArray)=s:=⟨_,rfl⟩
      rw [hs1e] at hs1;rw [hs2e] at hs2
      have m4w:Mod [px] W3 w4:=HR.out.2.2.trans (U:=[px]) H4.out.2 (fun _ x _=>x) (fun x hx=>by cases hx)
      have Z4:=HC.out.1 w4 m4w
      have N4:=HC.out.2.1 w4 m4w
      have B4:=HBX.out w4 H4.out.2
      have D4:=blk_cell Z4;have F4:=blk_free Z4;have L4:=lt_of_block Z4
      have E4:=blk_cell N4;have G4:=blk_cell B4
      have mw4:=HC.out.2.2 w4 m4w
      have HM:=Hj2 Z4 mw4
      clear m4w Z4 N4 B4 mw4
      by_cases heq:P=b
      · have hcm:(s1.toList==s2.toList)=true:=by rw [← hs1e,← hs2e,heq];simp
        have hls:lookS b=some ⟨ga,gb,na,nb,D⟩:=by rw [HD.out,if_pos ⟨HF.out,HFU.out,heq⟩]
        have HLS:=hide hls
        clear hs1e hs2e hln heq hls
        go_wp2_with fail
        exact rlook_some (p:=⟨ga,gb,na,nb,D⟩) (q:=bq) (c:=bc) (n:=k) HLS.out HR.out.2.1 rfl rfl ⟨_,_,rfl,HM.out.1⟩ (by
         exact (HR.out.1.mod H4.out.2 (by simp)).base (by have:=H2.out.2.2.size;have:=HB.out.2.2.2;omega)) (HM.out.2.mono (by simp))
      · have hcm:(s1.toList==s2.toList)=false:=by
         rw [beq_eq_false_iff_ne,← hs1e,← hs2e]
         intro e
         rw [Lib.toList_data,Lib.toList_data] at e
         exact heq (by simpa using e)
        have hn:lookS b=none:=by
         rw [HD.out,if_neg]
         rintro ⟨-,-,a3⟩
         exact heq a3
        have HN:=hide hn
        clear hs1e hs2e hln heq hn
        go_wp2_with fail
        exact rlook_none HN.out rfl rfl ⟨_,_,rfl,HM.out.1⟩ (HM.out.2.mono (by simp))
 · have hn:lookS b=none:=by
    unfold lookS
    rw [if_neg (fun h=>hl (okLook_iff.1 h).1)]
   have b0:((b.length:Int) != 64)=true:=by simp;omega
   have HN:=hide hn
   clear hl hn hu
   go_enter Tryz.func98,Tryz.ntmps98
   go_upto_region 2 with fail
   rw [← hW1]
   clear hW1
   go_wp2_with fail
   exact rlook_none HN.out rfl rfl ⟨_,_,rfl,HB.out.1⟩ (HB.out.2.2.1.mono (by simp))
end Go.Proofs.YtpphoeimakjjdaaGreatDoor
/-
  WALKS: the document's layer 10: one record, all records of an area.
-/
namespace Go.Proofs.YtpphoeimakjjdaaGreatDoor
set_option maxRecDepth 100000
set_option maxHeartbeats 4000000
open Go.RowKit

def OneTo (w:World) (o:Option (B8 × Nat)) (e:Ending) (w':World):Prop :=
 match o with
 | none=>e=.returned (.tuple #[.slice none 0 0,.int .i64 0,.bool false])∧Mod [] w w'
 | some p=>∃ u,e=.returned (.tuple #[u,.int .i64 (p.2:Int),.bool true])∧RowY w' w.heap.size u p.1∧Mod [] w w'
def OneRel (w:World) (ls:List B8) (gen seq:Nat) (data parts i:Value) (wr:World):Prop :=
 ∃ (k m:Nat) (D:B8),i=.int .i64 (k:Int)∧parts=.int .i64 (m:Int)∧k≤m∧m≤4∧(k=0→D=[]∧m=1)∧D.length≤47 * k∧RowY wr w.heap.size data D∧Mod [] w wr∧Hid (oneR ls gen seq k m D=recS ls gen 0 seq)
theorem rone_any {w:World} {u:Value} {ls:List B8} (hu:RdA w u ls) (gen seq:Nat) :
 Calls Tryz.prog 133 #[u,.int .i64 (gen:Int),.int .i64 (seq:Int)] w fun e w'=>OneTo w (recS ls gen 0 seq) e w':=by
 have hmx:ls.length≤9223372036854775807:=hu.1
 obtain ⟨q,c,rfl⟩:=hu.len
 have HU:=hide hu
 obtain ⟨R,hR⟩:∃ R,recS ls gen 0 seq=R:=⟨_,rfl⟩
 rw [hR]
 have HR:=hide hR
 clear hu hR
 go_enter Tryz.func133,Tryz.ntmps133
 go_wp2_with fail
 go_loopw [9,10,11] (fun d p i wr=>OneRel w ls gen seq d p i wr) (fun _ _ i _=>4 - (intOf i).toNat)
 case atStart=>exact ⟨0,1,[],rfl,rfl,by omega,by omega,fun _=>⟨rfl,rfl⟩,by simp,RowY.nil _ _,Mod.refl _ _,hide (one_start _ _ _)⟩
 case round =>
  obtain ⟨k,m,D,rfl,rfl,hkm,hm4,h0,hDl,hrow,hmd,hinv⟩:=hrel
  have hsz:=hmd.size
  obtain ⟨qd,cd,rfl⟩:=hrow.rd.len
  obtain ⟨L,hL⟩:∃ L,D.length=L:=⟨_,rfl⟩
  rw [hL] at hrow hDl ⊢
  have HK:=Hj5 hinv.out h0 hL hrow hmd
  clear hinv h0 hL hrow hmd
  by_cases hlt:k<m
  · by_cases hkl:ls.length≤k
    · have hn:R=none:=by
       rw [← HR.out,← HK.out.1]
       refine one_none hlt (fun b p hb=>?_)
       rw [List.getElem?_eq_none hkl] at hb
       cases hb
      subst hn
      go_wp2_with fail
      go_ret3
      exact ⟨rfl,HK.out.2.2.2.2⟩
    · obtain ⟨bb,off,v,rfl,hbb,cv,hrd⟩:=(HU.out.quiet HK.out.2.2.2.2).at_ k (by omega)
      obtain ⟨b,hb⟩:∃ b,ls.getD k []=b:=⟨_,rfl⟩
      rw [hb] at hrd
      have hbk:ls[k]?=some b:=by rw [← hb];simp [List.getD,show k<ls.length by omega]
      have hlook:=rlook_any hrd
      have HB:=hide hbk
      clear hb hrd hbk
      cases hs:lookS b with
      | none =>
        have hn:R=none:=by
         rw [← HR.out,← HK.out.1]
         refine one_none hlt (fun b' p hb hp=>?_)
         rw [HB.out] at hb
         obtain rfl:=Option.some.inj hb
         rw [hs] at hp
         cases hp
        rw [hs] at hlook
        subst hn
        go_wp2_with (go_at_call 98;refine hlook.mono ?_;rintro e w1 ⟨rfl,m1⟩;have H1:=hide m1;clear m1)
        go_ret3
        exact ⟨rfl,HK.out.2.2.2.2.then (H1.out.alloc _)⟩
      | some p =>
        obtain ⟨pg,ps,pi,pp,pd⟩:=p
        have hfit:=look_fits hs
        rw [hs] at hlook
        have HS:=Hj2 hs hfit
        have hrest:R=none∨(pg=gen∧ps=seq∧pi=k∧(k=0∨pp=m)):=by
         by_cases hok:pg=gen∧ps=seq∧pi=k∧(k=0∨pp=m)
         · exact .inr hok
         · refine .inl ?_
           rw [← HR.out,← HK.out.1]
           refine one_none hlt (fun b' p hb hp=>?_)
           rw [HB.out] at hb
           obtain rfl:=Option.some.inj hb
           rw [hs] at hp
           obtain rfl:=Option.some.inj hp
           exact hok
        have HRS:=hide hrest
        clear hs hfit hrest
        obtain ⟨t1,ht1⟩:∃ t,((pg:Int) != (gen:Int))=t:=⟨_,rfl⟩
        obtain ⟨t2,ht2⟩:∃ t,((ps:Int) != (seq:Int))=t:=⟨_,rfl⟩
        obtain ⟨t3,ht3⟩:∃ t,((pi:Int) != (k:Int))=t:=⟨_,rfl⟩
        obtain ⟨t4,ht4⟩:∃ t,decide (0<(k:Int))=t:=⟨_,rfl⟩
        obtain ⟨t5,ht5⟩:∃ t,((pp:Int) != (m:Int))=t:=⟨_,rfl⟩
        have ht4':decide (0<k)=t4:=by rw [← ht4];simp
        have HT:=Hj5 ht1 ht2 ht3 ht4 ht5
        have hex:(t1=false∧t2=false∧t3=false∧(t4=false∨t5=false))∨(t1=true∨(t1=false∧t2=true)∨(t1=false∧t2=false∧t3=true)∨(t1=false∧t2=false∧t3=false∧t4=true∧t5=true)):=by
         cases t1 <;> cases t2 <;> cases t3 <;> cases t4 <;> cases t5 <;> simp
        rcases hex with hgood | hbad
        · have hok:pg=gen∧ps=seq∧pi=k∧(k=0∨pp=m):=by
           obtain ⟨a1,a2,a3,a4,a5⟩:=HT.out
           obtain ⟨rfl,rfl,rfl,h4⟩:=hgood
           simp at a1 a2 a3
           refine ⟨by omega,by omega,by omega,?_⟩
           rcases h4 with rfl | rfl
           · simp at a4;exact .inl (by omega)
           · simp at a5;exact .inr (by omega)
          have hst:=one_some (data:=D) hlt (fun e=>(HK.out.2.1 e).1) HB.out HS.out.1 hok
          rw [HK.out.1,HR.out] at hst
          have hpl:pd.length≤47:=HS.out.2.2.2.1
          have hpp:k+1≤pp∧pp≤4:=by
           have:=HS.out.2.2.1
           simp only at this
           have:=hok.2.2.1
           omega
          have HO:=hide hst.symm
          clear hst hok
          obtain ⟨N,hN⟩:∃ n,pd.length=n:=⟨_,rfl⟩
          rw [hN] at hpl
          have HN:=hide hN
          clear hN
          obtain ⟨rfl,rfl,rfl,h45⟩:=hgood
          rcases h45 with rfl | rfl
          all_goals
           go_wp2_with (first
            | (go_at_call 98;refine hlook.mono ?_;rintro e w1 ⟨qp,cp,rfl,rp,m1⟩
               simp only at rp
               rw [HN.out] at rp
               have H1:=Hj2 rp m1
               clear hlook rp m1
               simp only
               rw [HN.out])
            | (at_builtin
               refine wpList_app_rd _ rfl _ _ rfl rfl (HK.out.2.2.2.1.mod (H1.out.2.alloc _) (by simp)) rfl ((H1.out.1.mod_alloc _).rd) (by rw [HK.out.2.2.1,HN.out];omega) (by have:=H1.out.2.size;simp;omega) ?_
               intro q3 c3 w3 r3 m3
               have H3:=Hj2 r3 m3
               clear r3 m3)
            | fail)
           all_goals
            refine ⟨⟨k+1,pp,D++pd,by go_num,rfl,hpp.1,hpp.2,fun e=>by omega,?_,H3.out.1,mod_new (HK.out.2.2.2.2.then (H1.out.2.alloc _)) H3.out.2 (fun x hx=>(HK.out.2.2.2.1.blk x hx).1),hide (HO.out.trans HR.out.symm)⟩,by simp [intOf];omega⟩
            rw [List.length_append,HK.out.2.2.1,HN.out]
            omega
        · have hn:R=none:=by
           refine HRS.out.resolve_right (fun hok=>?_)
           obtain ⟨a1,a2,a3,a4,a5⟩:=HT.out
           simp at a1 a2 a3 a4 a5
           rcases hbad with h | ⟨-,h⟩ | ⟨-,-,h⟩ | ⟨-,-,-,h,h2⟩
           all_goals subst_vars
           all_goals simp at *
           all_goals omega
          subst hn
          rcases hbad with rfl | ⟨rfl,rfl⟩ | ⟨rfl,rfl,rfl⟩ | ⟨rfl,rfl,rfl,rfl,rfl⟩
          all_goals
           go_wp2_with (go_at_call 98;refine hlook.mono ?_;rintro e w1 ⟨qp,cp,rfl,rp,m1⟩;have H1:=hide m1;clear m1 rp)
           go_ret3
           exact ⟨rfl,HK.out.2.2.2.2.then (H1.out.alloc _)⟩
  · obtain rfl:k=m:=by omega
    have hk0:k≠0:=fun e=>by have:=(HK.out.2.1 e).2;omega
    have hr:R=some (D,k):=by rw [← HR.out,← HK.out.1,one_end hk0]
    subst hr
    go_wp2_with fail
    go_ret3
    exact ⟨_,rfl,HK.out.2.2.2.1,HK.out.2.2.2.2⟩
def RScanTo (w:World) (p:List B8 × Nat) (e:Ending) (w':World):Prop:=∃ u vs,e=.returned (.tuple #[u,.int .i64 (p.2:Int)])∧RowsY w' w.heap.size u vs p.1∧Mod [] w w'
def ScnRel (w:World) (ls:List B8) (gen:Nat) (out used:Value) (wr:World):Prop :=
 ∃ (k n:Nat) (q:Option Addr) (c:Nat) (os:List B8) (vs:List Value),used=.int .i64 (k:Int)∧out=.slice q n c∧os.length=n∧n≤k∧k≤ls.length∧RowsY wr w.heap.size (.slice q n c) vs os∧Mod [] w wr∧Hid ((os++(scanR ls gen k n).1,(scanR ls gen k n).2)=scanS ls gen)
theorem rec_fits {l:List B8} {gen at_ seq:Nat} {d:B8} {n:Nat} (h:recS l gen at_ seq=some (d,n)):at_+n≤l.length:=by
 obtain ⟨p,d',hp,hr,-,rfl⟩:=rec_some h
 have hb:∀ k i d,restS l gen at_ seq p.parts k i=some d→0<k→at_+i+k≤l.length:=by
  intro k
  induction k with
  | zero=>intro i d _ h0;omega
  | succ k ih =>
    intro i d h _
    unfold restS at h
    cases hq:partS l gen (at_+i) seq i p.parts with
    | none=>rw [hq] at h;cases h
    | some q =>
      rw [hq] at h
      simp only [Option.bind_some] at h
      have h1:=part_lt hq
      rcases Nat.eq_zero_or_pos k with e | e
      · omega
      · cases hd:restS l gen at_ seq p.parts k (i+1) with
        | none=>rw [hd] at h;cases h
        | some d2=>have:=ih (i+1) d2 hd e;omega
 have h1:=part_lt hp
 rcases Nat.eq_zero_or_pos (p.parts - 1) with e | e
 · omega
 · have:=hb _ _ _ hr e
   omega
theorem rscan_any {w:World} {u:Value} {ls:List B8} (hu:RdA w u ls) (hl:ls.length≤1000) (gen:Nat) :
 Calls Tryz.prog 93 #[u,.int .i64 (gen:Int)] w fun e w'=>RScanTo w (scanS ls gen) e w':=by
 obtain ⟨q,c,rfl⟩:=hu.len
 have hcap:=hu.cap
 have HU:=hide hu
 clear hu
 go_enter Tryz.func93,Tryz.ntmps93
 go_wp2_with fail
 go_loopw [6,7] (fun d p wr=>ScnRel w ls gen d p wr) (fun _ p _=>ls.length - (intOf p).toNat)
 case atStart=>exact ⟨0,0,none,0,[],[],rfl,rfl,rfl,by omega,by omega,RowsY.nil _ _,Mod.refl _ _,hide (by rw [scan_start];rfl)⟩
 case round =>
  obtain ⟨k,n,qo,co,os,vs,rfl,rfl,hn,hnk,hk,hrow,hmd,hinv⟩:=hrel
  have hsz:=hmd.size
  obtain ⟨v,hv⟩:∃ v:Value,v=.slice (if c=k then q else q.map fun x=>x.add k) (ls.length - k) (if c=k then 0 else c - k):=⟨_,rfl⟩
  have hcut:RdA wr v (ls.drop k):=by
   have h:=HU.out.quiet hmd
   rw [hv]
   by_cases hck:c=k
   · rw [if_pos hck,if_pos hck,List.drop_of_length_le (by omega),show ls.length - k=0 by omega]
     exact RdA.nil _ _ _
   · rw [if_neg hck,if_neg hck]
     exact h.cut hk
  have hone:=rone_any hcut gen n
  rw [rec_drop] at hone
  have HV:=hide hv
  have HK:=Hj4 hinv.out hn hrow hmd
  clear hinv hn hrow hmd hcut
  by_cases hck:c=k
  · have hr:recS ls gen k n=none:=by
     cases h:recS ls gen k n with
     | none=>rfl
     | some p=>have:=rec_fits (d:=p.1) (n:=p.2) h;have:=rec_pos (d:=p.1) (n:=p.2) h;omega
    have hlk:ls.length=k:=by omega
    rw [if_pos hck,if_pos hck,show ls.length - k=0 by omega] at hv
    rw [hr] at hone
    have HRN:=Hj2 hr hlk
    subst hck
    rw [hlk] at hk hl ⊢
    subst hv
    clear hr hlk
    go_wp2_with (go_at_call 133;refine hone.mono ?_;rintro e w1 ⟨rfl,m1⟩;have H1:=hide m1;clear m1)
    go_ret2
    have h:=HK.out.1
    rw [scan_none HRN.out.1,List.append_nil] at h
    rw [← h]
    exact ⟨_,vs,rfl,by rw [← HK.out.2.1] at *;exact HK.out.2.2.1.mod H1.out (by simp),HK.out.2.2.2.then H1.out⟩
  · rw [if_neg hck,if_neg hck] at hv
    subst hv
    have hsub:(ls.length:Int) - (k:Int)=((ls.length - k:Nat):Int):=by omega
    cases hr:recS ls gen k n with
    | none =>
      rw [hr] at hone
      have HRN:=hide hr
      clear hr
      go_wp2_with (go_at_call 133;refine hone.mono ?_;rintro e w1 ⟨rfl,m1⟩;have H1:=hide m1;clear m1)
      go_ret2
      have h:=HK.out.1
      rw [scan_none HRN.out,List.append_nil] at h
      rw [← h]
      exact ⟨_,vs,rfl,HK.out.2.2.1.mod H1.out (by simp),HK.out.2.2.2.then H1.out⟩
    | some p =>
      obtain ⟨d,r⟩:=p
      rw [hr] at hone
      have hf:=rec_fits hr
      have hp:=rec_pos hr
      have hw:IntKind.i64.wrap ((k:Int)+(r:Int))=((k+r:Nat):Int):=(IntWalk.i64_in _ (by omega)).trans (by omega)
      have hst:=scan_some hr
      have HS:=hide hst
      clear hr hst
      go_wp2_with (first
       | (go_at_call 133;refine hone.mono ?_;rintro e w1 ⟨u1,rfl,r1,m1⟩
          simp only at r1 ⊢
          obtain ⟨q1,c1,rfl⟩:=r1.rd.len
          obtain ⟨dl,hdl⟩:∃ n,d.length=n:=⟨_,rfl⟩
          rw [hdl] at r1 ⊢
          have H1:=Hj2 r1 m1
          clear hone r1 m1 hdl)
       | (at_builtin
          refine wpList_app_ys _ rfl _ _ rfl w.heap.size (.slice qo n co) vs os rfl (HK.out.2.2.1.mod (H1.out.2.alloc _) (by simp)) w1.heap.size (.slice q1 dl c1) d rfl (heap_alloc_new w1 _) rfl ((H1.out.1.mod_alloc _).base hsz) (fun x hx hx2=>by have a1:=(H1.out.1.blk x hx).1;have a2:=(HK.out.2.2.1.blk x hx2).2;omega) (by have:=HK.out.2.1;omega) (by have:=H1.out.2.size;simp;omega) ?_
          intro g cap' w3 hr3 hm3 hg1 hg2
          have H3:=Hj2 hr3 hm3
          clear hr3 hm3 hg1 hg2)
       | fail)
      go_roundw
      case rel =>
       have h3:=H3.out.1
       rw [HK.out.2.1] at h3
       refine ⟨k+r,n+1,some ⟨g,0,none⟩,cap',os++[d],vs++[.slice q1 dl c1],by go_num,by rw [HK.out.2.1],by rw [List.length_append,HK.out.2.1];rfl,by omega,by omega,h3,mod_new (HK.out.2.2.2.then (H1.out.2.alloc _)) H3.out.2 (fun x hx=>(HK.out.2.2.1.blk x hx).1),hide ?_⟩
       rw [← HK.out.1,HS.out,List.append_assoc]
       rfl
      case measure=>simp [intOf];omega
end Go.Proofs.YtpphoeimakjjdaaGreatDoor
/-
  WALKS: layer 10: a scan's part and record.
-/
namespace Go.Proofs.YtpphoeimakjjdaaGreatDoor
set_option maxRecDepth 100000
set_option maxHeartbeats 4000000
open Go.RowKit Go.Shelf

def ScM (w:World) (ps:Nat) (v:Value) (gen used:Nat):Prop:=w.heap[ps]?=some (.cells #[v,.int .i64 (gen:Int),.int .i64 (used:Int)] 164 (0,0))
def brokenV:Value:=.iface 166 (.agg #[])
def PartTo (w:World) (o:Option Prt) (e:Ending) (w':World):Prop :=
 match o with
 | none=>e=.panicked [{ v:=brokenV,recovered:=false }]∧Mod [] w w'
 | some p=>∃ q c,e=.returned (.agg #[.int .i64 (p.gen:Int),.int .i64 (p.seq:Int),.int .i64 (p.index:Int),.int .i64 (p.parts:Int),.slice q p.data.length c])∧RowY w' w.heap.size (.slice q p.data.length c) p.data∧Mod [] w w'
theorem part_done {w X:World} {O:Option Prt} {p:Prt} {q:Option Addr} {c:Nat} (hs:O=some p) {tmps:Array Value} (h2:tmps.getD 10 undef=.pointer (some ⟨w.heap.size,0,none⟩)) (hb:∃ cs T,cs.size=5∧X.heap[w.heap.size]?=some (.cells cs T (0,0)))
 (hr:RowY X (w.heap.size+1) (.slice q p.data.length c) p.data) (hm:Mod [w.heap.size] w X) :
 bodyPost Tryz.prog Tryz.f150 (fun e w'=>PartTo w O e w') Exit.ret { tmps:=tmps,defers:=[] } (stL X w.heap.size 0 [.int .i64 (p.gen:Int),.int .i64 (p.seq:Int),.int .i64 (p.index:Int),.int .i64 (p.parts:Int),.slice q p.data.length c]):=by
 obtain ⟨cs,T,hs5,hb⟩:=hb
 have r:=stL_all hb [.int .i64 (p.gen:Int),.int .i64 (p.seq:Int),.int .i64 (p.index:Int),.int .i64 (p.parts:Int),.slice q p.data.length c] hs5
 refine bodyPost_ret (v:=.agg #[.int .i64 (p.gen:Int),.int .i64 (p.seq:Int),.int .i64 (p.index:Int),.int .i64 (p.parts:Int),.slice q p.data.length c]) (res_cell1 Tryz.results150 _ _ h2 r Tryz.isAgg118 Tryz.sizeOf118) rfl ?_
 rw [hs]
 refine ⟨q,c,rfl,?_,(stL_mod (by simp) _ _ _ hm).mono (fun x hx hlt=>by simp at hx;omega)⟩
 refine (hr.mod (S:=[w.heap.size]) (stL_mod (by simp) _ _ _ (Mod.refl _ _)) (fun k hk e=>?_)).base (Nat.le_succ _)
 have:=(hr.blk k hk).1
 simp at e
 omega
theorem part_any {w:World} {ps base:Nat} {v:Value} {vs:List Value} {ls:List B8} {gen used:Nat} (h:ScM w ps v gen used) (hl:RdsY w base v vs ls) (at_ seq index parts:Nat) :
 Calls Tryz.prog 150 #[.pointer (some ⟨ps,0,none⟩),.int .i64 (at_:Int),.int .i64 (seq:Int),.int .i64 (index:Int),.int .i64 (parts:Int)] w fun e w'=>PartTo w (partS ls gen at_ seq index parts) e w':=by
 obtain ⟨q,c,rfl,hmx⟩:=hl.shape
 have hmx':ls.length≤9223372036854775807:=hmx
 have s0:w.cell? ⟨ps,0,none⟩=some (.slice q ls.length c):=blk_cell h 0
 have s1:w.cell? ⟨ps,1,none⟩=some (.int .i64 (gen:Int)):=blk_cell h 1
 have hps:ps<w.heap.size:=lt_of_block h
 have HX:=hide h
 clear h
 by_cases hat:at_<ls.length
 · obtain ⟨bb,rfl,hbb,c1,r1⟩:=hl.at_ at_ hat
   have hr:=r1.1
   have hat':ls[at_]?=some (ls.getD at_ []):=by simp [hat]
   generalize vs.getD at_ nilS=sv at c1 hr
   generalize ls.getD at_ []=b at hr hat'
   clear r1
   cases hL:lookS b with
   | none =>
     have hp:partS ls gen at_ seq index parts=none:=by unfold partS;rw [hat'];simp [hL]
     rw [hp]
     have HP:=Hj2 hp hat'
     clear hp hat' hl
     go_enter Tryz.func150,Tryz.ntmps150
     go_wp2_with (go_at_call 73;refine (look_any (hr.gr ((Gr.refl w).alloc objP0))).mono ?_;rw [hL];rintro e w1 ⟨rfl,hm1⟩)
     go_quiet (fail)
     go_wp2_with fail
     exact ⟨rfl,rfl,((((Mod.refl [] w).alloc _).then hm1).alloc _).drewN _⟩
   | some p =>
     have hf:=look_fits hL
     have hPs:partS ls gen at_ seq index parts=if p.gen=gen∧p.seq=seq∧p.index=index∧(parts=0∨p.parts=parts) then some p else none:=by unfold partS;rw [hat'];simp [hL]
     obtain ⟨O,hO⟩:∃ O,partS ls gen at_ seq index parts=O:=⟨_,rfl⟩
     rw [hO]
     rw [hO] at hPs
     obtain ⟨⟨hf1,hf2,hf3,hf4,hf5⟩,hf6,-⟩:=hf.2
     clear hat' hl hf hO
     obtain ⟨pg,pq,pi,pn,pd⟩:=p
     simp only at hf1 hf2 hf3 hf4 hf5 hf6 hPs
     have HP:=hide hPs
     clear hPs
     go_enter Tryz.func150,Tryz.ntmps150
     go_upto_region 4 with (go_at_call 73;refine (look_any (hr.gr ((Gr.refl w).alloc objP0))).mono ?_;rw [hL];rintro e w1 ⟨q1,c1',rfl,hr1,hm1⟩)
     have hmw:Mod [] w w1:=((Mod.refl [] w).alloc objP0).then hm1
     have hwz:(w.alloc objP0).heap[w.heap.size]?=some (.cells zeroP.toArray 118 (0,0)):=heap_alloc_new w _
     have hwz1:=hm1.at_ hwz (by simp)
     have HZ:=hide hwz1
     have hszw:w.heap.size<w1.heap.size:=lt_of_block hwz1
     have s1':∀ (o:Obj),(w1.alloc o).cell? ⟨ps,1,none⟩=some (.int .i64 (gen:Int)):=fun o=>((Gr.refl w1).alloc o).kept (hmw.kept s1 (by simp))
     clear hwz hwz1
     have z0:∀ (o:Obj),(w1.alloc o).cell? ⟨w.heap.size,0,none⟩=some (.int .i64 0):=fun o=>blk_cell (blk_alloc HZ.out o) 0
     have z1:∀ (o:Obj),(w1.alloc o).cell? ⟨w.heap.size,1,none⟩=some (.int .i64 0):=fun o=>blk_cell (blk_alloc HZ.out o) 1
     have z2:∀ (o:Obj),(w1.alloc o).cell? ⟨w.heap.size,2,none⟩=some (.int .i64 0):=fun o=>blk_cell (blk_alloc HZ.out o) 2
     have z3:∀ (o:Obj),(w1.alloc o).cell? ⟨w.heap.size,3,none⟩=some (.int .i64 0):=fun o=>blk_cell (blk_alloc HZ.out o) 3
     have z4:∀ (o:Obj),(w1.alloc o).cell? ⟨w.heap.size,4,none⟩=some (.slice none 0 0):=fun o=>blk_cell (blk_alloc HZ.out o) 4
     have y0:∀ (o:Obj),(w1.alloc o).frozen? ⟨w.heap.size,0,none⟩=false:=fun o=>blk_free (blk_alloc HZ.out o) 0
     have y1:∀ (o:Obj),(w1.alloc o).frozen? ⟨w.heap.size,1,none⟩=false:=fun o=>blk_free (blk_alloc HZ.out o) 1
     have y2:∀ (o:Obj),(w1.alloc o).frozen? ⟨w.heap.size,2,none⟩=false:=fun o=>blk_free (blk_alloc HZ.out o) 2
     have y3:∀ (o:Obj),(w1.alloc o).frozen? ⟨w.heap.size,3,none⟩=false:=fun o=>blk_free (blk_alloc HZ.out o) 3
     have y4:∀ (o:Obj),(w1.alloc o).frozen? ⟨w.heap.size,4,none⟩=false:=fun o=>blk_free (blk_alloc HZ.out o) 4
     by_cases e1:pg=gen
     · have b1:((pg:Int) != (gen:Int))=false:=by simp;omega
       by_cases e2:pq=seq
       · have b2:((pq:Int) != (seq:Int))=false:=by simp;omega
         by_cases e3:pi=index
         · have b3:((pi:Int) != (index:Int))=false:=by simp;omega
           by_cases e4:parts=0
           · have b4:decide ((0:Int)<(parts:Int))=false:=by simp;omega
             have b4':decide (0<parts)=false:=by simp;omega
             have HE:=Hj4 e1 e2 e3 e4
             clear e1 e2 e3 e4
             go_quiet (fail)
             go_wp2_with fail
             exact part_done (p:=⟨pg,pq,pi,pn,pd⟩) (by rw [HP.out,if_pos ⟨HE.out.1,HE.out.2.1,HE.out.2.2.1,.inl HE.out.2.2.2⟩]) rfl ⟨_,_,rfl,(((Gr.refl _).drewN _).heap (by simp;omega)).trans (blk_alloc HZ.out _)⟩ (((hr1.base (by simp)).gr ((Gr.refl w1).alloc _)).gr ((Gr.refl _).drewN _)) ((((hmw.mono (by simp)).alloc _).drewN _))
           · have b4:decide ((0:Int)<(parts:Int))=true:=by simp;omega
             have b4':decide (0<parts)=true:=by simp;omega
             by_cases e5:pn=parts
             · have b5:((pn:Int) != (parts:Int))=false:=by simp;omega
               have HE:=Hj4 e1 e2 e3 e5
               clear e1 e2 e3 e4 e5
               go_quiet (fail)
               go_wp2_with fail
               exact part_done (p:=⟨pg,pq,pi,pn,pd⟩) (by rw [HP.out,if_pos ⟨HE.out.1,HE.out.2.1,HE.out.2.2.1,.inr HE.out.2.2.2⟩]) rfl ⟨_,_,rfl,(((Gr.refl _).drewN _).heap (by simp;omega)).trans (blk_alloc HZ.out _)⟩ (((hr1.base (by simp)).gr ((Gr.refl w1).alloc _)).gr ((Gr.refl _).drewN _)) ((((hmw.mono (by simp)).alloc _).drewN _))
             · have b5:((pn:Int) != (parts:Int))=true:=by simp;omega
               have HE:=Hj2 e4 e5
               clear e1 e2 e3 e4 e5
               go_quiet (fail)
               go_wp2_with fail
               obtain rfl:O=none:=by rw [HP.out,if_neg (fun x=>x.2.2.2.elim HE.out.1 HE.out.2)]
               refine ⟨rfl,?_⟩
               exact ⟨rfl,((((Mod.refl [] w).alloc _).then hm1).alloc _).drewN _⟩
         · have b3:((pi:Int) != (index:Int))=true:=by simp;omega
           have HE:=hide e3
           clear e3
           go_quiet (fail)
           go_wp2_with fail
           obtain rfl:O=none:=by rw [HP.out,if_neg (fun x=>HE.out x.2.2.1)]
           refine ⟨rfl,?_⟩
           exact ⟨rfl,((((Mod.refl [] w).alloc _).then hm1).alloc _).drewN _⟩
       · have b2:((pq:Int) != (seq:Int))=true:=by simp;omega
         have HE:=hide e2
         clear e2
         go_quiet (fail)
         go_wp2_with fail
         obtain rfl:O=none:=by rw [HP.out,if_neg (fun x=>HE.out x.2.1)]
         refine ⟨rfl,?_⟩
         exact ⟨rfl,((((Mod.refl [] w).alloc _).then hm1).alloc _).drewN _⟩
     · have b1:((pg:Int) != (gen:Int))=true:=by simp;omega
       have HE:=hide e1
       clear e1
       go_quiet (fail)
       go_wp2_with fail
       obtain rfl:O=none:=by rw [HP.out,if_neg (fun x=>HE.out x.1)]
       refine ⟨rfl,?_⟩
       exact ⟨rfl,((((Mod.refl [] w).alloc _).then hm1).alloc _).drewN _⟩
 · have hp:partS ls gen at_ seq index parts=none:=by unfold partS;rw [List.getElem?_eq_none (by omega)];rfl
   rw [hp]
   have i1:(ls.length:Int)≤(at_:Int):=by omega
   have HP:=hide hp
   clear hp hl
   go_enter Tryz.func150,Tryz.ntmps150
   go_wp2_with fail
   exact ⟨rfl,rfl,(Mod.refl [] w).alloc _⟩
end Go.Proofs.YtpphoeimakjjdaaGreatDoor
