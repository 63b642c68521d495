/-
  Look Part Recrd Scan: see the remarks below.
-/
import Derived.Test.YtllljngpgjkdiaaGreatDoorMRds
import Derived.Test.YtllljngpgjkdiaaGreatDoorMOctS
import Derived.Test.YtllljngpgjkdiaaGreatDoorMResC
import Derived.Test.YtllljngpgjkdiaaGreatDoorMTrim
import Derived.Shelf.Abstract
import Derived.BigQuiet
import Derived.Deep.RegionHeld3
import Derived.Deep.DeepCutAuto
import Derived.Deep.DrawnRows
import Derived.StillTailTactics
import Derived.Test.YtllljngpgjkdiaaGreatDoorMWc
import Derived.Test.YtllljngpgjkdiaaGreatDoorMStepC
import Derived.Deep.RegionLaw
import Derived.OrdersHeld
import Derived.Defers
import Derived.Recover
/-
  WALKS: layer 10: Look.
-/
namespace Go.Proofs.YtllljngpgjkdiaaGreatDoor
set_option maxRecDepth 100000
set_option maxHeartbeats 4000000
open Go.RowKit Go.Shelf

def LookTo (w:World) (o:Option Prt) (e:Ending) (w':World):Prop :=
 match o with
 | none=>e=.returned (.tuple #[.agg #[.int .i64 0,.int .i64 0,.int .i64 0,.int .i64 0,.slice none 0 0],.int .i64 43])∧Mod [] w w'
 | some p=>∃ q c,e=.returned (.tuple #[.agg #[.int .i64 (p.gen:Int),.int .i64 (p.seq:Int),.int .i64 (p.index:Int),.int .i64 (p.parts:Int),.slice q p.data.length c],.int .i64 0])∧RowY w' w.heap.size (.slice q p.data.length c) p.data∧Mod [] w w'
def prtCells (p:Prt) (v:Value):Array Value:=#[.int .i64 (p.gen:Int),.int .i64 (p.seq:Int),.int .i64 (p.index:Int),.int .i64 (p.parts:Int),v]
def zeroP:List Value:=[.int .i64 0,.int .i64 0,.int .i64 0,.int .i64 0,.slice none 0 0]
def objP0:Obj:=.cells #[.int .i64 0,.int .i64 0,.int .i64 0,.int .i64 0,.slice none 0 0] 142 (0,0)
theorem look_none {w W:World} {b:B8} (hn:lookS b=none) {tmps:Array Value} (h2:tmps.getD 2 undef=.pointer (some ⟨w.heap.size,0,none⟩)) (h3:tmps.getD 3 undef=.int .i64 43) (hb:∃ cs T,cs.size=5∧W.heap[w.heap.size]?=some (.cells cs T (0,0))) (hm:Mod [w.heap.size] w W) :
 bodyPost Tryz.prog Tryz.f102 (fun e w'=>LookTo w (lookS b) e w') Exit.ret { tmps:=tmps,defers:=[] } (stL W w.heap.size 0 zeroP):=by
 obtain ⟨cs,T,hs,hb⟩:=hb
 have q:=stL_all hb zeroP hs
 refine bodyPost_ret (v:=.tuple #[.agg zeroP.toArray,.int .i64 43]) (res_cell2 Tryz.results102 _ _ h2 q Tryz.isAgg142 Tryz.sizeOf142 (by rw [h3])) rfl ?_
 rw [hn]
 exact ⟨rfl,(stL_mod (by simp) _ _ _ hm).mono (fun x hx hlt=>by simp at hx;omega)⟩
theorem look_some {w X:World} {b:B8} {p:Prt} {q:Option Addr} {c:Nat} (hs:lookS b=some p) {tmps:Array Value} (h2:tmps.getD 2 undef=.pointer (some ⟨w.heap.size,0,none⟩)) (h3:tmps.getD 3 undef=.int .i64 0) (hb:∃ cs T,cs.size=5∧X.heap[w.heap.size]?=some (.cells cs T (0,0)))
 (hr:RowY X (w.heap.size+1) (.slice q p.data.length c) p.data) (hm:Mod [w.heap.size] w X) :
 bodyPost Tryz.prog Tryz.f102 (fun e w'=>LookTo w (lookS b) e w') Exit.ret { tmps:=tmps,defers:=[] } (stL X w.heap.size 0 [.int .i64 (p.gen:Int),.int .i64 (p.seq:Int),.int .i64 (p.index:Int),.int .i64 (p.parts:Int),.slice q p.data.length c]):=by
 obtain ⟨cs,T,hs5,hb⟩:=hb
 have r:=stL_all hb [.int .i64 (p.gen:Int),.int .i64 (p.seq:Int),.int .i64 (p.index:Int),.int .i64 (p.parts:Int),.slice q p.data.length c] hs5
 refine bodyPost_ret (v:=.tuple #[.agg #[.int .i64 (p.gen:Int),.int .i64 (p.seq:Int),.int .i64 (p.index:Int),.int .i64 (p.parts:Int),.slice q p.data.length c],.int .i64 0]) (res_cell2 Tryz.results102 _ _ h2 r Tryz.isAgg142 Tryz.sizeOf142 (by rw [h3])) rfl ?_
 rw [hs]
 refine ⟨q,c,rfl,?_,(stL_mod (by simp) _ _ _ hm).mono (fun x hx hlt=>by simp at hx;omega)⟩
 refine (hr.mod (S:=[w.heap.size]) (stL_mod (by simp) _ _ _ (Mod.refl _ _)) (fun k hk e=>?_)).base (Nat.le_succ _)
 have:=(hr.blk k hk).1
 simp at e
 omega
theorem meets (W1 X:World) (hX:X.heap[W1.heap.size]?=some (.cells zeroP.toArray 142 (0,0))) (hm:Mod [W1.heap.size] W1 X) (a b c d:Int) :
 (((((X.setCell ⟨W1.heap.size,0,none⟩ (.int .i64 a)).setCell ⟨W1.heap.size,1,none⟩ (.int .i64 b)).setCell ⟨W1.heap.size,2,none⟩ (.int .i64 c)).setCell ⟨W1.heap.size,3,none⟩ (.int .i64 d)).setCell ⟨W1.heap.size,4,none⟩ (.slice none 0 0)).heap[W1.heap.size]?=some (.cells #[.int .i64 a,.int .i64 b,.int .i64 c,.int .i64 d,.slice none 0 0] 142 (0,0))∧W1.heap.size≤W1.heap.size ∧
   Mod [] W1 (((((X.setCell ⟨W1.heap.size,0,none⟩ (.int .i64 a)).setCell ⟨W1.heap.size,1,none⟩ (.int .i64 b)).setCell ⟨W1.heap.size,2,none⟩ (.int .i64 c)).setCell ⟨W1.heap.size,3,none⟩ (.int .i64 d)).setCell ⟨W1.heap.size,4,none⟩ (.slice none 0 0)) :=
 ⟨stL_all hX [.int .i64 a,.int .i64 b,.int .i64 c,.int .i64 d,.slice none 0 0] rfl,Nat.le_refl _,(stL_mod (S:=[W1.heap.size]) (by simp) [.int .i64 a,.int .i64 b,.int .i64 c,.int .i64 d,.slice none 0 0] 0 X hm).mono (fun x hx hlt=>by simp at hx;omega)⟩
theorem look_any {w:World} {u:Value} {b:B8} (hu:RdY w u b) :
 Calls Tryz.prog 102 #[u] w fun e w'=>LookTo w (lookS b) e w':=by
 have h1:b.length≤9223372036854775807:=hu.1
 obtain ⟨q,c,rfl⟩:=hu.len
 have hcap:=hu.cap
 by_cases hl:b.length=64
 · rw [hl] at hu hcap ⊢
   obtain ⟨bb,off,rfl,hbb,-⟩:=hu.at_ 0 (by omega)
   have r60:RdY w (.slice (some ⟨bb,off+60,none⟩) 4 (c - 60)) (b.drop 60):=hu.cutA hl 60 (by decide)
   have r4:RdY w (.slice (some ⟨bb,off+4,none⟩) 60 (c - 4)) (b.drop 4):=hu.cutA hl 4 (by decide)
   have rs:RdY w (.slice (some ⟨bb,off,none⟩) 60 c) (b.take 60):=hu.takeA hl 60 (by decide)
   obtain ⟨W,hW⟩:∃ W,w.alloc objP0=W:=⟨_,rfl⟩
   have g0:Gr w W:=by rw [← hW];exact (Gr.refl w).alloc _
   have hW0:W.heap[w.heap.size]?=some (.cells zeroP.toArray 142 (0,0)):=by rw [← hW];exact heap_alloc_new w _
   have z0:W.cell? ⟨w.heap.size,0,none⟩=some (.int .i64 0):=blk_cell hW0 0
   have z1:W.cell? ⟨w.heap.size,1,none⟩=some (.int .i64 0):=blk_cell hW0 1
   have z2:W.cell? ⟨w.heap.size,2,none⟩=some (.int .i64 0):=blk_cell hW0 2
   have z3:W.cell? ⟨w.heap.size,3,none⟩=some (.int .i64 0):=blk_cell hW0 3
   have z4:W.cell? ⟨w.heap.size,4,none⟩=some (.slice none 0 0):=blk_cell hW0 4
   have y0:=blk_free hW0 0
   have y1:=blk_free hW0 1
   have y2:=blk_free hW0 2
   have y3:=blk_free hW0 3
   have y4:=blk_free hW0 4
   have hn60:¬ c=60:=by omega
   have hn4:¬ c=4:=by omega
   have hl60:4≤(b.drop 60).length:=by simp;omega
   have hl4:4≤(b.drop 4).length:=by simp;omega
   by_cases hc:ofFour (b.drop 60)=sumB (b.take 60)
   · have bc:((ofFour (b.drop 60):Int) != (sumB (b.take 60):Int))=false:=by simp;omega
     have hcn:=fun (n:Nat)=>number_any ((r60.gr g0).gr ((Gr.refl _).drewN n)) hl60
     have hsm:=fun (n:Nat)=>(sum_any ((rs.gr g0).gr ((Gr.refl _).drewN n))).mono (R':=fun e w'=>e=.returned (.int .u32 (sumB (b.take 60):Int))∧w'=W.drewN n) (fun _ _ ⟨p,q⟩=>⟨p,q.symm⟩)
     have hslt:=sumB_lt (b.take 60)
     obtain ⟨b8,o8,hq8,-,c8⟩:=hu.at_ 8 (by omega)
     simp only [Option.some.injEq,Addr.mk.injEq,and_true] at hq8
     obtain ⟨rfl,rfl⟩:=hq8
     obtain ⟨b8,o8,hq8,-,c9⟩:=hu.at_ 9 (by omega)
     simp only [Option.some.injEq,Addr.mk.injEq,and_true] at hq8
     obtain ⟨rfl,rfl⟩:=hq8
     obtain ⟨b8,o8,hq8,-,c10⟩:=hu.at_ 10 (by omega)
     simp only [Option.some.injEq,Addr.mk.injEq,and_true] at hq8
     obtain ⟨rfl,rfl⟩:=hq8
     unfold y8 at c8 c9 c10
     have hg:=number_any (hu.gr (g0.drewN 0)) (by omega)
     have hs:=number_any (r4.gr (g0.drewN 0)) hl4
     have HC:=hide (show decide (ofFour (b.drop 60)=sumB (b.take 60))=true from by rw [hc];simp)
     have HL:=hd3 hl hc hW0
     have HR:=hd4 hu r4 hl4 hl60
     have lt8:=byte_lt (b.getD 8 0)
     have lt9:=byte_lt (b.getD 9 0)
     have lt10:=byte_lt (b.getD 10 0)
     clear hg hs hl hc hW0
     generalize hx60:ofFour (b.drop 60)=x60 at hcn bc HL
     generalize hxs:sumB (b.take 60)=xs at hsm bc HL hslt
     clear hx60 hxs
     go_enter Tryz.func102,Tryz.ntmps102
     go_wp2_with fail
     change Code.wp _ _ _ _ (w.alloc objP0)
     rw [hW]
     go_quiet ((first | (go_at_call 130;exact Calls.quiet_of (hcn _)) | (go_at_call 131;exact Calls.quiet_of_same (hsm _))))
     clear hcn hsm
     have gW1:Gr w (W.drewN nq):=g0.drewN nq
     have c8':=gW1.kept c8
     have c9':=gW1.kept c9
     have c10':=gW1.kept c10
     have HZ:=hd5 z0 z1 z2 z3 z4
     have HF:=hd5 y0 y1 y2 y3 y4
     clear z0 z1 z2 z3 z4 y0 y1 y2 y3 y4 c8 c9 c10
     go_upto_region 3 with fail
     obtain ⟨W1,hW1⟩:∃ W1,W.drewN nq=W1:=⟨_,rfl⟩
     rw [hW1] at gW1 c8' c9' c10' ⊢
     generalize hy8:b.getD 8 0=v8 at c8' lt8
     generalize hy9:b.getD 9 0=v9 at c9' lt9
     go_cut [4] (fun s4 wx=>∃ bx,s4=.pointer (some ⟨bx,0,none⟩)∧wx.heap[bx]?=some (.cells (prtCells ⟨ofFour b,ofFour (b.drop 4),v8.toNat,v9.toNat,[]⟩ (.slice none 0 0)) 142 (0,0))∧W1.heap.size≤bx∧Mod [] W1 wx)
     case first =>
      have t1:Hid True:=hide trivial
      have t2:Hid True:=hide trivial
      obtain ⟨hdc,hdf⟩:=drewN_new W1
      have hw8:IntKind.i64.wrap (v8.toNat:Int)=(v8.toNat:Int):=IntWalk.i64_in _ (by omega)
      have hw9:IntKind.i64.wrap (v9.toNat:Int)=(v9.toNat:Int):=IntWalk.i64_in _ (by omega)
      have hbW:bb<W1.heap.size:=Nat.lt_of_lt_of_le hbb gW1.size
      have hne1:¬ bb=W1.heap.size:=by omega
      have hne2:¬ W1.heap.size=bb:=by omega
      have ha8:∀ (o:Obj),(W1.alloc o).cell? ⟨bb,off+8,none⟩=some (.int .u8 (v8.toNat:Int)):=fun o=>((Gr.refl W1).alloc o).kept c8'
      have ha9:∀ (o:Obj),(W1.alloc o).cell? ⟨bb,off+9,none⟩=some (.int .u8 (v9.toNat:Int)):=fun o=>((Gr.refl W1).alloc o).kept c9'
      have hb8:∀ (n:Nat) (o:Obj),((W1.drewN n).alloc o).cell? ⟨bb,off+8,none⟩=some (.int .u8 (v8.toNat:Int)):=fun n o=>(((Gr.refl W1).drewN n).alloc o).kept c8'
      have hb9:∀ (n:Nat) (o:Obj),((W1.drewN n).alloc o).cell? ⟨bb,off+9,none⟩=some (.int .u8 (v9.toNat:Int)):=fun n o=>(((Gr.refl W1).drewN n).alloc o).kept c9'
      go_region_held3 (fun w'=>w'.cell? ⟨bb,off+8,none⟩=some (.int .u8 (v8.toNat:Int))∧w'.cell? ⟨bb,off+9,none⟩=some (.int .u8 (v9.toNat:Int)))
       (first | go_keep | fail)
       (first
         | (go_at_call 130;have tk:=t1;refine (number_any (HR.out.1.gr (gW1.trans (by repeat (first | exact Gr.refl _ | apply Gr.drew | apply Gr.drewN | apply Gr.alloc)))) (by rw [HL.out.1];decide)).mono ?_;rintro e w' ⟨rfl,n,rfl⟩;clear t1 tk)
         | (go_at_call 130;have tk:=t2;refine (number_any (HR.out.2.1.gr (gW1.trans (by repeat (first | exact Gr.refl _ | apply Gr.drew | apply Gr.drewN | apply Gr.alloc)))) HR.out.2.2.1).mono ?_;rintro e w' ⟨rfl,n,rfl⟩;clear t2 tk)
         | fail)
      all_goals
       go_wp2_with fail
       go_meet
       case rel =>
       first
        | exact ⟨W1.heap.size,rfl,meets W1 ((W1.drewN _).alloc _) (heap_alloc_new _ _) (((Mod.refl [W1.heap.size] W1).drewN _).alloc _) _ _ _ _⟩
        | exact ⟨W1.heap.size,rfl,meets W1 (((W1.drewN _).alloc _).drewN _) (heap_alloc_new _ _) ((((Mod.refl [W1.heap.size] W1).drewN _).alloc _).drewN _) _ _ _ _⟩
        | fail
     case rest =>
     obtain ⟨bx,rfl,hbx,hbx2,hmx⟩:=hcut
     obtain ⟨W2,rfl⟩:∃ W2:World,W2=wc:=⟨_,rfl⟩
     have k0:W2.cell? ⟨bx,0,none⟩=some (.int .i64 (ofFour b:Int)):=blk_cell hbx 0
     have k1:W2.cell? ⟨bx,1,none⟩=some (.int .i64 (ofFour (b.drop 4):Int)):=blk_cell hbx 1
     have k2:W2.cell? ⟨bx,2,none⟩=some (.int .i64 (v8.toNat:Int)):=blk_cell hbx 2
     have k3:W2.cell? ⟨bx,3,none⟩=some (.int .i64 (v9.toNat:Int)):=blk_cell hbx 3
     have e10:=hmx.kept c10' (by simp)
     generalize hy10:b.getD 10 0=v10 at e10 lt10
     have HB:=hd3 hbx hbx2 hmx
     clear hbx hbx2 hmx c8' c9' c10'
     generalize hxa:ofFour b=ga at *
     generalize hxb:ofFour (b.drop 4)=gb at *
     generalize hna:v8.toNat=na at *
     generalize hnb:v9.toNat=nb at *
     generalize hnc:v10.toNat=nc at *
     obtain ⟨ci,hci⟩:∃ ci:Int,(nc:Int)=ci:=⟨_,rfl⟩
     rw [hci] at e10
     have hci0:0≤ci:=by omega
     have hci1:ci<256:=by omega
     have HE:=hd9 hxa hxb hna hnb hnc hy8 hy9 hy10 hci
     clear hxa hxb hna hnb hnc hy8 hy9 hy10 hci
     go_upto_if 47 with fail
     go_cut [6] (fun s6 wx=>s6=.bool (fullB nc na nb)∧wx=W2)
     case first =>
      by_cases hlast:na+1=nb
      · have b1:((na:Int)==(nb:Int) - 1)=true:=by simp;omega
        have HH:=hide hlast
        clear hlast
        go_wp2_with fail
        all_goals
         go_meet
         case rel =>
          have hci:=HE.out.2.2.2.2.2.2.2.2
          refine ⟨congrArg Value.bool ?_,rfl⟩
          rw [Bool.eq_iff_iff,full_iff,if_pos HH.out]
          simp
          omega
      · have b1:((na:Int)==(nb:Int) - 1)=false:=by simp;omega
        have HH:=hide hlast
        clear hlast
        go_wp2_with fail
        all_goals
         go_meet
         case rel =>
          have hci:=HE.out.2.2.2.2.2.2.2.2
          refine ⟨congrArg Value.bool ?_,rfl⟩
          rw [Bool.eq_iff_iff,full_iff,if_neg HH.out]
          simp
          omega
     case rest =>
     obtain ⟨rfl,rfl⟩:=hcut
     go_upto_region 8 with fail
     go_cut [7] (fun s7 wx=>s7=.bool (fitsB ga gb na nb)∧wx=wc)
     case first =>
      go_wp2_with fail
      all_goals
       go_meet
       case rel =>
        refine ⟨congrArg Value.bool ?_,rfl⟩
        rw [Bool.eq_iff_iff,fits_iff]
        simp
        omega
     case rest =>
     obtain ⟨rfl,rfl⟩:=hcut
     obtain ⟨W2,rfl⟩:∃ W2:World,W2=wc:=⟨_,rfl⟩
     obtain ⟨hxa,hxb,hna,hnb,hnc,hy8,hy9,hy10,hci⟩:=HE.out
     have hlS:lenS b=nc:=by unfold lenS;rw [hy10,hnc]
     have hW1z:W1.heap[w.heap.size]?=some (.cells zeroP.toArray 142 (0,0)):=by rw [← hW1];exact (((Gr.refl W).drewN nq).heap (lt_of_block HL.out.2.2)).trans HL.out.2.2
     have hbz:W2.heap[w.heap.size]?=some (.cells zeroP.toArray 142 (0,0)):=HB.out.2.2.at_ hW1z (by simp)
     have mz:Mod [] w W2:=(gW1.mod []).then HB.out.2.2
     have z0:W2.cell? ⟨w.heap.size,0,none⟩=some (.int .i64 0):=blk_cell hbz 0
     have z1:W2.cell? ⟨w.heap.size,1,none⟩=some (.int .i64 0):=blk_cell hbz 1
     have z2:W2.cell? ⟨w.heap.size,2,none⟩=some (.int .i64 0):=blk_cell hbz 2
     have z3:W2.cell? ⟨w.heap.size,3,none⟩=some (.int .i64 0):=blk_cell hbz 3
     have z4:W2.cell? ⟨w.heap.size,4,none⟩=some (.slice none 0 0):=blk_cell hbz 4
     have y0:=blk_free hbz 0
     have y1:=blk_free hbz 1
     have y2:=blk_free hbz 2
     have y3:=blk_free hbz 3
     have y4:=blk_free hbz 4
     have hbxw:w.heap.size<bx:=by have:=lt_of_block hW1z;have:=HB.out.2.1;omega
     have HM:=hd3 hbz mz hlS
     clear hxa hxb hna hnb hnc hy8 hy9 hy10 hci hlS hW1z hbz mz
     have hdead:∀ (P:Prop),(okLook b=true→P)→¬ P→lookS b=none:=fun P h1 h2=>by
      unfold lookS
      rw [if_neg (fun h=>h2 (h1 h))]
     have hlk:okLook b=true→fitsB ga gb na nb=true∧fullB nc na nb=true∧zeroB ((b.drop (11+nc)).take (49 - nc))=true:=fun h=>by
      obtain ⟨hxa,hxb,hna,hnb,hnc,hy8,hy9,hy10,hci⟩:=HE.out
      obtain ⟨_,_,h3,h4,h5⟩:=okLook_iff.1 h
      rw [HM.out.2.2] at h4 h5
      rw [hy8,hy9,hna,hnb] at h4
      rw [hy8,hy9,hna,hnb,hxa,hxb] at h3
      exact ⟨h3,h4,h5⟩
     have HD:=hd2 hdead hlk
     clear hdead hlk
     cases hft:fitsB ga gb na nb with
     | false =>
       have hn:lookS b=none:=HD.out.1 _ (fun h=>(HD.out.2 h).1) (by rw [hft];decide)
       have HN:=hide hn
       clear hn
       go_wp2_with fail
       exact look_none HN.out rfl rfl ⟨_,_,rfl,HM.out.1⟩ (HM.out.2.1.mono (by simp))
     | true =>
       cases hfu:fullB nc na nb with
       | false =>
         have hn:lookS b=none:=HD.out.1 _ (fun h=>(HD.out.2 h).2.1) (by rw [hfu];decide)
         have HN:=hide hn
         clear hn
         go_wp2_with fail
         exact look_none HN.out rfl rfl ⟨_,_,rfl,HM.out.1⟩ (HM.out.2.1.mono (by simp))
       | true =>
         have hn47:=(full_iff.1 hfu).1
         obtain rfl:ci=(nc:Int):=HE.out.2.2.2.2.2.2.2.2.symm
         have hcc1:¬ c=11+nc:=by omega
         have hi1:(0:Int)≤11+(nc:Int):=by omega
         have hi2:(11:Int)+(nc:Int)≤60:=by omega
         have hi3:(11:Int)+(nc:Int)≤(c:Int):=by omega
         have hl:b.length=64:=HL.out.1
         have hu2:=hu.mod HM.out.2.1 (by simp)
         have rt0:=(hu2.cutA hl (11+nc) (by omega)).takeA (by rw [List.length_drop,hl]) (60 - (11+nc)) (by omega)
         have rt:RdY W2 (.slice (some ⟨bb,off+(11+nc),none⟩) (60 - (11+nc)) (c - (11+nc))) ((b.drop (11+nc)).take (49 - nc)):=by
          rw [show 49 - nc=60 - (11+nc) by omega];exact rt0
         have rtl:((b.drop (11+nc)).take (49 - nc)).length=60 - (11+nc):=by simp [hl];omega
         have ra:RdY W2 (.slice (some ⟨bb,off+11,none⟩) nc (c - 11)) ((b.drop 11).take nc):=(hu2.cutA hl 11 (by decide)).takeA (by rw [List.length_drop,hl]) nc (by omega)
         have ral:((b.drop 11).take nc).length=nc:=by simp [hl];omega
         have hcB:c≤9223372036854775807:=hu2.capM (by omega)
         have htr:=trim_any rt rtl (by omega) (by omega)
         clear hu2 rt0 rt rtl hl
         cases hzr:zeroB ((b.drop (11+nc)).take (49 - nc)) with
         | false =>
           have hn:lookS b=none:=HD.out.1 _ (fun h=>(HD.out.2 h).2.2) (by rw [hzr];decide)
           have HN:=hide hn
           rw [hzr] at htr
           clear hn
           go_wp2_with (go_at_call 132;refine htr.mono ?_;rintro e w' ⟨⟨p',k,c',rfl,hk⟩,n,rfl⟩;have hk0:0<k:=(by refine Nat.pos_of_ne_zero fun e=>?_;have:=hk.1 e;cases this);clear hk)
           exact look_none HN.out rfl rfl ⟨_,_,rfl,(((Gr.refl W2).drewN _).heap (lt_of_block HM.out.1)).trans HM.out.1⟩ ((HM.out.2.1.mono (by simp)).drewN _)
         | true =>
           rw [hzr] at htr
           have hls:lookS b=some ⟨ga,gb,na,nb,(b.drop 11).take nc⟩:=by
            have h3:okLook b=true:=by
             obtain ⟨hxa,hxb,hna,hnb,hnc,hy8,hy9,hy10,-⟩:=HE.out
             rw [okLook_iff]
             refine ⟨HL.out.1,?_,?_,?_,?_⟩
             · have:=HL.out.2.1
               unfold crcOk
               exact HC.out
             · rw [hxa,hxb,hy8,hy9,hna,hnb];exact hft
             · rw [HM.out.2.2,hy8,hy9,hna,hnb];exact hfu
             · rw [HM.out.2.2];exact hzr
            obtain ⟨hxa,hxb,hna,hnb,hnc,hy8,hy9,hy10,-⟩:=HE.out
            unfold lookS
            rw [if_pos h3]
            unfold prtOf
            rw [HM.out.2.2,hxa,hxb,hy8,hy9,hna,hnb]
           generalize (b.drop 11).take nc=D at ra ral hls
           have HLS:=hide hls
           have ra':RdY W2 (.slice (some ⟨bb,off+11,none⟩) (11+nc - 11) (c - 11)) D:=by rw [Nat.add_sub_cancel_left];exact ra
           clear hls ra
           have ral':=hide ral
           have hDl:D.length≤47:=by omega
           clear ral hzr
           go_wp2_with (first
            | (go_at_call 132;refine htr.mono ?_;rintro e w' ⟨⟨p',k,c',rfl,hk⟩,n,rfl⟩;obtain rfl:k=0:=hk.2 rfl;clear hk)
            | (at_builtin;refine wpList_copy_y (m:=D) _ rfl _ _ rfl rfl rfl (ra'.gr ((Gr.refl W2).drewN _)) (Nat.le_trans hDl (by decide)) ?_;intro p5 c5 w5 hr5 hm5;have hbx5:=hm5.at_ ((((Gr.refl W2).drewN n).heap (lt_of_block HB.out.1)).trans HB.out.1) (by simp);have hbz5:=hm5.at_ ((((Gr.refl W2).drewN n).heap (lt_of_block HM.out.1)).trans HM.out.1) (by simp);have q0:w5.cell? ⟨bx,0,none⟩=some (.int .i64 (ga:Int)):=blk_cell hbx5 0;have q1:w5.cell? ⟨bx,1,none⟩=some (.int .i64 (gb:Int)):=blk_cell hbx5 1;have q2:w5.cell? ⟨bx,2,none⟩=some (.int .i64 (na:Int)):=blk_cell hbx5 2;have q3:w5.cell? ⟨bx,3,none⟩=some (.int .i64 (nb:Int)):=blk_cell hbx5 3;have q4:w5.cell? ⟨bx,4,none⟩=some (.slice none 0 0):=blk_cell hbx5 4;have q5:=blk_free hbx5 4;have z0':w5.cell? ⟨w.heap.size,0,none⟩=some (.int .i64 0):=blk_cell hbz5 0;have z1':w5.cell? ⟨w.heap.size,1,none⟩=some (.int .i64 0):=blk_cell hbz5 1;have z2':w5.cell? ⟨w.heap.size,2,none⟩=some (.int .i64 0):=blk_cell hbz5 2;have z3':w5.cell? ⟨w.heap.size,3,none⟩=some (.int .i64 0):=blk_cell hbz5 3;have z4':w5.cell? ⟨w.heap.size,4,none⟩=some (.slice none 0 0):=blk_cell hbz5 4;have f0':=blk_free hbz5 0;have f1':=blk_free hbz5 1;have f2':=blk_free hbz5 2;have f3':=blk_free hbz5 3;have f4':=blk_free hbz5 4;have H5:=hd2 hbx5 hbz5;clear hbx5 hbz5))
           have hsz5:(W2.drewN n).heap.size≤w5.heap.size:=hm5.size
           have hsw:w.heap.size<W2.heap.size:=lt_of_block HM.out.1
           have hm6:Mod [w.heap.size] w w5:=((HM.out.2.1.drewN n).then hm5).mono (by simp)
           exact look_some (p:=⟨ga,gb,na,nb,D⟩) HLS.out rfl rfl ⟨_,_,rfl,(blk_other H5.out.2 (a:=⟨bx,4,none⟩) (by show bx≠_;omega) _)⟩ (RowY.mod (S:=[bx]) (hr5.base (b':=w.heap.size+1) hsw) ((Mod.refl [bx] w5).setCell (by simp) _) (fun x hx e=>by
            have h1:=(hr5.blk x hx).1
            have h2:=lt_of_block HB.out.1
            simp at e
            have h3:(W2.drewN n).heap.size=W2.heap.size:=rfl
            omega)) (hm6.trans (U:=[w.heap.size]) ((Mod.refl [bx] w5).setCell (by simp) _) (fun _ x _=>x) (fun x hx hlt=>by
            have h1:=HB.out.2.1
            have h2:=(gW1.mod []).size
            simp at hx
            omega))
   · have hn:lookS b=none:=by
      unfold lookS
      rw [if_neg (fun h=>hc (by simpa [crcOk] using (okLook_iff.1 h).2.1))]
     have bc:((ofFour (b.drop 60):Int) != (sumB (b.take 60):Int))=true:=by simp;omega
     have HL:=hd4 hl hc hn hW0
     have hcn:=fun (n:Nat)=>number_any ((r60.gr g0).gr ((Gr.refl _).drewN n)) hl60
     have hsm:=fun (n:Nat)=>(sum_any ((rs.gr g0).gr ((Gr.refl _).drewN n))).mono (R':=fun e w'=>e=.returned (.int .u32 (sumB (b.take 60):Int))∧w'=W.drewN n) (fun _ _ ⟨p,q⟩=>⟨p,q.symm⟩)
     have hslt:=sumB_lt (b.take 60)
     generalize ofFour (b.drop 60)=x60 at *
     generalize sumB (b.take 60)=xs at *
     clear hl hc hn hW0
     go_enter Tryz.func102,Tryz.ntmps102
     go_wp2_with fail
     change Code.wp _ _ _ _ (w.alloc objP0)
     rw [hW]
     go_quiet ((first | (go_at_call 130;exact Calls.quiet_of (hcn _)) | (go_at_call 131;exact Calls.quiet_of_same (hsm _))))
     go_wp2_with fail
     exact look_none HL.out.2.2.1 rfl rfl ⟨_,_,rfl,(((Gr.refl W).drewN nq).heap (lt_of_block HL.out.2.2.2)).trans HL.out.2.2.2⟩ ((g0.mod [w.heap.size]).drewN _)
 · have hn:lookS b=none:=by
    unfold lookS
    rw [if_neg (fun h=>hl (okLook_iff.1 h).1)]
   have b0:((b.length:Int) != 64)=true:=by simp;omega
   have HL:=hd2 hl hn
   clear hl hn hu
   go_enter Tryz.func102,Tryz.ntmps102
   go_wp2_with fail
   go_quiet (fail)
   go_wp2_with fail
   exact look_none HL.out.2 rfl rfl ⟨_,_,rfl,(((Gr.refl _).drewN _).heap (by simp)).trans (heap_alloc_new w objP0)⟩ ((((Mod.refl [w.heap.size] w).alloc _)).drewN _)
end Go.Proofs.YtllljngpgjkdiaaGreatDoor
/-
  WALKS: layer 10: a scan's part and record.
-/
namespace Go.Proofs.YtllljngpgjkdiaaGreatDoor
set_option maxRecDepth 100000
set_option maxHeartbeats 4000000
open Go.RowKit Go.Shelf

def ScM (w:World) (ps:Nat) (v:Value) (gen used:Nat):Prop:=w.heap[ps]?=some (.cells #[v,.int .i64 (gen:Int),.int .i64 (used:Int)] 200 (0,0))
def brokenV:Value:=.iface 202 (.agg #[])
def PartTo (w:World) (o:Option Prt) (e:Ending) (w':World):Prop :=
 match o with
 | none=>e=.panicked [{ v:=brokenV,recovered:=false }]∧Mod [] w w'
 | some p=>∃ q c,e=.returned (.agg #[.int .i64 (p.gen:Int),.int .i64 (p.seq:Int),.int .i64 (p.index:Int),.int .i64 (p.parts:Int),.slice q p.data.length c])∧RowY w' w.heap.size (.slice q p.data.length c) p.data∧Mod [] w w'
theorem part_done {w X:World} {O:Option Prt} {p:Prt} {q:Option Addr} {c:Nat} (hs:O=some p) {tmps:Array Value} (h2:tmps.getD 10 undef=.pointer (some ⟨w.heap.size,0,none⟩)) (hb:∃ cs T,cs.size=5∧X.heap[w.heap.size]?=some (.cells cs T (0,0)))
 (hr:RowY X (w.heap.size+1) (.slice q p.data.length c) p.data) (hm:Mod [w.heap.size] w X) :
 bodyPost Tryz.prog Tryz.f172 (fun e w'=>PartTo w O e w') Exit.ret { tmps:=tmps,defers:=[] } (stL X w.heap.size 0 [.int .i64 (p.gen:Int),.int .i64 (p.seq:Int),.int .i64 (p.index:Int),.int .i64 (p.parts:Int),.slice q p.data.length c]):=by
 obtain ⟨cs,T,hs5,hb⟩:=hb
 have r:=stL_all hb [.int .i64 (p.gen:Int),.int .i64 (p.seq:Int),.int .i64 (p.index:Int),.int .i64 (p.parts:Int),.slice q p.data.length c] hs5
 refine bodyPost_ret (v:=.agg #[.int .i64 (p.gen:Int),.int .i64 (p.seq:Int),.int .i64 (p.index:Int),.int .i64 (p.parts:Int),.slice q p.data.length c]) (res_cell1 Tryz.results172 _ _ h2 r Tryz.isAgg142 Tryz.sizeOf142) rfl ?_
 rw [hs]
 refine ⟨q,c,rfl,?_,(stL_mod (by simp) _ _ _ hm).mono (fun x hx hlt=>by simp at hx;omega)⟩
 refine (hr.mod (S:=[w.heap.size]) (stL_mod (by simp) _ _ _ (Mod.refl _ _)) (fun k hk e=>?_)).base (Nat.le_succ _)
 have:=(hr.blk k hk).1
 simp at e
 omega
theorem part_any {w:World} {ps base:Nat} {v:Value} {vs:List Value} {ls:List B8} {gen used:Nat} (h:ScM w ps v gen used) (hl:RdsY w base v vs ls) (at_ seq index parts:Nat) :
 Calls Tryz.prog 172 #[.pointer (some ⟨ps,0,none⟩),.int .i64 (at_:Int),.int .i64 (seq:Int),.int .i64 (index:Int),.int .i64 (parts:Int)] w fun e w'=>PartTo w (partS ls gen at_ seq index parts) e w':=by
 obtain ⟨q,c,rfl,hmx⟩:=hl.shape
 have hmx':ls.length≤9223372036854775807:=hmx
 have s0:w.cell? ⟨ps,0,none⟩=some (.slice q ls.length c):=blk_cell h 0
 have s1:w.cell? ⟨ps,1,none⟩=some (.int .i64 (gen:Int)):=blk_cell h 1
 have hps:ps<w.heap.size:=lt_of_block h
 have HX:=hide h
 clear h
 by_cases hat:at_<ls.length
 · obtain ⟨bb,rfl,hbb,c1,r1⟩:=hl.at_ at_ hat
   have hr:=r1.1
   have hat':ls[at_]?=some (ls.getD at_ []):=by simp [hat]
   generalize vs.getD at_ nilS=sv at c1 hr
   generalize ls.getD at_ []=b at hr hat'
   clear r1
   cases hL:lookS b with
   | none =>
     have hp:partS ls gen at_ seq index parts=none:=by unfold partS;rw [hat'];simp [hL]
     rw [hp]
     have HP:=hd2 hp hat'
     clear hp hat' hl
     go_enter Tryz.func172,Tryz.ntmps172
     go_wp2_with (go_at_call 102;refine (look_any (hr.gr ((Gr.refl w).alloc objP0))).mono ?_;rw [hL];rintro e w1 ⟨rfl,hm1⟩)
     go_quiet (fail)
     go_wp2_with fail
     exact ⟨rfl,rfl,((((Mod.refl [] w).alloc _).then hm1).alloc _).drewN _⟩
   | some p =>
     have hf:=look_fits hL
     have hPs:partS ls gen at_ seq index parts=if p.gen=gen∧p.seq=seq∧p.index=index∧(parts=0∨p.parts=parts) then some p else none:=by unfold partS;rw [hat'];simp [hL]
     obtain ⟨O,hO⟩:∃ O,partS ls gen at_ seq index parts=O:=⟨_,rfl⟩
     rw [hO]
     rw [hO] at hPs
     obtain ⟨⟨hf1,hf2,hf3,hf4,hf5⟩,hf6,-⟩:=hf.2
     clear hat' hl hf hO
     obtain ⟨pg,pq,pi,pn,pd⟩:=p
     simp only at hf1 hf2 hf3 hf4 hf5 hf6 hPs
     have HP:=hide hPs
     clear hPs
     go_enter Tryz.func172,Tryz.ntmps172
     go_upto_region 4 with (go_at_call 102;refine (look_any (hr.gr ((Gr.refl w).alloc objP0))).mono ?_;rw [hL];rintro e w1 ⟨q1,c1',rfl,hr1,hm1⟩)
     have hmw:Mod [] w w1:=((Mod.refl [] w).alloc objP0).then hm1
     have hwz:(w.alloc objP0).heap[w.heap.size]?=some (.cells zeroP.toArray 142 (0,0)):=heap_alloc_new w _
     have hwz1:=hm1.at_ hwz (by simp)
     have HZ:=hide hwz1
     have hszw:w.heap.size<w1.heap.size:=lt_of_block hwz1
     have s1':∀ (o:Obj),(w1.alloc o).cell? ⟨ps,1,none⟩=some (.int .i64 (gen:Int)):=fun o=>((Gr.refl w1).alloc o).kept (hmw.kept s1 (by simp))
     clear hwz hwz1
     have z0:∀ (o:Obj),(w1.alloc o).cell? ⟨w.heap.size,0,none⟩=some (.int .i64 0):=fun o=>blk_cell (blk_alloc HZ.out o) 0
     have z1:∀ (o:Obj),(w1.alloc o).cell? ⟨w.heap.size,1,none⟩=some (.int .i64 0):=fun o=>blk_cell (blk_alloc HZ.out o) 1
     have z2:∀ (o:Obj),(w1.alloc o).cell? ⟨w.heap.size,2,none⟩=some (.int .i64 0):=fun o=>blk_cell (blk_alloc HZ.out o) 2
     have z3:∀ (o:Obj),(w1.alloc o).cell? ⟨w.heap.size,3,none⟩=some (.int .i64 0):=fun o=>blk_cell (blk_alloc HZ.out o) 3
     have z4:∀ (o:Obj),(w1.alloc o).cell? ⟨w.heap.size,4,none⟩=some (.slice none 0 0):=fun o=>blk_cell (blk_alloc HZ.out o) 4
     have y0:∀ (o:Obj),(w1.alloc o).frozen? ⟨w.heap.size,0,none⟩=false:=fun o=>blk_free (blk_alloc HZ.out o) 0
     have y1:∀ (o:Obj),(w1.alloc o).frozen? ⟨w.heap.size,1,none⟩=false:=fun o=>blk_free (blk_alloc HZ.out o) 1
     have y2:∀ (o:Obj),(w1.alloc o).frozen? ⟨w.heap.size,2,none⟩=false:=fun o=>blk_free (blk_alloc HZ.out o) 2
     have y3:∀ (o:Obj),(w1.alloc o).frozen? ⟨w.heap.size,3,none⟩=false:=fun o=>blk_free (blk_alloc HZ.out o) 3
     have y4:∀ (o:Obj),(w1.alloc o).frozen? ⟨w.heap.size,4,none⟩=false:=fun o=>blk_free (blk_alloc HZ.out o) 4
     by_cases e1:pg=gen
     · have b1:((pg:Int) != (gen:Int))=false:=by simp;omega
       by_cases e2:pq=seq
       · have b2:((pq:Int) != (seq:Int))=false:=by simp;omega
         by_cases e3:pi=index
         · have b3:((pi:Int) != (index:Int))=false:=by simp;omega
           by_cases e4:parts=0
           · have b4:decide ((0:Int)<(parts:Int))=false:=by simp;omega
             have b4':decide (0<parts)=false:=by simp;omega
             have HE:=hd4 e1 e2 e3 e4
             clear e1 e2 e3 e4
             go_quiet (fail)
             go_wp2_with fail
             exact part_done (p:=⟨pg,pq,pi,pn,pd⟩) (by rw [HP.out,if_pos ⟨HE.out.1,HE.out.2.1,HE.out.2.2.1,.inl HE.out.2.2.2⟩]) rfl ⟨_,_,rfl,(((Gr.refl _).drewN _).heap (by simp;omega)).trans (blk_alloc HZ.out _)⟩ (((hr1.base (by simp)).gr ((Gr.refl w1).alloc _)).gr ((Gr.refl _).drewN _)) ((((hmw.mono (by simp)).alloc _).drewN _))
           · have b4:decide ((0:Int)<(parts:Int))=true:=by simp;omega
             have b4':decide (0<parts)=true:=by simp;omega
             by_cases e5:pn=parts
             · have b5:((pn:Int) != (parts:Int))=false:=by simp;omega
               have HE:=hd4 e1 e2 e3 e5
               clear e1 e2 e3 e4 e5
               go_quiet (fail)
               go_wp2_with fail
               exact part_done (p:=⟨pg,pq,pi,pn,pd⟩) (by rw [HP.out,if_pos ⟨HE.out.1,HE.out.2.1,HE.out.2.2.1,.inr HE.out.2.2.2⟩]) rfl ⟨_,_,rfl,(((Gr.refl _).drewN _).heap (by simp;omega)).trans (blk_alloc HZ.out _)⟩ (((hr1.base (by simp)).gr ((Gr.refl w1).alloc _)).gr ((Gr.refl _).drewN _)) ((((hmw.mono (by simp)).alloc _).drewN _))
             · have b5:((pn:Int) != (parts:Int))=true:=by simp;omega
               have HE:=hd2 e4 e5
               clear e1 e2 e3 e4 e5
               go_quiet (fail)
               go_wp2_with fail
               obtain rfl:O=none:=by rw [HP.out,if_neg (fun x=>x.2.2.2.elim HE.out.1 HE.out.2)]
               refine ⟨rfl,?_⟩
               exact ⟨rfl,((((Mod.refl [] w).alloc _).then hm1).alloc _).drewN _⟩
         · have b3:((pi:Int) != (index:Int))=true:=by simp;omega
           have HE:=hide e3
           clear e3
           go_quiet (fail)
           go_wp2_with fail
           obtain rfl:O=none:=by rw [HP.out,if_neg (fun x=>HE.out x.2.2.1)]
           refine ⟨rfl,?_⟩
           exact ⟨rfl,((((Mod.refl [] w).alloc _).then hm1).alloc _).drewN _⟩
       · have b2:((pq:Int) != (seq:Int))=true:=by simp;omega
         have HE:=hide e2
         clear e2
         go_quiet (fail)
         go_wp2_with fail
         obtain rfl:O=none:=by rw [HP.out,if_neg (fun x=>HE.out x.2.1)]
         refine ⟨rfl,?_⟩
         exact ⟨rfl,((((Mod.refl [] w).alloc _).then hm1).alloc _).drewN _⟩
     · have b1:((pg:Int) != (gen:Int))=true:=by simp;omega
       have HE:=hide e1
       clear e1
       go_quiet (fail)
       go_wp2_with fail
       obtain rfl:O=none:=by rw [HP.out,if_neg (fun x=>HE.out x.1)]
       refine ⟨rfl,?_⟩
       exact ⟨rfl,((((Mod.refl [] w).alloc _).then hm1).alloc _).drewN _⟩
 · have hp:partS ls gen at_ seq index parts=none:=by unfold partS;rw [List.getElem?_eq_none (by omega)];rfl
   rw [hp]
   have i1:(ls.length:Int)≤(at_:Int):=by omega
   have HP:=hide hp
   clear hp hl
   go_enter Tryz.func172,Tryz.ntmps172
   go_wp2_with fail
   exact ⟨rfl,rfl,(Mod.refl [] w).alloc _⟩
end Go.Proofs.YtllljngpgjkdiaaGreatDoor
/-
  WALKS: layer 10: a scan's record.
-/
namespace Go.Proofs.YtllljngpgjkdiaaGreatDoor
set_option maxRecDepth 100000
set_option maxHeartbeats 4000000
open Go.RowKit Go.Shelf

def RecTo (w:World) (ps:Nat) (v:Value) (gen used:Nat) (o:Option (B8 × Nat)) (e:Ending) (w':World):Prop :=
 match o with
 | none=>e=.panicked [{ v:=brokenV,recovered:=false }]∧Mod [] w w'
 | some (d,n)=>∃ q c,e=.returned (.slice q d.length c)∧RowY w' w.heap.size (.slice q d.length c) d∧ScM w' ps v gen (used+n)∧Mod [ps] w w'
theorem rest_none {l:List B8} {gen at_ seq parts k i:Nat} (h:partS l gen (at_+i) seq i parts=none):restS l gen at_ seq parts (k+1) i=none:=by
 unfold restS;rw [h];rfl
theorem rest_some {l:List B8} {gen at_ seq parts k i:Nat} {p:Prt} (h:partS l gen (at_+i) seq i parts=some p):restS l gen at_ seq parts (k+1) i=(restS l gen at_ seq parts k (i+1)).bind fun d=>some (p.data++d):=by
 conv=>lhs;unfold restS
 rw [h];rfl
def RecRel (w:World) (ps b1:Nat) (o1:Obj) (v:Value) (ls:List B8) (gen used seq parts:Nat) (O:Option (B8 × Nat)) (u i:Value) (wr:World):Prop :=
 ∃ (k:Nat) (d:B8),i=.int .i64 (k:Int)∧1≤k∧k≤parts∧RowY wr w.heap.size u d∧b1 ∉ ob u∧d.length≤47 * k∧ScM wr ps v gen used∧Mod [] w wr∧wr.heap[b1]?=some o1∧Hid (O=(restS ls gen used seq parts (parts - k) k).bind fun r=>some (d++r,parts))
theorem record_any {w:World} {ps base:Nat} {v:Value} {vs:List Value} {ls:List B8} {gen used:Nat} (h:ScM w ps v gen used) (hl:RdsY w base v vs ls) (seq:Nat) (hus:used≤1000000) :
 Calls Tryz.prog 137 #[.pointer (some ⟨ps,0,none⟩),.int .i64 (seq:Int)] w fun e w'=>RecTo w ps v gen used (recS ls gen used seq) e w':=by
 have s2:w.cell? ⟨ps,2,none⟩=some (.int .i64 (used:Int)):=blk_cell h 2
 have hps:ps<w.heap.size:=lt_of_block h
 have hpt:=part_any h hl used seq 0 0
 obtain ⟨O,hO⟩:∃ O,recS ls gen used seq=O:=⟨_,rfl⟩
 rw [hO]
 cases hp:partS ls gen used seq 0 0 with
 | none =>
   have hn:O=none:=by rw [← hO];unfold recS;rw [hp];rfl
   rw [hp] at hpt
   have HN:=hide hn
   clear hn hO hp
   go_enter Tryz.func137,Tryz.ntmps137
   go_wp2_with (go_at_call 172;refine hpt.mono ?_;rintro e w1 ⟨rfl,hm1⟩)
   obtain rfl:=HN.out
   exact ⟨rfl,rfl,hm1⟩
 | some p =>
   have hn:O=(restS ls gen used seq p.parts (p.parts - 1) 1).bind fun d=>some (p.data++d,p.parts):=by rw [← hO];unfold recS;rw [hp];rfl
   rw [hp] at hpt
   obtain ⟨b0,-,hL,-,-,-,-⟩:=part_some hp
   obtain ⟨-,⟨hf1,hf2,hf3,hf4,hf5⟩,hf6,-⟩:=look_fits hL
   have HN:=hide hn
   clear hn hO hp hL
   obtain ⟨pg,pq,pi,pn,pd⟩:=p
   simp only at hf1 hf2 hf3 hf4 hf5 hf6 HN hpt
   go_enter Tryz.func137,Tryz.ntmps137
   go_wp2_with (go_at_call 172;refine hpt.mono ?_;rintro e w1 ⟨q1,c1,rfl,hr1,hm1⟩)
   obtain ⟨o1,ho1⟩:∃ o,o=(Obj.cells #[Value.int .i64 (pg:Int),.int .i64 (pq:Int),.int .i64 (pi:Int),.int .i64 (pn:Int),.slice q1 pd.length c1] 142 (0,0)):=⟨_,rfl⟩
   have hb1:=heap_alloc_new w1 o1
   have hap1:w1.heap.size ∉ ob (.slice q1 pd.length c1):=fun x=>by have:=(hr1.blk _ x).2;omega
   have hsz1:=hm1.size
   rw [← ho1]
   have HO:=hide ho1
   have HH:=hd2 h hl
   clear ho1 hpt s2 h hl
   go_loopw [6,7] (fun u i wr=>RecRel w ps w1.heap.size o1 v ls gen used seq pn O u i wr) (fun _ i _=>pn - (intOf i).toNat)
   case atStart =>
    exact ⟨1,pd,rfl,Nat.le_refl _,by omega,hr1.gr ((Gr.refl w1).alloc _),hap1,by omega,(hm1.alloc o1).at_ HH.out.1 (by simp),hm1.alloc _,hb1,HN⟩
   case round =>
    clear hr1 hap1 hb1 HN
    obtain ⟨k,d,rfl,hk1,hk2,hrow,hap,hdl,hsc,hm,hblk,hrest⟩:=hrel
    rw [HO.out] at hblk
    have a2:wr.cell? ⟨ps,2,none⟩=some (.int .i64 (used:Int)):=blk_cell hsc 2
    have a3:wr.cell? ⟨w1.heap.size,3,none⟩=some (.int .i64 (pn:Int)):=blk_cell hblk 3
    have hlr:=HH.out.2.mod hm (by simp)
    obtain ⟨qu,cu,rfl⟩:=hrow.rd.len
    by_cases hlt:k<pn
    · have hpt:=fun {W:World} (g:Gr wr W)=>part_any (w:=W) ((g.mod []).at_ hsc (by simp)) (hlr.mod (g.mod []) (by simp)) (used+k) seq k pn
      have hcnt:pn - k=(pn - (k+1))+1:=by omega
      cases hpk:partS ls gen (used+k) seq k pn with
      | none =>
        have hO:O=none:=by rw [hrest.out,hcnt,rest_none hpk];rfl
        obtain rfl:=hO
        rw [hpk] at hpt
        have HR:=hd4 hrow hsc hblk hpk
        have hw1:IntKind.i64.wrap ((used:Int)+(k:Int))=((used+k:Nat):Int):=by rw [IntWalk.i64_in _ (by omega)];omega
        clear hrow hsc hblk hpk hrest hlr hcnt
        go_wp2_with fail
        have hcast:(used:Int)+(k:Int)=((used+k:Nat):Int):=by omega
        have hp2:=(hpt (Gr.refl wr).drew)
        rw [← hcast] at hp2
        clear hcast hpt
        refine pB 999 (fun w'=>w'.cell? ⟨ps,2,none⟩=some (.int .i64 (used:Int))∧w'.cell? ⟨w1.heap.size,3,none⟩=some (.int .i64 (pn:Int))) (by exact ⟨((Gr.refl wr).drew).kept a2,((Gr.refl wr).drew).kept a3⟩) ?_
        refine pH 0 rfl (fun w hSw=>by (try dsimp only at hSw);go_simp;try with_reducible rfl) ?_
        refine pH 1 rfl (fun w hSw=>by (try dsimp only at hSw);go_simp;try with_reducible rfl) ?_
        refine pH 2 rfl (fun w hSw=>by (try dsimp only at hSw);go_simp;try with_reducible rfl) ?_
        refine pH 3 rfl (fun w hSw=>by (try dsimp only at hSw);go_simp;try with_reducible rfl) ?_
        refine pH 4 rfl (fun w hSw=>by (try dsimp only at hSw);go_simp;try with_reducible rfl) ?_
        refine pH 5 rfl (fun w hSw=>by (try dsimp only at hSw);go_simp;try with_reducible rfl) ?_
        refine pH 6 rfl (fun w hSw=>by (try dsimp only at hSw);go_simp;try with_reducible rfl) ?_
        refine pH 7 rfl (fun w hSw=>by (try dsimp only at hSw);go_simp;try with_reducible rfl) ?_
        refine pH 8 rfl (fun w hSw=>by (try dsimp only at hSw);go_simp;try with_reducible rfl) ?_
        refine pH 9 rfl (fun w hSw=>by (try dsimp only at hSw);go_simp;try with_reducible rfl) ?_
        refine pH 10 rfl (fun w hSw=>by (try dsimp only at hSw);go_simp;try with_reducible rfl) ?_
        refine pH 11 rfl (fun w hSw=>by (try dsimp only at hSw);go_simp;try with_reducible rfl) ?_
        refine pX 12 fun hHeld K hK=>?_
        go_simp
        refine hp2.mono ?_
        rintro e w2 ⟨rfl,hm2⟩
        exact ⟨rfl,rfl,(hm.then ((Mod.refl [] wr).drew)).then hm2⟩
      | some p2 =>
        obtain ⟨b2,-,hL2,-,-,hix,hpq⟩:=part_some hpk
        obtain ⟨-,-,hf6',hf7⟩:=look_fits hL2
        have hnn:O=(restS ls gen used seq pn (pn - (k+1)) (k+1)).bind fun r=>some ((d++p2.data)++r,pn):=by
         rw [hrest.out,hcnt,rest_some hpk]
         cases restS ls gen used seq pn (pn - (k+1)) (k+1) with
         | none=>rfl
         | some r=>simp
        have hpn:p2.parts=pn:=by
         rcases hpq with h | h
         · omega
         · exact h
        have hpos:0<p2.data.length:=by
         by_cases hlast:p2.index+1=p2.parts
         · rw [if_pos hlast] at hf7
           omega
         · rw [if_neg hlast] at hf7
           omega
        rw [hpk] at hpt
        have hcast:(used:Int)+(k:Int)=((used+k:Nat):Int):=by omega
        have hp2:=(hpt (Gr.refl wr).drew)
        rw [← hcast] at hp2
        have HR:=hd5 hrow hsc hblk hnn hap
        clear hcast hpt hrow hsc hblk hpk hrest hlr hcnt hL2 hix hpq hf7 hnn hpn hap
        obtain ⟨g2,q2,i2,n2,D⟩:=p2
        simp only at hf6' hpos HR hp2
        go_wp2_with fail
        have hw2:IntKind.i64.wrap ((used:Int)+(k:Int))=(used:Int)+(k:Int):=IntWalk.i64_in _ (by omega)
        have hfd:∀ (a b c d:Value) (q:Option Addr) (n m:Nat) (w:World),(Instr.field 142 (.agg #[a,b,c,d,.slice q n m]) 4).run Tryz.prog w=.ok (.slice q n m) w:=fun _ _ _ _ _ _ _ _=>by kernel_rfl
        have t1:Hid True:=hide trivial
        have t2:Hid True:=hide trivial
        go_region_law (first
         | (have tk:=t1;refine step_call rfl 172 #[.tmp 24,.tmp 30,.tmp 31,.tmp 32,.tmp 34] #[198,3,3,3,3] rfl (enters_of Tryz.func172 (by kernel_rfl) rfl) #[.pointer (some ⟨ps,0,none⟩),.int .i64 ((used:Int)+(k:Int)),.int .i64 (seq:Int),.int .i64 (k:Int),.int .i64 (pn:Int)] (by first | (simp [Act.eval];done) | simp [Act.eval,Act.put]) ?_;refine hp2.mono ?_;rintro e w2 ⟨q3,c3,rfl,hr3,hm3⟩;refine ⟨_,rfl,?_⟩;clear t1 tk)
         | (have tk:=t2;refine step_app_y rfl (.tmp 23) (.tmp 36) rfl w.heap.size (.slice qu d.length cu) d (by first | (simp [Act.eval];done) | simp [Act.eval,Act.put]) ((HR.out.1.mod ((Mod.refl [] wr).drew) (by simp)).mod hm3 (by simp)) (.slice q3 D.length c3) D (by first | (simp [Act.eval];done) | simp [Act.eval,Act.put]) hr3.rd hpos (by omega) (by have h1:=hm3.size;have h2:=hm.size;exact Nat.le_trans h2 h1) ?_;intro g4 cap4 w4 hr4 hm4 hg4 hg4';clear t2 tk)
         | fail)
        all_goals
         have hsz3:=hm3.size
         have hm24:Mod (ob (.slice qu d.length cu)) wr w4:=(((Mod.refl (ob (.slice qu d.length cu)) wr).drew).then (hm3.mono (by simp))).then hm4
         have hro:=HR.out.1
         have hob:∀ x,x∈ob (.slice qu d.length cu)→w.heap.size≤x∧x<wr.heap.size:=fun x hx=>hro.blk x hx
         have hb1lt:w1.heap.size<wr.heap.size:=lt_of_block HR.out.2.2.1
         go_wp2_with fail
         go_roundw
         case rel =>
          refine ⟨k+1,d++D,by go_num,by omega,by omega,hr4,?_,by rw [List.length_append];omega,hm24.at_ HR.out.2.1 (fun x=>by have:=(hob _ x).1;omega),hm.trans hm24 (fun _ x _=>x) (fun x hx hlt2=>by have:=(hob _ hx).1;omega),?_,hide HR.out.2.2.2.1⟩
          · intro e
            have e2:w1.heap.size=g4:=by simpa [ob,Value.ownBlock] using e
            rcases hg4 with h5 | h5
            · exact HR.out.2.2.2.2 (e2 ▸ h5)
            · have h6:wr.drew.heap.size=wr.heap.size:=rfl
              omega
          · rw [HO.out]
            exact hm24.at_ HR.out.2.2.1 HR.out.2.2.2.2
         case measure=>simp [intOf];omega
    · obtain rfl:k=pn:=by omega
      have hO:O=some (d,k):=by rw [hrest.out,Nat.sub_self];simp [restS]
      obtain rfl:=hO
      have f2:=blk_free hsc 2
      have hus2:(used:Int)+(k:Int)≤2000000:=by omega
      have hw1:IntKind.i64.wrap ((used:Int)+(k:Int))=((used+k:Nat):Int):=by rw [IntWalk.i64_in _ (by omega)];omega
      have HR:=hd2 hrow hsc
      clear hrow hsc hblk hrest hlr
      go_wp2_with fail
      go_region
      all_goals
       go_wp2_with fail
       go_ret
       have hm2:Mod [ps] wr ((wr.setCell ⟨ps,2,none⟩ (.int .i64 ((used:Int)+(k:Int)))).drew):=((Mod.refl [ps] wr).setCell (by simp) _).drew
       refine ⟨_,_,rfl,(HR.out.1.mod hm2 (fun x hx e=>?_)),?_,(hm.mono (by simp)).then hm2⟩
       · have:=(HR.out.1.blk x hx).1
         simp at e
         omega
       · have:=blk_set HR.out.2 2 (.int .i64 ((used:Int)+(k:Int)))
         unfold ScM
         rw [show ((used+k:Nat):Int)=(used:Int)+(k:Int) by omega]
         exact this
end Go.Proofs.YtllljngpgjkdiaaGreatDoor
/-
  WALKS: layer 10: Scan: records till one gives up; the panic is caught at the door.
-/
namespace Go.Proofs.YtllljngpgjkdiaaGreatDoor
set_option maxRecDepth 100000
set_option maxHeartbeats 4000000
open Go.RowKit Go.Shelf

theorem rest_fit {l:List B8} {gen at_ seq parts:Nat}:∀ (k i:Nat) {d:B8},restS l gen at_ seq parts k i=some d→0<k→at_+i+k≤l.length
 | 0,_,_,_,h=>absurd h (Nat.lt_irrefl 0)
 | k+1,i,d,h,_=>by
   cases hp:partS l gen (at_+i) seq i parts with
   | none=>rw [rest_none hp] at h;cases h
   | some p =>
     have hlt:=part_lt hp
     rw [rest_some hp] at h
     cases hr:restS l gen at_ seq parts k (i+1) with
     | none=>rw [hr] at h;cases h
     | some r =>
       rcases Nat.eq_zero_or_pos k with h0 | h0
       · omega
       · have:=rest_fit k (i+1) hr h0
         omega
theorem rec_fit {l:List B8} {gen at_ seq n:Nat} {d:B8} (h:recS l gen at_ seq=some (d,n)):at_+n≤l.length:=by
 have h1:=rec_pos h
 obtain ⟨p,d',hp,hr,_,rfl⟩:=rec_some h
 rcases Nat.eq_zero_or_pos (p.parts - 1) with h0 | h0
 · omega
 · have:=rest_fit _ _ hr h0
   omega
theorem scanF_none {l:List B8} {gen at_ seq:Nat} (h:recS l gen at_ seq=none):∀ f,scanF l gen f at_ seq=([],at_)
 | 0=>rfl
 | f+1=>by unfold scanF;rw [h]
theorem scanF_some {l:List B8} {gen at_ seq n:Nat} {d:B8} (h:recS l gen at_ seq=some (d,n)) (f:Nat):scanF l gen (f+1) at_ seq=(d::(scanF l gen f (at_+n) (seq+1)).1,(scanF l gen f (at_+n) (seq+1)).2):=by
 conv=>lhs;unfold scanF
 rw [h]
theorem brokenInfo (w:World):(Instr.typeAssert brokenV 20 202 true).run Tryz.prog w=.ok (.tuple #[.agg #[],.bool true]) w:=by kernel_rfl
theorem scan1_any {w:World} {bs bu ps used:Nat} {x:Value} (older:List PanicEntry) (h1:w.cell? ⟨bs,0,none⟩=some (.pointer (some ⟨ps,0,none⟩))) (h2:w.cell? ⟨ps,2,none⟩=some (.int .i64 (used:Int))) (h3:w.cell? ⟨bu,0,none⟩=some x) (h4:w.frozen? ⟨bu,0,none⟩=false) :
 CallsD Tryz.prog 136 #[.pointer (some ⟨bs,0,none⟩),.pointer (some ⟨bu,0,none⟩)] (.panicking ({ v:=brokenV,recovered:=false }::older)) w fun e u' w' =>
  e=.returned (.tuple #[])∧u'=.panicking ({ v:=brokenV,recovered:=true }::older)∧w'=(w.alloc (.cells #[] 202 (0,0))).setCell ⟨bu,0,none⟩ (.int .i64 (used:Int)):=by
 have l1:=((Gr.refl w).alloc (.cells #[] 202 (0,0))).kept h1
 have l2:=((Gr.refl w).alloc (.cells #[] 202 (0,0))).kept h2
 have l3:=((Gr.refl w).alloc (.cells #[] 202 (0,0))).kept h3
 have hlt:bu<w.heap.size:=World.block_lt_of_cell? w ⟨bu,0,none⟩ h3
 have l4:(w.alloc (.cells #[] 202 (0,0))).frozen? ⟨bu,0,none⟩=false:=by
  rw [← h4]
  exact World.frozen?_of_block (((Gr.refl w).alloc _).heap hlt)
 have hbr:=brokenInfo w
 generalize hB:brokenV=B at hbr ⊢
 refine callsD_of_wpS Tryz.func136 rfl fun c₀ cs hu=>?_
 apply wpS_seq
 apply wpS_region
 simp [wpOpsS,go_sem,recoverD,hu,Tryz.ntmps136,Exit.thenS,hbr]
 apply wpS_seq
 apply wpS_region
 simp [wpOpsS,go_sem,Exit.thenS]
 refine wpS_cond (t:=true) (by simp [Act.eval,Array.replicate]) ?_
 simp only [if_true]
 apply wpS_region
 simp [wpOpsS,go_sem,l1,l2,l3,l4,bodyPostS,results,Tryz.results136,Array.replicate]
def ScanTo (w:World) (r:List B8 × Nat) (e:Ending) (w':World):Prop :=
 ∃ q c vs,e=.returned (.tuple #[.slice q r.1.length c,.int .i64 (r.2:Int)])∧RowsY w' w.heap.size (.slice q r.1.length c) vs r.1∧r.1.length≤1000000∧r.2≤1000000∧Mod [] w w'
def ScanRel (w:World) (ps bs:Nat) (v:Value) (ls:List B8) (gen:Nat) (u:Value) (wr:World):Prop :=
 ∃ (vs:List Value) (recs:List B8) (at_:Nat),RowsY wr (w.heap.size+3) u vs recs∧ScM wr ps v gen at_∧at_≤ls.length∧recs.length≤at_∧wr.heap[bs]?=some (.cells #[.pointer (some ⟨ps,0,none⟩)] 198 (0,0)) ∧
   wr.heap[w.heap.size]?=some (.cells #[.int .i64 0] 3 (0,0))∧Mod [] w wr∧w.heap.size+3≤wr.heap.size ∧
   Hid (∀ f,ls.length<f+at_→(recs++(scanF ls gen f at_ recs.length).1,(scanF ls gen f at_ recs.length).2)=scanS ls gen)
theorem scan_any {w:World} {base:Nat} {v:Value} {vs:List Value} {ls:List B8} (hl:RdsY w base v vs ls) (hsz:ls.length≤1000000) (gen:Nat) :
 Calls Tryz.prog 106 #[v,.int .i64 (gen:Int)] w fun e w'=>ScanTo w (scanS ls gen) e w':=by
 obtain ⟨O,hO⟩:∃ O,scanS ls gen=O:=⟨_,rfl⟩
 rw [hO]
 have HO:=hide hO
 clear hO
 obtain ⟨q,c,rfl,hmx⟩:=hl.shape
 have HL:=hd2 hl hsz
 clear hl hsz
 have hmf:∀ (fn:Fn) (first cap:Array Value) (w:World),(Instr.makeFunc fn first cap).run Tryz.prog w=.ok (.func fn first cap) w:=fun _ _ _ _=>rfl
 go_enter_defers Tryz.func106,Tryz.ntmps106
 go_wp2_with fail
 obtain ⟨W,hW⟩:∃ W,W=((w.alloc (.cells #[.int .i64 0] 3)).alloc (.cells #[.slice q ls.length c,.int .i64 (gen:Int),.int .i64 0] 200 (0,0))).alloc (.cells #[.pointer (some ⟨w.heap.size+1,0,none⟩)] 198 (0,0)):=⟨_,rfl⟩
 have hz:W.heap.size=w.heap.size+3:=by rw [hW];simp
 have hb0:W.heap[w.heap.size]?=some (.cells #[.int .i64 0] 3 (0,0)):=by
  rw [hW]
  exact ((((Mod.refl [] _).alloc _).alloc _).at_ (heap_alloc_new w _) (by simp))
 have hb1:ScM W (w.heap.size+1) (.slice q ls.length c) gen 0:=by
  rw [hW]
  have:=alloc_here (w:=w.alloc (.cells #[.int .i64 0] 3)) (n:=w.heap.size+1) (o:=.cells #[.slice q ls.length c,.int .i64 (gen:Int),.int .i64 0] 200 (0,0)) (by simp)
  exact (((Mod.refl [] _).alloc _).at_ this (by simp))
 have hb2:W.heap[w.heap.size+2]?=some (.cells #[.pointer (some ⟨w.heap.size+1,0,none⟩)] 198 (0,0)):=by
  rw [hW]
  exact alloc_here (by simp)
 have hmW:Mod [] w W:=by
  rw [hW]
  exact (((Mod.refl [] w).alloc _).alloc _).alloc _
 rw [← hW]
 rw [show w.heap.size+1+1=w.heap.size+2 from rfl]
 obtain ⟨hl,hsz⟩:=HL.out
 have hgW:w.heap.size≤W.heap.size:=by omega
 clear hW
 go_loopw [4] (fun u wr=>ScanRel w (w.heap.size+1) (w.heap.size+2) (.slice q ls.length c) ls gen u wr) (fun _ wr=>ls.length - (match wr.cell? ⟨w.heap.size+1,2,none⟩ with | some (.int _ i)=>i.toNat | _=>0))
 case atStart =>
  refine ⟨[],[],0,RowsY.nil _ _,hb1,Nat.zero_le _,Nat.le_refl _,hb2,hb0,hmW,by omega,hide (fun f hf=>?_)⟩
  rw [List.nil_append]
  exact scanF_fuel ls gen f (ls.length+1) 0 0 (by omega) (by omega)
 case round =>
  clear hb0 hb1 hb2 hmW hgW hz
  obtain ⟨ws,recs,at_,hrow,hsc,hat,hra,hb2,hb0,hm,hsz',hS⟩:=hrel
  have c0:wr.cell? ⟨w.heap.size+2,0,none⟩=some (.pointer (some ⟨w.heap.size+1,0,none⟩)):=blk_cell hb2 0
  have hlr:RdsY wr base (.slice q ls.length c) vs ls:=hl.mod hm (by simp)
  have hrc:=record_any hsc hlr recs.length (by omega)
  have a2:wr.cell? ⟨w.heap.size+1,2,none⟩=some (.int .i64 (at_:Int)):=blk_cell hsc 2
  have t1:Hid True:=trivial
  cases hr:recS ls gen at_ recs.length with
  | none =>
    have hO:O=(recs,at_):=by
     rw [← HO.out,← hS.out (ls.length+1) (by omega),scanF_none hr]
     simp
    rw [hr] at hrc
    obtain rfl:=hO
    have HH:=hd4 hrow hsc hat hra
    clear hrow hsc hat hra hr hS HO hlr hl
    obtain ⟨q4,c4,rfl,hm4⟩:=HH.out.1.shape
    go_wp2_with (go_at_call 137;refine hrc.mono ?_;rintro e w2 ⟨rfl,hm2⟩)
    have k2:=hm2.at_ hb2 (by simp)
    have k0:=hm2.at_ hb0 (by simp)
    have k1:w2.cell? ⟨w.heap.size+1,2,none⟩=some (.int .i64 (at_:Int)):=blk_cell (hm2.at_ HH.out.2.1 (by simp)) 2
    refine leaves_cons (f:=136) (args:=#[.pointer (some ⟨w.heap.size+2,0,none⟩),.pointer (some ⟨w.heap.size,0,none⟩)]) (by simp) (by simp [go_sem]) ?_
    refine (scan1_any [] (blk_cell k2 0) k1 (blk_cell k0 0) (blk_free k0 0)).mono ?_
    rintro e u' w3 ⟨rfl,rfl,rfl⟩
    have k3:((w2.alloc (.cells #[] 202 (0,0))).setCell ⟨w.heap.size,0,none⟩ (.int .i64 (at_:Int))).cell? ⟨w.heap.size,0,none⟩=some (.int .i64 (at_:Int)):=blk_cell (blk_set (blk_alloc k0 _) 0 _) 0
    simp [Leaves,settle,results,Tryz.results106,go_sem,k3]
    refine ⟨q4,c4,ws,rfl,((HH.out.1.mod hm2 (by simp)).mod (S:=[w.heap.size]) (((Mod.refl _ w2).alloc _).setCell (fun _=>by simp) _) (fun k hk=>by simp at hk;omega)).base (by omega),by have:=HH.out.2.2.1;have:=HH.out.2.2.2;simp;omega,by have:=HH.out.2.2.1;simp;omega,?_⟩
    exact (((hm.then hm2).alloc _).setCell (fun h=>absurd h (Nat.lt_irrefl _)) _)
  | some dn =>
    obtain ⟨d,n⟩:=dn
    rw [hr] at hrc
    have hn:=rec_fit hr
    have hnp:=(rec_pos hr).2.2
    have hrec1:=(rec_pos hr).1
    obtain ⟨q4,c4,rfl,hm4⟩:=hrow.shape
    have HH:=hd4 hrow hsc hat hra
    have hS2:Hid (∀ f,ls.length<f+(at_+n)→((recs++[d])++(scanF ls gen f (at_+n) (recs.length+1)).1,(scanF ls gen f (at_+n) (recs.length+1)).2)=scanS ls gen):=hide (fun f hf=>by
     rw [← hS.out (ls.length+1) (by omega),scanF_some hr ls.length,scanF_fuel ls gen ls.length f (at_+n) _ (by omega) (by omega)]
     simp)
    clear hS
    have HR:=hide hr
    have hm4':recs.length≤1000000:=by omega
    have hnat:at_+n≤ls.length∧recs.length+1≤at_+n:=⟨hn,by omega⟩
    clear hrow hsc hat hra hr hlr hl
    have t2:Hid True:=trivial
    go_wp2_with
     (first
       | (have tk:=t1;go_at_call 137;refine hrc.mono ?_;rintro e w2 ⟨q2,c2,rfl,hr2,hsc2,hm2⟩;clear t1 tk)
       | (at_builtin;have tk:=t2;refine wpList_app_ys _ rfl _ _ rfl (w.heap.size+3) (.slice q4 recs.length c4) ws recs rfl ((HH.out.1.mod hm2 (by simp)).mod ((Mod.refl [] w2).alloc _) (by simp)) w2.heap.size (.slice q2 d.length c2) d rfl (heap_alloc_new w2 _) rfl ((hr2.base hsz').gr ((Gr.refl w2).alloc _)) (fun k hk e=>by have h1:=hr2.blk k hk;have h2:=HH.out.1.blk k e;omega) hm4' (by have:=hm2.size;simp;omega) ?_;rintro g cap w4 hrow4 hm4 hg hglt;clear t2 tk)
       | fail)
    have hnb:∀ x,x<w.heap.size+3→x ∉ ob (.slice q4 recs.length c4):=fun x hx e=>by have:=(HH.out.1.blk x e).1;omega
    have hm24:Mod [w.heap.size+1] wr (w2.alloc (.cells #[.slice q2 d.length c2] 127 (0,0))):=hm2.alloc _
    go_roundw
    case rel =>
     refine ⟨_,recs++[d],at_+n,by simpa using hrow4,hm4.at_ (blk_alloc hsc2 _) (hnb _ (by omega)),hnat.1,by simp;exact hnat.2,hm4.at_ (hm24.at_ hb2 (by simp)) (hnb _ (by omega)),hm4.at_ (hm24.at_ hb0 (by simp)) (hnb _ (by omega)),?_,?_,by simpa using hS2⟩
     · exact (hm.trans (U:=[]) hm24 (fun _ x _=>x) (fun x hx hlt=>by simp at hx;omega)).trans hm4 (fun _ x _=>x) (fun x hx hlt=>by have:=(HH.out.1.blk x hx).1;omega)
     · have:=hm24.size
       have:=hm4.size
       omega
    case measure =>
     have e1:w4.cell? ⟨w.heap.size+1,2,none⟩=some (.int .i64 ((at_+n:Nat):Int)):=blk_cell (hm4.at_ (blk_alloc hsc2 _) (hnb _ (by omega))) 2
     rw [e1,a2]
     simp
     omega
end Go.Proofs.YtllljngpgjkdiaaGreatDoor
