/-
  LedSame LedRf7 LedRf8 LedMay LedRf9 LedSame2 LedRf11 LedRf12 LedRg11 LedRg14 LedRg15 LedRg16 LedRg17: see the remarks below.
-/
import Derived.Test.YtpphoeimakjjdaaGreatDoorMCtr
import Derived.Test.YtpphoeimakjjdaaGreatDoorMLedK
import Derived.Test.YtpphoeimakjjdaaGreatDoorMWpL
import Derived.Test.YtpphoeimakjjdaaGreatDoorMLedRf10
import Derived.Test.YtpphoeimakjjdaaGreatDoorMStepC
import Derived.Test.YtpphoeimakjjdaaGreatDoorMDmp
import Derived.Test.YtpphoeimakjjdaaGreatDoorMLedRf6
import Derived.Test.YtpphoeimakjjdaaGreatDoorMLedRg9
import Derived.Deep.DeepCutAuto
import Derived.Test.YtpphoeimakjjdaaGreatDoorMLedRg5
import Derived.Test.YtpphoeimakjjdaaGreatDoorMDec
import Derived.Deep.CutBlock
/-
  WALKS: the document's layer 11: grants, books compared; the new book.
-/
namespace Go.Proofs.YtpphoeimakjjdaaGreatDoor
set_option maxRecDepth 100000
set_option maxHeartbeats 4000000
open Go.RowKit

theorem rsameG_any {w:World} {x y:Grt} {sv tv:Value} (hx:RdN w sv x.stamp) (hy:RdN w tv y.stamp) :
 Calls Tryz.prog 52 #[aggG x sv,aggG y tv] w fun e w'=>e=.returned (.bool (decide (x=y)))∧Mod [] w w':=by
 obtain ⟨i1,h1,p1,m1,s1,t1⟩:=x
 obtain ⟨i2,h2,p2,m2,s2,t2⟩:=y
 simp only at hx hy
 have he:=fun {W:World} (g:Gr w W)=>sameInts_any (hx.gr g) (hy.gr g)
 obtain ⟨q1,c1,rfl⟩:=hx.len
 obtain ⟨q2,c2,rfl⟩:=hy.len
 generalize hB:decide (s1=s2)=B at he
 have HB:=hide hB
 clear hx hy hB
 unfold aggG cellsG
 simp only
 go_enter Tryz.func52,Tryz.ntmps52
 go_wp2_with (go_at_call 53;refine (he (((Gr.refl w).alloc _).alloc _)).mono ?_;rintro e w1 ⟨rfl,hg⟩)
 all_goals
  go_ret
  refine ⟨?_,by first | exact (((Gr.refl w).alloc _).alloc _).mod [] | exact ((((Gr.refl w).alloc _).alloc _).trans hg).mod []⟩
  rw [grt_dec]
  simp only [HB.out]
  first | (simp [*];done) | (simp [*];rfl)
end Go.Proofs.YtpphoeimakjjdaaGreatDoor
/-
  WALKS: the document's layer 11: records compared.
-/
namespace Go.Proofs.YtpphoeimakjjdaaGreatDoor
set_option maxRecDepth 100000
set_option maxHeartbeats 4000000
open Go.RowKit

theorem rcd_dec (x y:Rcd):decide (x=y)=(decide (x.kind=y.kind)&&(decide (x.grant=y.grant)&&(decide (x.id=y.id)&&(decide (x.stamp=y.stamp)&&(decide (x.next=y.next)&&(decide (x.boots=y.boots)&&decide (x.longest=y.longest))))))):=by
 rw [Bool.eq_iff_iff]
 simp only [Bool.and_eq_true,decide_eq_true_eq]
 constructor
 · rintro rfl
   exact ⟨rfl,rfl,rfl,rfl,rfl,rfl,rfl⟩
 · rintro ⟨h1,h2,h3,h4,h5,h6,h7⟩
   exact rcd_ext ⟨h1,h2,h3,h4,h5,h6,h7⟩
theorem rsameRec_any {w:World} {x y:Rcd} {s1 t1 s2 t2:Value} (hx:RdN w s1 x.grant.stamp) (hx2:RdN w t1 x.stamp) (hy:RdN w s2 y.grant.stamp) (hy2:RdN w t2 y.stamp) :
 Calls Tryz.prog 17 #[aggR x s1 t1,aggR y s2 t2] w fun e w'=>e=.returned (.bool (decide (x=y)))∧Mod [] w w':=by
 obtain ⟨R,hR⟩:∃ R,decide (x=y)=R:=⟨_,rfl⟩
 rw [hR]
 rw [rcd_dec] at hR
 obtain ⟨q1,d1,hs1⟩:=hx.len
 obtain ⟨q2,d2,ht1⟩:=hx2.len
 obtain ⟨q3,d3,hs2⟩:=hy.len
 obtain ⟨q4,d4,ht2⟩:=hy2.len
 obtain ⟨m1,e1⟩:∃ n,x.grant.stamp.length=n:=⟨_,rfl⟩
 obtain ⟨m2,e2⟩:∃ n,x.stamp.length=n:=⟨_,rfl⟩
 obtain ⟨m3,e3⟩:∃ n,y.grant.stamp.length=n:=⟨_,rfl⟩
 obtain ⟨m4,e4⟩:∃ n,y.stamp.length=n:=⟨_,rfl⟩
 rw [e1] at hs1
 rw [e2] at ht1
 rw [e3] at hs2
 rw [e4] at ht2
 subst hs1 ht1 hs2 ht2
 clear e1 e2 e3 e4
 obtain ⟨k1,⟨i1,h1,p1,o1,g1,u1⟩,j1,r1,n1,b1,l1⟩:=x
 obtain ⟨k2,⟨i2,h2,p2,o2,g2,u2⟩,j2,r2,n2,b2,l2⟩:=y
 simp only at hx hx2 hy hy2 hR
 obtain ⟨W0,hW0⟩:∃ W0,W0=(w.alloc (.cells #[.int .i64 k1,.int .i64 i1,.int .i64 h1,.string p1,.int .i64 o1,.slice q1 m1 d1,.int .i64 u1,.int .i64 j1,.slice q2 m2 d2,.int .i64 n1,.int .i64 b1,.int .i64 l1] 42 (0,0))).alloc (.cells #[.int .i64 k2,.int .i64 i2,.int .i64 h2,.string p2,.int .i64 o2,.slice q3 m3 d3,.int .i64 u2,.int .i64 j2,.slice q4 m4 d4,.int .i64 n2,.int .i64 b2,.int .i64 l2] 42 (0,0)):=⟨_,rfl⟩
 have hm0:Mod [] w W0:=by rw [hW0];exact ((Mod.refl _ _).alloc _).alloc _
 have ha:W0.heap[w.heap.size]?=some (.cells #[.int .i64 k1,.int .i64 i1,.int .i64 h1,.string p1,.int .i64 o1,.slice q1 m1 d1,.int .i64 u1,.int .i64 j1,.slice q2 m2 d2,.int .i64 n1,.int .i64 b1,.int .i64 l1] 42 (0,0)):=by rw [hW0];exact blk_alloc (heap_alloc_new w _) _
 have hb:W0.heap[w.heap.size+1]?=some (.cells #[.int .i64 k2,.int .i64 i2,.int .i64 h2,.string p2,.int .i64 o2,.slice q3 m3 d3,.int .i64 u2,.int .i64 j2,.slice q4 m4 d4,.int .i64 n2,.int .i64 b2,.int .i64 l2] 42 (0,0)):=by
  rw [hW0]
  have:=heap_alloc_new (w.alloc (.cells #[.int .i64 k1,.int .i64 i1,.int .i64 h1,.string p1,.int .i64 o1,.slice q1 m1 d1,.int .i64 u1,.int .i64 j1,.slice q2 m2 d2,.int .i64 n1,.int .i64 b1,.int .i64 l1] 42 (0,0))) (.cells #[.int .i64 k2,.int .i64 i2,.int .i64 h2,.string p2,.int .i64 o2,.slice q3 m3 d3,.int .i64 u2,.int .i64 j2,.slice q4 m4 d4,.int .i64 n2,.int .i64 b2,.int .i64 l2] 42 (0,0))
  simpa using this
 have hsg:=rsameG_any (w:=W0) (x:=⟨i1,h1,p1,o1,g1,u1⟩) (y:=⟨i2,h2,p2,o2,g2,u2⟩) (sv:=.slice q1 m1 d1) (tv:=.slice q3 m3 d3) (hx.mod hm0 (by simp)) (hy.mod hm0 (by simp))
 have hsi:=fun {W:World} (m:Mod [] W0 W)=>sameInts_any (hx2.mod (hm0.then m) (by simp)) (hy2.mod (hm0.then m) (by simp))
 unfold aggG cellsG at hsg
 simp only at hsg
 generalize decide ((⟨i1,h1,p1,o1,g1,u1⟩:Grt)=⟨i2,h2,p2,o2,g2,u2⟩)=G at hsg hR
 generalize decide (r1=r2)=S at hsi hR
 have A0:=blk_cell ha
 have B0:=blk_cell hb
 have HB:=Hj3 ha hb hm0
 have HR:=hide hR
 clear hx hx2 hy hy2 ha hb hm0 hR
 unfold aggR cellsR
 simp only
 cases G with
 | false =>
   cases S
   all_goals
    go_enter Tryz.func17,Tryz.ntmps17
    go_upto_region 1 with fail
    rw [← hW0]
    clear hW0
    go_wp2_with (first
     | (go_at_call 52;refine hsg.mono ?_;rintro e w1 ⟨rfl,m1'⟩;have hq:Mod [] w w1:=HB.out.2.2.then m1')
     | fail)
    all_goals
     go_ret
     refine ⟨?_,by first | exact HB.out.2.2 | exact hq⟩
     rw [← HR.out]
     simp
 | true =>
   cases S
   all_goals
    go_enter Tryz.func17,Tryz.ntmps17
    go_upto_region 1 with fail
    rw [← hW0]
    clear hW0
    go_wp2_with (first
     | (go_at_call 52;refine hsg.mono ?_;rintro e w1 ⟨rfl,m1'⟩;have HM:=hide m1';have A1:=blk_cell (m1'.at_ HB.out.1 (by simp));have B1:=blk_cell (m1'.at_ HB.out.2.1 (by simp));clear m1' A0 B0)
     | (go_at_call 53;refine (hsi HM.out).mono ?_;rintro e w2 ⟨rfl,hg⟩;have A2:=blk_cell ((hg.mod []).at_ (HM.out.at_ HB.out.1 (by simp)) (by simp));have B2:=blk_cell ((hg.mod []).at_ (HM.out.at_ HB.out.2.1 (by simp)) (by simp));have HM2:=hide (HM.out.then (hg.mod []));clear hg A1 B1)
     | fail)
    all_goals
     go_ret
     refine ⟨?_,by first | exact HB.out.2.2 | exact HB.out.2.2.then HM2.out | exact HB.out.2.2.then HM.out⟩
     rw [← HR.out]
     first | (simp [*];done) | (simp [*];rfl) | simp
end Go.Proofs.YtpphoeimakjjdaaGreatDoor
/-
  WALKS: the document's layer 11: the record with nothing but what its kind uses.
-/
namespace Go.Proofs.YtpphoeimakjjdaaGreatDoor
set_option maxRecDepth 100000
set_option maxHeartbeats 4000000
open Go.RowKit

def usedR (r:Rcd):Rcd :=
 if r.kind=1 then { Rcd.zero with kind:=r.kind,next:=r.next,boots:=r.boots }
 else if r.kind=2 then { Rcd.zero with kind:=r.kind,longest:=r.longest }
 else if r.kind=3∨r.kind=4 then { Rcd.zero with kind:=r.kind,grant:=r.grant }
 else if r.kind=5 then { Rcd.zero with kind:=r.kind,id:=r.id,stamp:=r.stamp }
 else if r.kind=6 then { Rcd.zero with kind:=r.kind,id:=r.id }
 else { Rcd.zero with kind:=r.kind }
def UsedTo (w:World) (r:Rcd) (e:Ending) (w':World):Prop :=
 ∃ sv tv,e=.returned (aggR (usedR r) sv tv)∧RdN w' sv (usedR r).grant.stamp∧RdN w' tv (usedR r).stamp∧Mod [] w w'
theorem mid_blk (w:World) (A C:Obj) (cs:Array Value) {T:TypeId}:(((w.alloc A).alloc (.cells cs T (0,0))).alloc C).heap[w.heap.size+1]?=some (.cells cs T (0,0)):=by
 have:=heap_alloc_new (w.alloc A) (.cells cs T (0,0))
 exact blk_alloc (by simpa using this) _
theorem mid_mod (w:World) (A B C:Obj):Mod [] w (((w.alloc A).alloc B).alloc C):=(((Mod.refl _ _).alloc _).alloc _).alloc _
theorem used1_any {w:World} {r:Rcd} {p1 p2:Option Addr} {n1 n2 c1 c2:Nat} (hs:RdN w (.slice p1 n1 c1) r.grant.stamp) (ht:RdN w (.slice p2 n2 c2) r.stamp) (hk:r.kind=1) :
 Calls Tryz.prog 130 #[aggR r (.slice p1 n1 c1) (.slice p2 n2 c2)] w fun e w'=>UsedTo w r e w':=by
 obtain ⟨kd,⟨gi,gh,gp,gm,gs,gt⟩,ri,rs,rn,rb,rl⟩:=r
 simp only at hk hs ht
 subst hk
 unfold aggR cellsR
 simp only
 have HS:=Hj2 hs ht
 clear hs ht
 go_enter Tryz.func130,Tryz.ntmps130
 go_wp2_with fail
 obtain ⟨hs,ht⟩:=HS.out
 refine bodyPost_ret (res_cell1 Tryz.results130 _ _ rfl (mid_blk w _ _ _) Tryz.isAgg42 Tryz.sizeOf42) rfl ?_
 have mm:=mid_mod w (.cells #[.int .i64 1,.int .i64 gi,.int .i64 gh,.string gp,.int .i64 gm,.slice p1 n1 c1,.int .i64 gt,.int .i64 ri,.slice p2 n2 c2,.int .i64 rn,.int .i64 rb,.int .i64 rl] 42 (0,0))
 exact ⟨.slice none 0 0,.slice none 0 0,rfl,rdN_nil _,rdN_nil _,mm _ _⟩
theorem used2_any {w:World} {r:Rcd} {p1 p2:Option Addr} {n1 n2 c1 c2:Nat} (hs:RdN w (.slice p1 n1 c1) r.grant.stamp) (ht:RdN w (.slice p2 n2 c2) r.stamp) (hk:r.kind=2) :
 Calls Tryz.prog 130 #[aggR r (.slice p1 n1 c1) (.slice p2 n2 c2)] w fun e w'=>UsedTo w r e w':=by
 obtain ⟨kd,⟨gi,gh,gp,gm,gs,gt⟩,ri,rs,rn,rb,rl⟩:=r
 simp only at hk hs ht
 subst hk
 unfold aggR cellsR
 simp only
 have HS:=Hj2 hs ht
 clear hs ht
 go_enter Tryz.func130,Tryz.ntmps130
 go_wp2_with fail
 obtain ⟨hs,ht⟩:=HS.out
 refine bodyPost_ret (res_cell1 Tryz.results130 _ _ rfl (mid_blk w _ _ _) Tryz.isAgg42 Tryz.sizeOf42) rfl ?_
 have mm:=mid_mod w (.cells #[.int .i64 2,.int .i64 gi,.int .i64 gh,.string gp,.int .i64 gm,.slice p1 n1 c1,.int .i64 gt,.int .i64 ri,.slice p2 n2 c2,.int .i64 rn,.int .i64 rb,.int .i64 rl] 42 (0,0))
 exact ⟨.slice none 0 0,.slice none 0 0,rfl,rdN_nil _,rdN_nil _,mm _ _⟩
theorem used3_any {w:World} {r:Rcd} {p1 p2:Option Addr} {n1 n2 c1 c2:Nat} (hs:RdN w (.slice p1 n1 c1) r.grant.stamp) (ht:RdN w (.slice p2 n2 c2) r.stamp) (hk:r.kind=3) :
 Calls Tryz.prog 130 #[aggR r (.slice p1 n1 c1) (.slice p2 n2 c2)] w fun e w'=>UsedTo w r e w':=by
 obtain ⟨kd,⟨gi,gh,gp,gm,gs,gt⟩,ri,rs,rn,rb,rl⟩:=r
 simp only at hk hs ht
 subst hk
 unfold aggR cellsR
 simp only
 have HS:=Hj2 hs ht
 clear hs ht
 go_enter Tryz.func130,Tryz.ntmps130
 go_wp2_with fail
 obtain ⟨hs,ht⟩:=HS.out
 refine bodyPost_ret (res_cell1 Tryz.results130 _ _ rfl (mid_blk w _ _ _) Tryz.isAgg42 Tryz.sizeOf42) rfl ?_
 have mm:=mid_mod w (.cells #[.int .i64 3,.int .i64 gi,.int .i64 gh,.string gp,.int .i64 gm,.slice p1 n1 c1,.int .i64 gt,.int .i64 ri,.slice p2 n2 c2,.int .i64 rn,.int .i64 rb,.int .i64 rl] 42 (0,0))
 exact ⟨.slice p1 n1 c1,.slice none 0 0,rfl,hs.mod (mm _ _) (by simp),rdN_nil _,mm _ _⟩
theorem used4_any {w:World} {r:Rcd} {p1 p2:Option Addr} {n1 n2 c1 c2:Nat} (hs:RdN w (.slice p1 n1 c1) r.grant.stamp) (ht:RdN w (.slice p2 n2 c2) r.stamp) (hk:r.kind=4) :
 Calls Tryz.prog 130 #[aggR r (.slice p1 n1 c1) (.slice p2 n2 c2)] w fun e w'=>UsedTo w r e w':=by
 obtain ⟨kd,⟨gi,gh,gp,gm,gs,gt⟩,ri,rs,rn,rb,rl⟩:=r
 simp only at hk hs ht
 subst hk
 unfold aggR cellsR
 simp only
 have HS:=Hj2 hs ht
 clear hs ht
 go_enter Tryz.func130,Tryz.ntmps130
 go_wp2_with fail
 obtain ⟨hs,ht⟩:=HS.out
 refine bodyPost_ret (res_cell1 Tryz.results130 _ _ rfl (mid_blk w _ _ _) Tryz.isAgg42 Tryz.sizeOf42) rfl ?_
 have mm:=mid_mod w (.cells #[.int .i64 4,.int .i64 gi,.int .i64 gh,.string gp,.int .i64 gm,.slice p1 n1 c1,.int .i64 gt,.int .i64 ri,.slice p2 n2 c2,.int .i64 rn,.int .i64 rb,.int .i64 rl] 42 (0,0))
 exact ⟨.slice p1 n1 c1,.slice none 0 0,rfl,hs.mod (mm _ _) (by simp),rdN_nil _,mm _ _⟩
theorem used5_any {w:World} {r:Rcd} {p1 p2:Option Addr} {n1 n2 c1 c2:Nat} (hs:RdN w (.slice p1 n1 c1) r.grant.stamp) (ht:RdN w (.slice p2 n2 c2) r.stamp) (hk:r.kind=5) :
 Calls Tryz.prog 130 #[aggR r (.slice p1 n1 c1) (.slice p2 n2 c2)] w fun e w'=>UsedTo w r e w':=by
 obtain ⟨kd,⟨gi,gh,gp,gm,gs,gt⟩,ri,rs,rn,rb,rl⟩:=r
 simp only at hk hs ht
 subst hk
 unfold aggR cellsR
 simp only
 have HS:=Hj2 hs ht
 clear hs ht
 go_enter Tryz.func130,Tryz.ntmps130
 go_wp2_with fail
 obtain ⟨hs,ht⟩:=HS.out
 refine bodyPost_ret (res_cell1 Tryz.results130 _ _ rfl (mid_blk w _ _ _) Tryz.isAgg42 Tryz.sizeOf42) rfl ?_
 have mm:=mid_mod w (.cells #[.int .i64 5,.int .i64 gi,.int .i64 gh,.string gp,.int .i64 gm,.slice p1 n1 c1,.int .i64 gt,.int .i64 ri,.slice p2 n2 c2,.int .i64 rn,.int .i64 rb,.int .i64 rl] 42 (0,0))
 exact ⟨.slice none 0 0,.slice p2 n2 c2,rfl,rdN_nil _,ht.mod (mm _ _) (by simp),mm _ _⟩
theorem used6_any {w:World} {r:Rcd} {p1 p2:Option Addr} {n1 n2 c1 c2:Nat} (hs:RdN w (.slice p1 n1 c1) r.grant.stamp) (ht:RdN w (.slice p2 n2 c2) r.stamp) (hk:r.kind=6) :
 Calls Tryz.prog 130 #[aggR r (.slice p1 n1 c1) (.slice p2 n2 c2)] w fun e w'=>UsedTo w r e w':=by
 obtain ⟨kd,⟨gi,gh,gp,gm,gs,gt⟩,ri,rs,rn,rb,rl⟩:=r
 simp only at hk hs ht
 subst hk
 unfold aggR cellsR
 simp only
 have HS:=Hj2 hs ht
 clear hs ht
 go_enter Tryz.func130,Tryz.ntmps130
 go_wp2_with fail
 obtain ⟨hs,ht⟩:=HS.out
 refine bodyPost_ret (res_cell1 Tryz.results130 _ _ rfl (mid_blk w _ _ _) Tryz.isAgg42 Tryz.sizeOf42) rfl ?_
 have mm:=mid_mod w (.cells #[.int .i64 6,.int .i64 gi,.int .i64 gh,.string gp,.int .i64 gm,.slice p1 n1 c1,.int .i64 gt,.int .i64 ri,.slice p2 n2 c2,.int .i64 rn,.int .i64 rb,.int .i64 rl] 42 (0,0))
 exact ⟨.slice none 0 0,.slice none 0 0,rfl,rdN_nil _,rdN_nil _,mm _ _⟩
theorem used0_any {w:World} {r:Rcd} {p1 p2:Option Addr} {n1 n2 c1 c2:Nat} (hk:r.kind≠1∧r.kind≠2∧r.kind≠3∧r.kind≠4∧r.kind≠5∧r.kind≠6) :
 Calls Tryz.prog 130 #[aggR r (.slice p1 n1 c1) (.slice p2 n2 c2)] w fun e w'=>UsedTo w r e w':=by
 obtain ⟨kd,⟨gi,gh,gp,gm,gs,gt⟩,ri,rs,rn,rb,rl⟩:=r
 simp only at hk
 obtain ⟨h1,h2,h3,h4,h5,h6⟩:=hk
 have hu:usedR ⟨kd,⟨gi,gh,gp,gm,gs,gt⟩,ri,rs,rn,rb,rl⟩={ Rcd.zero with kind:=kd }:=by simp [usedR,h1,h2,h3,h4,h5,h6]
 have e1:(kd==1)=false:=by simpa using h1
 have e2:(kd==2)=false:=by simpa using h2
 have e3:(kd==3)=false:=by simpa using h3
 have e4:(kd==4)=false:=by simpa using h4
 have e5:(kd==5)=false:=by simpa using h5
 have e6:(kd==6)=false:=by simpa using h6
 have HU:=hide hu
 clear hu h1 h2 h3 h4 h5 h6
 unfold aggR cellsR
 simp only
 go_enter Tryz.func130,Tryz.ntmps130
 go_wp2_with fail
 refine bodyPost_ret (res_cell1 Tryz.results130 _ _ rfl (mid_blk w _ _ _) Tryz.isAgg42 Tryz.sizeOf42) rfl ?_
 refine ⟨.slice none 0 0,.slice none 0 0,by rw [HU.out];rfl,by rw [HU.out];exact rdN_nil _,by rw [HU.out];exact rdN_nil _,mid_mod _ _ _ _⟩
end Go.Proofs.YtpphoeimakjjdaaGreatDoor
/-
  PLAIN LAWS, NO WALK: a record may be just if it is the record with nothing but what its kind uses, and its kind's own test holds.
-/
namespace Go.Proofs.YtpphoeimakjjdaaGreatDoor
open Go.RowKit

def kindT (r:Rcd):Bool :=
 if r.kind=1 then headsB r.next r.boots
 else if r.kind=2 then decide (legalT r.longest)
 else if r.kind=3 then grantB r.grant
 else if r.kind=4 then grantB r.grant&&decide (lastI r.grant.stamp=r.grant.id)
 else if r.kind=5 then decide (countOk r.id)&&stmB r.stamp
 else if r.kind=6 then decide (countOk r.id)
 else decide (r.kind=7)
theorem may_used (r:Rcd):mayB r=(decide (usedR r=r)&&kindT r):=by
 obtain ⟨kd,g,ri,rs,rn,rb,rl⟩:=r
 rw [rcd_dec]
 unfold mayB kindT usedR noGrant noId bareB
 simp only
 by_cases h1:kd=1
 · subst h1
   rw [Bool.eq_iff_iff]
   simp [Rcd.zero]
   constructor
   · rintro ⟨a,rfl,rfl,rfl,rfl⟩;simp [a]
   · rintro ⟨⟨rfl,rfl,rfl,rfl⟩,a⟩;simp [a]
 by_cases h2:kd=2
 · subst h2
   rw [Bool.eq_iff_iff]
   simp [Rcd.zero]
   constructor
   · rintro ⟨a,⟨rfl,rfl⟩,rfl,rfl,rfl⟩;simp [a]
   · rintro ⟨⟨rfl,rfl,rfl,rfl,rfl⟩,a⟩;simp [a]
 by_cases h3:kd=3
 · subst h3
   rw [Bool.eq_iff_iff]
   simp [Rcd.zero]
   constructor
   · rintro ⟨a,⟨rfl,rfl,rfl⟩,rfl,rfl⟩;simp [a]
   · rintro ⟨⟨rfl,rfl,rfl,rfl,rfl⟩,a⟩;simp [a]
 by_cases h4:kd=4
 · subst h4
   rw [Bool.eq_iff_iff]
   simp [Rcd.zero]
   constructor
   · rintro ⟨b,a,⟨rfl,rfl,rfl⟩,rfl,rfl⟩;simp [a,b]
   · rintro ⟨⟨rfl,rfl,rfl,rfl,rfl⟩,a,b⟩;simp [a,b]
 by_cases h5:kd=5
 · subst h5
   rw [Bool.eq_iff_iff]
   simp [Rcd.zero]
   constructor
   · rintro ⟨b,a,⟨rfl,rfl,rfl⟩,rfl⟩;simp [a,b]
   · rintro ⟨⟨rfl,rfl,rfl,rfl⟩,a,b⟩;simp [a,b]
 by_cases h6:kd=6
 · subst h6
   rw [Bool.eq_iff_iff]
   simp [Rcd.zero]
   constructor
   · rintro ⟨b,rfl,⟨rfl,rfl,rfl⟩,rfl⟩;simp [b]
   · rintro ⟨⟨rfl,rfl,rfl,rfl,rfl⟩,a⟩;simp [a]
 by_cases h7:kd=7
 · subst h7
   rw [Bool.eq_iff_iff]
   simp [Rcd.zero]
   constructor
   · rintro ⟨⟨rfl,rfl,rfl⟩,rfl,rfl,rfl⟩;simp
   · rintro ⟨rfl,rfl,rfl,rfl,rfl,rfl⟩;simp
 · simp [h1,h2,h3,h4,h5,h6,h7]
end Go.Proofs.YtpphoeimakjjdaaGreatDoor
/-
  WALKS: the document's layer 11: may a record be?
-/
namespace Go.Proofs.YtpphoeimakjjdaaGreatDoor
set_option maxRecDepth 100000
set_option maxHeartbeats 4000000
open Go.RowKit

theorem rused_any {w:World} {r:Rcd} {p1 p2:Option Addr} {n1 n2 c1 c2:Nat} (hs:RdN w (.slice p1 n1 c1) r.grant.stamp) (ht:RdN w (.slice p2 n2 c2) r.stamp) :
 Calls Tryz.prog 130 #[aggR r (.slice p1 n1 c1) (.slice p2 n2 c2)] w fun e w'=>UsedTo w r e w':=by
 by_cases h1:r.kind=1
 · exact used1_any hs ht h1
 by_cases h2:r.kind=2
 · exact used2_any hs ht h2
 by_cases h3:r.kind=3
 · exact used3_any hs ht h3
 by_cases h4:r.kind=4
 · exact used4_any hs ht h4
 by_cases h5:r.kind=5
 · exact used5_any hs ht h5
 by_cases h6:r.kind=6
 · exact used6_any hs ht h6
 exact used0_any ⟨h1,h2,h3,h4,h5,h6⟩
structure TL0 (w0 w:World):Prop where
 md:Mod [] w0 w
theorem tl0_of {B:Nat} {w0 w':World} {T:TypeId} {v0 v1 v2 v3 v4 v5 v6 v7 v8 v9 v10 v11:Value} (hb:w0.heap[B]?=some (.cells #[v0,v1,v2,v3,v4,v5,v6,v7,v8,v9,v10,v11] T (0,0))) (m:Mod [] w0 w') :
 TL0 w0 w'∧w'.cell? ⟨B,0,none⟩=some v0∧w'.cell? ⟨B,1,none⟩=some v1∧w'.cell? ⟨B,2,none⟩=some v2∧w'.cell? ⟨B,3,none⟩=some v3∧w'.cell? ⟨B,4,none⟩=some v4∧w'.cell? ⟨B,5,none⟩=some v5∧w'.cell? ⟨B,6,none⟩=some v6∧w'.cell? ⟨B,7,none⟩=some v7∧w'.cell? ⟨B,8,none⟩=some v8∧w'.cell? ⟨B,9,none⟩=some v9∧w'.cell? ⟨B,10,none⟩=some v10∧w'.cell? ⟨B,11,none⟩=some v11 :=
 have k:=blk_cell (m.at_ hb (by simp))
 ⟨⟨m⟩,k 0,k 1,k 2,k 3,k 4,k 5,k 6,k 7,k 8,k 9,k 10,k 11⟩
set_option linter.unusedSimpArgs false in
theorem rrec_any {w:World} {r:Rcd} {p1 p2:Option Addr} {n1 n2 c1 c2:Nat} (hs:RdN w (.slice p1 n1 c1) r.grant.stamp) (ht:RdN w (.slice p2 n2 c2) r.stamp) (hp:r.grant.path.size≤9223372036854775806) :
 Calls Tryz.prog 89 #[aggR r (.slice p1 n1 c1) (.slice p2 n2 c2)] w fun e w'=>e=.returned (.bool (mayB r))∧Mod [] w w':=by
 obtain ⟨R,hR⟩:∃ R,mayB r=R:=⟨_,rfl⟩
 rw [hR]
 rw [may_used] at hR
 obtain ⟨kd,⟨gi,gh,gp,gm,gs,gt⟩,ri,rs,rn,rb,rl⟩:=r
 simp only at hs ht hp
 obtain ⟨V,hV⟩:∃ V:Array Value,V=#[.int .i64 kd,.int .i64 gi,.int .i64 gh,.string gp,.int .i64 gm,.slice p1 n1 c1,.int .i64 gt,.int .i64 ri,.slice p2 n2 c2,.int .i64 rn,.int .i64 rb,.int .i64 rl]:=⟨_,rfl⟩
 obtain ⟨W1,hW1⟩:∃ W1,W1=w.alloc (.cells V 42 (0,0)):=⟨_,rfl⟩
 have hb1:W1.heap[w.heap.size]?=some (.cells V 42 (0,0)):=by rw [hW1];exact heap_alloc_new w _
 have hm1:Mod [] w W1:=by rw [hW1];exact (Mod.refl _ _).alloc _
 rw [hV] at hb1 hW1
 clear hV V
 obtain ⟨U,hU⟩:∃ U,usedR ⟨kd,⟨gi,gh,gp,gm,gs,gt⟩,ri,rs,rn,rb,rl⟩=U:=⟨_,rfl⟩
 obtain ⟨D,hD⟩:∃ D,decide (U=⟨kd,⟨gi,gh,gp,gm,gs,gt⟩,ri,rs,rn,rb,rl⟩)=D:=⟨_,rfl⟩
 have hu:=fun (W:World) (m:Mod [] W1 W)=>rused_any (r:=⟨kd,⟨gi,gh,gp,gm,gs,gt⟩,ri,rs,rn,rb,rl⟩) (hs.mod (hm1.then m) (by simp)) (ht.mod (hm1.then m) (by simp))
 unfold UsedTo at hu
 rw [hU] at hu
 have hsr:∀ {W:World} {sv tv:Value},RdN W sv U.grant.stamp→RdN W tv U.stamp→Mod [] W1 W→Calls Tryz.prog 17 #[aggR U sv tv,aggR ⟨kd,⟨gi,gh,gp,gm,gs,gt⟩,ri,rs,rn,rb,rl⟩ (.slice p1 n1 c1) (.slice p2 n2 c2)] W fun e w'=>e=.returned (.bool D)∧Mod [] W w':=fun h1 h2 m=>by
  have:=rsameRec_any (y:=⟨kd,⟨gi,gh,gp,gm,gs,gt⟩,ri,rs,rn,rb,rl⟩) h1 h2 (hs.mod (hm1.then m) (by simp)) (ht.mod (hm1.then m) (by simp))
  rw [hD] at this
  exact this
 have hg:=fun (W:World) (m:Mod [] W1 W)=>rgrant_any (g:=⟨gi,gh,gp,gm,gs,gt⟩) (hs.mod (hm1.then m) (by simp)) hp
 have hl:=fun (W:World) (m:Mod [] W1 W)=>rlast_any (hs.mod (hm1.then m) (by simp))
 have hv:=fun (W:World) (m:Mod [] W1 W)=>rsvalid_any (ht.mod (hm1.then m) (by simp))
 have hc:=fun (W:World)=>rcounter_any ri W
 have hlen:rs.length=n2:=by obtain ⟨_,_,e⟩:=ht.len;cases e;rfl
 rw [hU,hD] at hR
 clear hU hD
 unfold aggG cellsG at hg
 unfold aggR cellsR at hu hsr ⊢
 simp only at hg hu hsr ⊢
 obtain ⟨L,hL⟩:∃ L,lastI gs=L:=⟨_,rfl⟩
 obtain ⟨G,hG⟩:∃ G,grantB ⟨gi,gh,gp,gm,gs,gt⟩=G:=⟨_,rfl⟩
 obtain ⟨S,hS⟩:∃ S,decide (stampOk rs)=S:=⟨_,rfl⟩
 obtain ⟨N,hN⟩:∃ N,decide (countOk ri)=N:=⟨_,rfl⟩
 rw [hG] at hg
 rw [hL] at hl
 rw [hS] at hv
 rw [hN] at hc
 have HG:=Hj5 hG hL hS hN hlen
 have HB:=Hj2 hb1 hm1
 have HR:=hide hR
 have B1:=blk_cell hb1
 clear hs ht hp hb1 hm1 hR hG hL hS hN hlen
 go_enter Tryz.func89,Tryz.ntmps89
 go_upto_region 1 with fail
 rw [← hW1]
 clear hW1
 go_region_held3 (fun w'=>TL0 W1 w'∧w'.cell? ⟨w.heap.size,0,none⟩=some (.int .i64 kd)∧w'.cell? ⟨w.heap.size,1,none⟩=some (.int .i64 gi)∧w'.cell? ⟨w.heap.size,2,none⟩=some (.int .i64 gh)∧w'.cell? ⟨w.heap.size,3,none⟩=some (.string gp)∧w'.cell? ⟨w.heap.size,4,none⟩=some (.int .i64 gm)∧w'.cell? ⟨w.heap.size,5,none⟩=some (.slice p1 n1 c1)∧w'.cell? ⟨w.heap.size,6,none⟩=some (.int .i64 gt)∧w'.cell? ⟨w.heap.size,7,none⟩=some (.int .i64 ri)∧w'.cell? ⟨w.heap.size,8,none⟩=some (.slice p2 n2 c2)∧w'.cell? ⟨w.heap.size,9,none⟩=some (.int .i64 rn)∧w'.cell? ⟨w.heap.size,10,none⟩=some (.int .i64 rb)∧w'.cell? ⟨w.heap.size,11,none⟩=some (.int .i64 rl))
  (first | (exact tl0_of HB.out.1 ((Mod.refl [] W1).drew)) | (go_split_ands;exact tl0_of HB.out.1 (Mod.then (TL0.md (by assumption)) hmX)))
  (first
    | (go_at_call 130;go_split_ands;refine (hu _ (by first | exact TL0.md (by assumption) | exact (Mod.refl [] W1).drew)).mono ?_;rintro e x5 ⟨sv,tv,rfl,hr1,hr2,hmX⟩)
    | (go_at_call 17;go_split_ands;refine (hsr hr1 hr2 (TL0.md (by assumption))).mono ?_;rintro e x6 ⟨rfl,hmX⟩)
    | fail)
 go_split_ands
 have hTL:Mod [] W1 x6:=TL0.md (by assumption)
 have HT:=hide hTL
 clear hmX hr1 hr2 hu hsr
 repeat (first | (clear ‹TL0 _ _›) | (clear ‹World.cell? _ _=_›))
 have C1:=blk_cell (hTL.at_ HB.out.1 (by simp))
 clear hTL B1
 cases D with
 | false =>
   go_wp2_with fail
   go_ret
   exact ⟨by rw [← HR.out];rfl,HB.out.2.then HT.out⟩
 | true =>
   have hk:kd=1∨kd=2∨kd=3∨kd=4∨kd=5∨kd=6∨kd=7∨(kd≠1∧kd≠2∧kd≠3∧kd≠4∧kd≠5∧kd≠6∧kd≠7):=by omega
   rcases hk with rfl | rfl | rfl | rfl | rfl | rfl | rfl | hk
   · by_cases h1:1≤rn
     · by_cases h2:rn≤1099511627777
       · by_cases h3:0≤rb
         · by_cases h4:rb≤1099511627776
           all_goals
            go_wp2_with fail
            go_ret
            exact ⟨by (rw [← HR.out];simp [kindT,headsB,h1,h2,h3,h4];try omega),HB.out.2.then HT.out⟩
         · go_wp2_with fail
           go_ret
           exact ⟨by (rw [← HR.out];simp [kindT,headsB,h1,h2,h3];try omega),HB.out.2.then HT.out⟩
       · go_wp2_with fail
         go_ret
         exact ⟨by (rw [← HR.out];simp [kindT,headsB,h1,h2];try omega),HB.out.2.then HT.out⟩
     · go_wp2_with fail
       go_ret
       exact ⟨by (rw [← HR.out];simp [kindT,headsB,h1];try omega),HB.out.2.then HT.out⟩
   · go_wp2_with (first
      | (go_at_call 128;refine (rlegal_any rl _).mono ?_;rintro e w3 ⟨rfl,hx⟩;rw [hx];clear hx)
      | fail)
     go_ret
     exact ⟨by (rw [← HR.out];simp [kindT,legalT];exact (Bool.decide_and _ _).symm),HB.out.2.then HT.out⟩
   · go_wp2_with (first
      | (go_at_call 129;refine (hg _ HT.out).mono ?_;rintro e w3 ⟨rfl,m3⟩;have H3:=hide m3;clear m3)
      | fail)
     go_ret
     exact ⟨by rw [← HR.out];simp [kindT,HG.out.1],(HB.out.2.then HT.out).then H3.out⟩
   · go_upto_region 11 with fail
     refine pB 999 (Mod [] W1) (HT.out.drew) ?_
     refine pP 0 ?_
     refine pH 1 rfl (fun w h=>by have C0:=blk_cell (h.at_ HB.out.1 (by simp));go_simp;try with_reducible rfl) ?_
     refine pX 2 fun hT K HK=>?_
     go_simp
     refine (hg _ hT).mono ?_;rintro e x7 ⟨rfl,m7⟩
     refine HK.out _ _ _ (hT.then m7) ?_
     clear HK K hT m7
     refine pP 3 ?_
     cases G with
     | false =>
       refine pN 4 ?_;refine pN 5 ?_;refine pN 6 ?_;refine pN 7 ?_;refine pN 8 ?_;refine pN 9 ?_;refine pN 10 ?_;refine pN 11 ?_;refine pP 12 ?_;refine pP 13 ?_
       refine pE fun hT=>?_
       go_wp2_with fail
       go_ret
       exact ⟨by rw [← HR.out];simp [kindT,HG.out.1],HB.out.2.then hT⟩
     | true =>
       refine pP 4 ?_;refine pP 5 ?_
       refine pH 6 rfl (fun w h=>by have C0:=blk_cell (h.at_ HB.out.1 (by simp));go_simp;try with_reducible rfl) ?_
       refine pP 8 ?_;refine pP 9 ?_
       refine pH 10 rfl (fun w h=>by have C0:=blk_cell (h.at_ HB.out.1 (by simp));go_simp;try with_reducible rfl) ?_
       refine pX 7 fun hT K HK=>?_
       go_simp
       refine (hl _ hT).mono ?_;rintro e x8 ⟨rfl,hx⟩
       rw [hx]
       refine HK.out _ _ _ hT ?_
       clear HK K hT hx x8
       refine pP 11 ?_;refine pP 12 ?_;refine pP 13 ?_
       refine pE fun hT=>?_
       go_wp2_with fail
       go_ret
       exact ⟨by rw [← HR.out];simp [kindT,HG.out.1,HG.out.2.1];rfl,HB.out.2.then hT⟩
   · cases N with
     | false =>
       go_wp2_with (first
        | (go_at_call 131;refine (hc _).mono ?_;rintro e w3 ⟨rfl,hx⟩;rw [hx];clear hx)
        | (go_at_call 132;refine (hv _ HT.out).mono ?_;rintro e w3 ⟨rfl,hx⟩;rw [hx];clear hx)
        | fail)
       go_ret
       exact ⟨by rw [← HR.out];simp [kindT,stmB,HG.out.2.2.2.1,HG.out.2.2.1,HG.out.2.2.2.2],HB.out.2.then HT.out⟩
     | true =>
       by_cases h0:0<n2
       · have h0d:decide ((0:Int)<(n2:Int))=true:=decide_eq_true (by omega)
         go_wp2_with (first
          | (go_at_call 131;refine (hc _).mono ?_;rintro e w3 ⟨rfl,hx⟩;rw [hx];clear hx)
          | (go_at_call 132;refine (hv _ HT.out).mono ?_;rintro e w3 ⟨rfl,hx⟩;rw [hx];clear hx)
          | fail)
         go_ret
         exact ⟨by rw [← HR.out];simp [kindT,stmB,HG.out.2.2.2.1,HG.out.2.2.1,HG.out.2.2.2.2,h0],HB.out.2.then HT.out⟩
       · have h0d:decide ((0:Int)<(n2:Int))=false:=decide_eq_false (by omega)
         go_wp2_with (first
          | (go_at_call 131;refine (hc _).mono ?_;rintro e w3 ⟨rfl,hx⟩;rw [hx];clear hx)
          | (go_at_call 132;refine (hv _ HT.out).mono ?_;rintro e w3 ⟨rfl,hx⟩;rw [hx];clear hx)
          | fail)
         go_ret
         exact ⟨by rw [← HR.out];simp [kindT,stmB,HG.out.2.2.2.1,HG.out.2.2.1,HG.out.2.2.2.2,h0],HB.out.2.then HT.out⟩
   · go_wp2_with (first
      | (go_at_call 131;refine (hc _).mono ?_;rintro e w3 ⟨rfl,hx⟩;rw [hx];clear hx)
      | fail)
     go_ret
     exact ⟨by rw [← HR.out];simp [kindT,HG.out.2.2.2.1],HB.out.2.then HT.out⟩
   · go_wp2_with fail
     go_ret
     exact ⟨by rw [← HR.out];rfl,HB.out.2.then HT.out⟩
   · obtain ⟨h1,h2,h3,h4,h5,h6,h7⟩:=hk
     have hkt:kindT ⟨kd,⟨gi,gh,gp,gm,gs,gt⟩,ri,rs,rn,rb,rl⟩=false:=by unfold kindT;simp [h1,h2,h3,h4,h5,h6,h7]
     have e1:(kd==1)=false:=by simpa using h1
     have e2:(kd==2)=false:=by simpa using h2
     have e3:(kd==3)=false:=by simpa using h3
     have e4:(kd==4)=false:=by simpa using h4
     have e5:(kd==5)=false:=by simpa using h5
     have e6:(kd==6)=false:=by simpa using h6
     have e7:(kd==7)=false:=by simpa using h7
     clear h1 h2 h3 h4 h5 h6 h7
     go_wp2_with fail
     go_ret
     exact ⟨by rw [← HR.out,hkt];rfl,HB.out.2.then HT.out⟩
end Go.Proofs.YtpphoeimakjjdaaGreatDoor
/-
  WALKS: the document's layer 11: books compared. (Written by wip/gen_ledsame.py.)
-/
namespace Go.Proofs.YtpphoeimakjjdaaGreatDoor
set_option maxRecDepth 100000
set_option maxHeartbeats 4000000
open Go.RowKit Go.Shelf

def TQ (b1 b2 g1 g2 k:Nat) (s1 s2:Value) (C1 C2:List Value) (w:World):Prop:=w.cell? ⟨b1,3,none⟩=some s1∧w.cell? ⟨b2,3,none⟩=some s2∧(∀ j,j<6→w.cell? ⟨g1,k * 6+j,none⟩=some (C1.getD j undef))∧(∀ j,j<6→w.cell? ⟨g2,k * 6+j,none⟩=some (C2.getD j undef))
theorem TQ.mod {b1 b2 g1 g2 k:Nat} {s1 s2:Value} {C1 C2:List Value} {w w':World} (h:TQ b1 b2 g1 g2 k s1 s2 C1 C2 w) (m:Mod [] w w'):TQ b1 b2 g1 g2 k s1 s2 C1 C2 w' :=
 ⟨m.kept h.1 (by simp),m.kept h.2.1 (by simp),fun j hj=>m.kept (h.2.2.1 j hj) (by simp),fun j hj=>m.kept (h.2.2.2 j hj) (by simp)⟩
theorem fst_ext {l1 l2:List (Grt × Value)} (hl:l1.length=l2.length) (h:∀ j,j<l1.length→(l1.getD j default).1=(l2.getD j default).1):l1.map Prod.fst=l2.map Prod.fst:=by
 refine List.ext_getElem (by simp [hl]) fun j h1 h2=>?_
 rw [List.length_map] at h1 h2
 have:=h j h1
 simp only [List.getElem_map]
 simpa [h1,h2] using this
theorem rsame_any {w:World} {base1 base2 n1 n2 c1 c2:Nat} {q1 q2:Option Addr} {a b:Bk} {l1 l2:List (Grt × Value)} (h1:BkM w base1 (.slice q1 n1 c1) a l1) (h2:BkM w base2 (.slice q2 n2 c2) b l2) :
 Calls Tryz.prog 20 #[.agg #[.int .i64 a.next,.int .i64 a.boots,.int .i64 a.longest,.slice q1 n1 c1],.agg #[.int .i64 b.next,.int .i64 b.boots,.int .i64 b.longest,.slice q2 n2 c2]] w fun e w'=>e=.returned (.bool (decide (a=b)))∧Mod [] w w':=by
 obtain ⟨q1',c1',hv1,hx1⟩:=h1.gr.shape
 obtain ⟨q2',c2',hv2,hx2⟩:=h2.gr.shape
 simp only [Value.slice.injEq] at hv1 hv2
 obtain ⟨rfl,rfl,rfl⟩:=hv1
 obtain ⟨rfl,rfl,rfl⟩:=hv2
 have hx1':l1.length≤9223372036854775807:=hx1
 have hx2':l2.length≤9223372036854775807:=hx2
 have he1:=h1.eq
 have he2:=h2.eq
 obtain ⟨x1,y1,z1,gs1⟩:=a
 obtain ⟨x2,y2,z2,gs2⟩:=b
 simp only at he1 he2 ⊢
 subst he1 he2
 obtain ⟨D,hD⟩:∃ D,decide ((⟨x1,y1,z1,l1.map Prod.fst⟩:Bk)=⟨x2,y2,z2,l2.map Prod.fst⟩)=D:=⟨_,rfl⟩
 rw [hD]
 have HD:=hide hD
 clear hD
 obtain ⟨W0,hW0⟩:∃ W0,W0=(w.alloc (.cells #[.int .i64 x1,.int .i64 y1,.int .i64 z1,.slice q1 l1.length c1] 34 (0,0))).alloc (.cells #[.int .i64 x2,.int .i64 y2,.int .i64 z2,.slice q2 l2.length c2] 34 (0,0)):=⟨_,rfl⟩
 have hm0:Mod [] w W0:=by rw [hW0];exact ((Mod.refl _ _).alloc _).alloc _
 have ha0:W0.heap[w.heap.size]?=some (.cells #[.int .i64 x1,.int .i64 y1,.int .i64 z1,.slice q1 l1.length c1] 34 (0,0)):=by rw [hW0];exact blk_alloc (heap_alloc_new w _) _
 have hb0:W0.heap[w.heap.size+1]?=some (.cells #[.int .i64 x2,.int .i64 y2,.int .i64 z2,.slice q2 l2.length c2] 34 (0,0)):=by
  rw [hW0]
  have:=heap_alloc_new (w.alloc (.cells #[.int .i64 x1,.int .i64 y1,.int .i64 z1,.slice q1 l1.length c1] 34 (0,0))) (.cells #[.int .i64 x2,.int .i64 y2,.int .i64 z2,.slice q2 l2.length c2] 34 (0,0))
  simpa using this
 have A0:=blk_cell ha0
 have B0:=blk_cell hb0
 have HB:=Hj3 ha0 hb0 hm0
 have HG:=Hj2 (h1.gr.mod hm0 (by simp)) (h2.gr.mod hm0 (by simp))
 clear h1 h2 ha0 hb0 hm0 hx1 hx2
 have hways:(x1≠x2)∨(x1=x2∧y1≠y2)∨(x1=x2∧y1=y2∧z1≠z2)∨(x1=x2∧y1=y2∧z1=z2∧l1.length≠l2.length)∨(x1=x2∧y1=y2∧z1=z2∧l1.length=l2.length):=by
  by_cases e1:x1=x2 <;> by_cases e2:y1=y2 <;> by_cases e3:z1=z2 <;> by_cases e4:l1.length=l2.length <;> simp [e1,e2,e3,e4]
 rcases hways with e1 | ⟨e1,e2⟩ | ⟨e1,e2,e3⟩ | ⟨e1,e2,e3,e4⟩ | ⟨e1,e2,e3,e4⟩
 · have HF:Hid (D=false):=hide (by rw [← HD.out];simp [e1])
   have e1':(x1 != x2)=true:=by simpa using e1
   clear e1
   go_enter Tryz.func20,Tryz.ntmps20
   go_upto_region 1 with fail
   rw [← hW0]
   clear hW0
   go_wp2_with fail
   go_ret
   exact ⟨by rw [HF.out];rfl,HB.out.2.2⟩
 · have HF:Hid (D=false):=hide (by rw [← HD.out];simp [e2])
   have e1':(x1 != x2)=false:=by simpa using e1
   have e2':(y1 != y2)=true:=by simpa using e2
   clear e1 e2
   go_enter Tryz.func20,Tryz.ntmps20
   go_upto_region 1 with fail
   rw [← hW0]
   clear hW0
   go_wp2_with fail
   go_ret
   exact ⟨by rw [HF.out];rfl,HB.out.2.2⟩
 · have HF:Hid (D=false):=hide (by rw [← HD.out];simp [e3])
   have e1':(x1 != x2)=false:=by simpa using e1
   have e2':(y1 != y2)=false:=by simpa using e2
   have e3':(z1 != z2)=true:=by simpa using e3
   clear e1 e2 e3
   go_enter Tryz.func20,Tryz.ntmps20
   go_upto_region 1 with fail
   rw [← hW0]
   clear hW0
   go_wp2_with fail
   go_ret
   exact ⟨by rw [HF.out];rfl,HB.out.2.2⟩
 · have HF:Hid (D=false):=hide (by
    rw [← HD.out,decide_eq_false]
    intro e
    simp only [Bk.mk.injEq] at e
    have:=congrArg List.length e.2.2.2
    simp at this
    exact e4 this)
   have e1':(x1 != x2)=false:=by simpa using e1
   have e2':(y1 != y2)=false:=by simpa using e2
   have e3':(z1 != z2)=false:=by simpa using e3
   have e4':((l1.length:Int) != (l2.length:Int))=true:=by rw [bne_iff_ne];omega
   clear e1 e2 e3 e4
   go_enter Tryz.func20,Tryz.ntmps20
   go_upto_region 1 with fail
   rw [← hW0]
   clear hW0
   go_wp2_with fail
   go_ret
   exact ⟨by rw [HF.out];rfl,HB.out.2.2⟩
 · subst e1 e2 e3
   obtain ⟨n2,hn2⟩:∃ n,l2.length=n:=⟨_,rfl⟩
   rw [hn2] at hW0 B0 HB HG hx2' e4 ⊢
   subst e4
   have b1:(x1 != x1)=false:=by simp
   have b2:(y1 != y1)=false:=by simp
   have b3:(z1 != z1)=false:=by simp
   have b4:((l1.length:Int) != (l1.length:Int))=false:=by simp
   have HN:=hide hn2
   clear hn2
   go_enter Tryz.func20,Tryz.ntmps20
   go_upto_region 1 with fail
   rw [← hW0]
   clear hW0
   go_upto_region 4 with fail
   clear A0 B0
   go_loopw [5] (fun i wr=>∃ k:Nat,i=.int .i64 (k:Int)∧k≤l1.length∧Hid (∀ j,j<k→(l1.getD j default).1=(l2.getD j default).1)∧Mod [] W0 wr) (fun i _=>l1.length - (intOf i).toNat)
   case atStart=>exact ⟨0,rfl,Nat.zero_le _,hide (fun j hj=>absurd hj (by omega)),Mod.refl _ _⟩
   case round =>
    obtain ⟨k,rfl,hk,HK,hm⟩:=hrel
    have A1:=blk_cell (hm.at_ HB.out.1 (by simp))
    have B1:=blk_cell (hm.at_ HB.out.2.1 (by simp))
    by_cases hlt:k<l1.length
    · have hki:(k:Int)<(l1.length:Int):=by omega
      have hk0:(0:Int)≤(k:Int):=by omega
      obtain ⟨gb1,rfl,hgb1,-,hc1,-,hrd1⟩:=(HG.out.1.mod hm (by simp)).at_ k hlt
      obtain ⟨gb2,rfl,hgb2,-,hc2,-,hrd2⟩:=(HG.out.2.mod hm (by simp)).at_ k (by rw [HN.out];exact hlt)
      obtain ⟨pr1,hp1⟩:∃ p,l1.getD k default=p:=⟨_,rfl⟩
      obtain ⟨pr2,hp2⟩:∃ p,l2.getD k default=p:=⟨_,rfl⟩
      rw [hp1] at hc1 hrd1
      rw [hp2] at hc2 hrd2
      obtain ⟨⟨i1,h1,p1,m1,s1,t1⟩,sv1⟩:=pr1
      obtain ⟨⟨i2,h2,p2,m2,s2,t2⟩,sv2⟩:=pr2
      simp only at hrd1 hrd2
      obtain ⟨sq1,sc1,hs1⟩:=hrd1.len
      obtain ⟨sq2,sc2,hs2⟩:=hrd2.len
      obtain ⟨sn1,hn1⟩:∃ n,s1.length=n:=⟨_,rfl⟩
      obtain ⟨sn2,hn2⟩:∃ n,s2.length=n:=⟨_,rfl⟩
      rw [hn1] at hs1
      rw [hn2] at hs2
      subst hs1 hs2
      have hsg:=rsameG_any (w:=wr.drew) (x:=⟨i1,h1,p1,m1,s1,t1⟩) (y:=⟨i2,h2,p2,m2,s2,t2⟩) (hrd1.mod (Mod.refl [] wr).drew (by simp)) (hrd2.mod (Mod.refl [] wr).drew (by simp))
      obtain ⟨E,hE⟩:∃ E,decide ((⟨i1,h1,p1,m1,s1,t1⟩:Grt)=⟨i2,h2,p2,m2,s2,t2⟩)=E:=⟨_,rfl⟩
      have HDE:=hide hE
      have hTQ:TQ w.heap.size (w.heap.size+1) gb1 gb2 k (.slice (some ⟨gb1,0,none⟩) l1.length c1) (.slice (some ⟨gb2,0,none⟩) l1.length c2) [.int .i64 i1,.int .i64 h1,.string p1,.int .i64 m1,.slice sq1 sn1 sc1,.int .i64 t1] [.int .i64 i2,.int .i64 h2,.string p2,.int .i64 m2,.slice sq2 sn2 sc2,.int .i64 t2] wr.drew:=by
       refine ⟨A1 3,B1 3,fun j hj=>?_,fun j hj=>?_⟩
       · have:=hc1 j hj
         match j,hj with
         | 0,_=>exact this
         | 1,_=>exact this
         | 2,_=>exact this
         | 3,_=>exact this
         | 4,_=>exact this
         | 5,_=>exact this
       · have:=hc2 j hj
         match j,hj with
         | 0,_=>exact this
         | 1,_=>exact this
         | 2,_=>exact this
         | 3,_=>exact this
         | 4,_=>exact this
         | 5,_=>exact this
      have HP:=Hj3 hp1 hp2 hm
      clear hc1 hc2 hrd1 hrd2 hn1 hn2 hp1 hp2 hm hE
      go_upto_region 6 with fail
      clear A1 B1
      refine pB 11 (TQ w.heap.size (w.heap.size+1) gb1 gb2 k (.slice (some ⟨gb1,0,none⟩) l1.length c1) (.slice (some ⟨gb2,0,none⟩) l1.length c2) [.int .i64 i1,.int .i64 h1,.string p1,.int .i64 m1,.slice sq1 sn1 sc1,.int .i64 t1] [.int .i64 i2,.int .i64 h2,.string p2,.int .i64 m2,.slice sq2 sn2 sc2,.int .i64 t2]) (hTQ) ?_
      refine pP 0 ?_
      refine pT 1 rfl [3,4,10,11] (fun w hSw=>by have A:=hSw.1;have B:=hSw.2.1;go_simp;try with_reducible rfl) ?_
      refine pP 2 ?_;refine pP 3 ?_
      refine pT 4 rfl [10,11] (fun w hSw=>by have A:=hSw.1;have B:=hSw.2.1;have c0:=hSw.2.2.1 0 (by decide);have c1:=hSw.2.2.1 1 (by decide);have c2:=hSw.2.2.1 2 (by decide);have c3:=hSw.2.2.1 3 (by decide);have c4:=hSw.2.2.1 4 (by decide);have c5:=hSw.2.2.1 5 (by decide);have d0:=hSw.2.2.2 0 (by decide);have d1:=hSw.2.2.2 1 (by decide);have d2:=hSw.2.2.2 2 (by decide);have d3:=hSw.2.2.2 3 (by decide);have d4:=hSw.2.2.2 4 (by decide);have d5:=hSw.2.2.2 5 (by decide);simp at c0 c1 c2 c3 c4 c5 d0 d1 d2 d3 d4 d5;go_simp;try with_reducible rfl) ?_
      refine pP 5 ?_
      refine pT 6 rfl [8,9,10,11] (fun w hSw=>by have A:=hSw.1;have B:=hSw.2.1;go_simp;try with_reducible rfl) ?_
      refine pP 7 ?_;refine pP 8 ?_
      refine pT 9 rfl [10,11] (fun w hSw=>by have A:=hSw.1;have B:=hSw.2.1;have c0:=hSw.2.2.1 0 (by decide);have c1:=hSw.2.2.1 1 (by decide);have c2:=hSw.2.2.1 2 (by decide);have c3:=hSw.2.2.1 3 (by decide);have c4:=hSw.2.2.1 4 (by decide);have c5:=hSw.2.2.1 5 (by decide);have d0:=hSw.2.2.2 0 (by decide);have d1:=hSw.2.2.2 1 (by decide);have d2:=hSw.2.2.2 2 (by decide);have d3:=hSw.2.2.2 3 (by decide);have d4:=hSw.2.2.2 4 (by decide);have d5:=hSw.2.2.2 5 (by decide);simp at c0 c1 c2 c3 c4 c5 d0 d1 d2 d3 d4 d5;go_simp;try with_reducible rfl) ?_
      refine pX 10 fun hT K HK=>?_
      refine step_call rfl 52 #[.tmp 45,.tmp 50] #[40,40] rfl (enters_of Tryz.func52 (by kernel_rfl) rfl) #[aggG ⟨i1,h1,p1,m1,s1,t1⟩ (.slice sq1 sn1 sc1),aggG ⟨i2,h2,p2,m2,s2,t2⟩ (.slice sq2 sn2 sc2)] (by simp [Act.eval,aggG,cellsG]) ?_
      refine hsg.mono ?_
      rintro e w3 ⟨rfl,hm3⟩
      refine ⟨_,rfl,?_⟩
      rw [HDE.out]
      have hT2:TQ w.heap.size (w.heap.size+1) gb1 gb2 k (.slice (some ⟨gb1,0,none⟩) l1.length c1) (.slice (some ⟨gb2,0,none⟩) l1.length c2) [.int .i64 i1,.int .i64 h1,.string p1,.int .i64 m1,.slice sq1 sn1 sc1,.int .i64 t1] [.int .i64 i2,.int .i64 h2,.string p2,.int .i64 m2,.slice sq2 sn2 sc2,.int .i64 t2] w3:=hT.mod hm3
      have H3:=hide hm3
      clear hm3
      refine HK.out _ _ _ hT2 ?_
      clear HK K hT hT2
      refine pY 11 fun hT K HK=>?_
      go_simp
      refine HK.out _ _ _ ?_
      clear HK K hT
      refine pD ?_
      cases E with
      | true =>
        go_wp2_with fail
        go_roundw
        case rel =>
         refine ⟨k+1,by go_num,by omega,hide (fun j hj=>?_),HP.out.2.2.drew.then H3.out⟩
         by_cases e:j=k
         · subst e
           rw [HP.out.1,HP.out.2.1]
           exact of_decide_eq_true HDE.out
         · exact HK.out j (by omega)
        case measure=>simp [intOf];omega
      | false =>
        have HF:Hid (D=false):=hide (by
         rw [← HD.out,decide_eq_false]
         intro e
         simp only [Bk.mk.injEq] at e
         have e3:=e.2.2.2
         have hkk:(l1.map Prod.fst).getD k default=(l2.map Prod.fst).getD k default:=by rw [e3]
         have h2l:k<l2.length:=by rw [HN.out];exact hlt
         have a1:(l1.map Prod.fst).getD k default=(l1.getD k default).1:=by simp [hlt]
         have a2:(l2.map Prod.fst).getD k default=(l2.getD k default).1:=by simp [h2l]
         rw [a1,a2,HP.out.1,HP.out.2.1] at hkk
         exact of_decide_eq_false HDE.out hkk)
        go_wp2_with fail
        go_ret
        exact ⟨by rw [HF.out];rfl,HB.out.2.2.then (HP.out.2.2.drew.then H3.out)⟩
    · obtain rfl:k=l1.length:=by omega
      have HF:Hid (D=true):=hide (by
       rw [← HD.out,decide_eq_true]
       rw [fst_ext HN.out.symm HK.out])
      have HM:=hide hm
      clear hm
      go_wp2_with fail
      go_ret
      exact ⟨by rw [HF.out];rfl,HB.out.2.2.then HM.out⟩
end Go.Proofs.YtpphoeimakjjdaaGreatDoor
/-
  WALKS: the document's layer 11: fault: what a record does not fit for.
-/
namespace Go.Proofs.YtpphoeimakjjdaaGreatDoor
set_option maxRecDepth 100000
set_option maxHeartbeats 4000000
open Go.RowKit

theorem find_has {lv:List (Grt × Value)} {id:Int} {e:Ending} (h:FindTo lv id e) :
 ∃ i:Int,e=.returned (.int .i64 i)∧decide (0≤i)=hasG (lv.map Prod.fst) id∧(0≤i→∃ k:Nat,i=(k:Int)∧k<lv.length∧(lv.getD k default).1.id=id):=by
 rcases h with ⟨k,hk,hi,hj,rfl⟩ | ⟨hn,rfl⟩
 · refine ⟨k,rfl,?_,fun _=>⟨k,rfl,hk,hi⟩⟩
   rw [decide_eq_true (by omega)]
   symm
   exact hasG_iff.2 ⟨(lv.getD k default).1,List.mem_map.2 ⟨lv.getD k default,by simp [hk],rfl⟩,hi⟩
 · refine ⟨-1,rfl,?_,fun h=>absurd h (by omega)⟩
   rw [decide_eq_false (by omega)]
   symm
   cases he:hasG (lv.map Prod.fst) id with
   | false=>rfl
   | true =>
     obtain ⟨g,hg,he⟩:=hasG_iff.1 he
     obtain ⟨p,hp,rfl⟩:=List.mem_map.1 hg
     obtain ⟨j,hj,rfl⟩:=List.mem_iff_getElem.1 hp
     exact absurd he (by have:=hn j hj;simpa [hj] using this)
theorem may_kind7 {r:Rcd} (h:mayB r=true):r.kind=1∨r.kind=2∨r.kind=3∨r.kind=4∨r.kind=5∨r.kind=6∨r.kind=7:=by
 unfold mayB at h
 by_cases h1:r.kind=1;· exact .inl h1
 by_cases h2:r.kind=2;· exact .inr (.inl h2)
 by_cases h3:r.kind=3;· exact .inr (.inr (.inl h3))
 by_cases h4:r.kind=4;· exact .inr (.inr (.inr (.inl h4)))
 by_cases h5:r.kind=5;· exact .inr (.inr (.inr (.inr (.inl h5))))
 by_cases h6:r.kind=6;· exact .inr (.inr (.inr (.inr (.inr (.inl h6)))))
 by_cases h7:r.kind=7;· exact .inr (.inr (.inr (.inr (.inr (.inr h7)))))
 simp [h1,h2,h3,h4,h5,h6,h7] at h
theorem fault_rest {b:Bk} {r:Rcd} (h:validB b=true) (h2:mayB r=true):(applyB b r).2=if limitI b r.kind≠0 then limitI b r.kind else if (changeB b r).isSome=true then 0 else 43:=by
 unfold applyB
 rw [if_neg (by simp [h,h2])]
 split
 · rfl
 · cases changeB b r <;> rfl
set_option linter.unusedSimpArgs false in
theorem rfault_any {w:World} {base:Nat} {gv sv tv:Value} {b:Bk} {lv:List (Grt × Value)} {r:Rcd} (h:BkM w base gv b lv) (hps:∀ p,p∈lv→p.1.path.size≤9223372036854775806) (hs:RdN w sv r.grant.stamp) (ht:RdN w tv r.stamp) (hp:r.grant.path.size≤9223372036854775806) :
 Calls Tryz.prog 54 #[aggB b gv,aggR r sv tv] w fun e w'=>e=.returned (.int .i64 (applyB b r).2)∧Mod [] w w':=by
 obtain ⟨kd,⟨gi,gh,gp,gm,gs,gt⟩,ri,rs,rn,rb,rl⟩:=r
 obtain ⟨nx,bo,lo,bg⟩:=b
 simp only at hs ht hp
 obtain rfl:bg=lv.map Prod.fst:=h.eq
 have hval:=fun (W:World) (m:Mod [] w W)=>rvalid_any (b:=⟨nx,bo,lo,lv.map Prod.fst⟩) ⟨h.gr.mod m (by simp),rfl⟩ hps
 obtain ⟨q2,c2,rfl⟩:=ht.len
 obtain ⟨q1,c1,rfl⟩:=hs.len
 have hmay:=fun (W:World) (m:Mod [] w W)=>rrec_any (r:=⟨kd,⟨gi,gh,gp,gm,gs,gt⟩,ri,rs,rn,rb,rl⟩) (hs.mod m (by simp)) (ht.mod m (by simp)) hp
 obtain ⟨q0,c0,rfl,hmx⟩:=h.gr.shape
 have hfi:=fun (W:World) (m:Mod [] w W) (i:Int)=>rfind_any (h.gr.mod m (by simp)) i
 have hla:=fun (W:World) (m:Mod [] w W)=>rlast_any (hs.mod m (by simp))
 have hlb:=fun (W:World) (m:Mod [] w W)=>rlast_any (ht.mod m (by simp))
 have hsm:=fun (W:World) (m:Mod [] w W)=>rsame_any (w:=W) (a:=⟨nx,bo,lo,lv.map Prod.fst⟩) (b:=Bk.new) (l2:=[]) (base2:=0) (q2:=none) (n2:=0) (c2:=0) ⟨h.gr.mod m (by simp),rfl⟩ ⟨GrM.nil _ _,rfl⟩
 obtain ⟨E,hE⟩:∃ E,(applyB ⟨nx,bo,lo,lv.map Prod.fst⟩ ⟨kd,⟨gi,gh,gp,gm,gs,gt⟩,ri,rs,rn,rb,rl⟩).2=E:=⟨_,rfl⟩
 rw [hE]
 obtain ⟨V,hV⟩:∃ V,validB ⟨nx,bo,lo,lv.map Prod.fst⟩=V:=⟨_,rfl⟩
 obtain ⟨M,hM⟩:∃ M,mayB ⟨kd,⟨gi,gh,gp,gm,gs,gt⟩,ri,rs,rn,rb,rl⟩=M:=⟨_,rfl⟩
 rw [hV] at hval
 rw [hM] at hmay
 obtain ⟨CB,hCB⟩:∃ CB:Array Value,CB=#[.int .i64 nx,.int .i64 bo,.int .i64 lo,.slice q0 lv.length c0]:=⟨_,rfl⟩
 obtain ⟨CR,hCR⟩:∃ CR:Array Value,CR=#[.int .i64 kd,.int .i64 gi,.int .i64 gh,.string gp,.int .i64 gm,.slice q1 gs.length c1,.int .i64 gt,.int .i64 ri,.slice q2 rs.length c2,.int .i64 rn,.int .i64 rb,.int .i64 rl]:=⟨_,rfl⟩
 obtain ⟨W0,hW0⟩:∃ W0,W0=(w.alloc (.cells CB 34 (0,0))).alloc (.cells CR 42 (0,0)):=⟨_,rfl⟩
 have hb0:W0.heap[w.heap.size]?=some (.cells CB 34 (0,0)):=by rw [hW0];exact blk_alloc (heap_alloc_new w _) _
 have hr0:W0.heap[w.heap.size+1]?=some (.cells CR 42 (0,0)):=by
  rw [hW0]
  have:=heap_alloc_new (w.alloc (.cells CB 34 (0,0))) (.cells CR 42 (0,0))
  simpa using this
 have hm0:Mod [] w W0:=by rw [hW0];exact ((Mod.refl _ _).alloc _).alloc _
 have hF:∀ W,Mod [] W0 W→(∀ i,W.cell? ⟨w.heap.size,i,none⟩=CB[i]?)∧(∀ i,W.cell? ⟨w.heap.size+1,i,none⟩=CR[i]?):=fun W m=>⟨blk_cell (m.at_ hb0 (by simp)),blk_cell (m.at_ hr0 (by simp))⟩
 rw [hCB,hCR] at hF hW0
 clear hb0 hr0 hCB hCR
 have HF:=hide hF
 have HE:=Hj3 hE hV hM
 have HM:=hide hm0
 clear hE hV hF hm0 hs ht h hps hp
 unfold aggB at hval hsm ⊢
 unfold aggR cellsR at hmay ⊢
 simp only at hval hmay hsm ⊢
 have hmx':lv.length≤9223372036854775807:=hmx
 go_enter Tryz.func54,Tryz.ntmps54
 go_upto_region 1 with fail
 rw [← hW0]
 clear hW0
 obtain ⟨B0,B1⟩:=HF.out _ (Mod.refl _ _)
 cases V with
 | false =>
   clear hM
   go_wp2_with (first
    | (go_at_call 88;refine (hval _ HM.out).mono ?_;rintro e w3 ⟨rfl,m3⟩;have H3:=hide m3;clear m3)
    | fail)
   go_ret
   exact ⟨by rw [← HE.out.1,apply_bad (.inl HE.out.2.1)];rfl,HM.out.then H3.out⟩
 | true =>
 cases M with
 | false =>
   clear hM
   go_wp2_with (first
    | (go_at_call 88;refine (hval _ HM.out).mono ?_;rintro e w3 ⟨rfl,m3⟩;obtain ⟨B2,B3⟩:=HF.out _ m3;have H3:=hide m3;clear m3)
    | (go_at_call 89;refine (hmay _ (HM.out.then H3.out)).mono ?_;rintro e w4 ⟨rfl,m4⟩;have H4:=hide (H3.out.then m4);clear m4)
    | fail)
   go_ret
   exact ⟨by rw [← HE.out.1,apply_bad (.inr HE.out.2.2)];rfl,HM.out.then H4.out⟩
 | true =>
 have hk:=may_kind7 hM
 simp only at hk
 clear hM
 go_upto_region 3 with (first
  | (go_at_call 88;refine (hval _ HM.out).mono ?_;rintro e w3 ⟨rfl,m3⟩;obtain ⟨B2,B3⟩:=HF.out _ m3;have H3:=hide m3;clear m3)
  | (go_at_call 89;refine (hmay _ (HM.out.then H3.out)).mono ?_;rintro e w4 ⟨rfl,m4⟩;obtain ⟨B4,B5⟩:=HF.out _ (H3.out.then m4);have H4:=hide (H3.out.then m4);clear m4 B2 B3)
  | fail)
 clear hval hmay B0 B1 H3
 have hend:∀ {W:World} {v:Int},Mod [] w4 W→(if limitI ⟨nx,bo,lo,lv.map Prod.fst⟩ kd≠0 then limitI ⟨nx,bo,lo,lv.map Prod.fst⟩ kd else if (changeB ⟨nx,bo,lo,lv.map Prod.fst⟩ ⟨kd,⟨gi,gh,gp,gm,gs,gt⟩,ri,rs,rn,rb,rl⟩).isSome=true then 0 else 43)=v→Ending.returned (.int .i64 v)=.returned (.int .i64 E)∧Mod [] w W:=fun m e=>⟨by rw [← HE.out.1,fault_rest HE.out.2.1 HE.out.2.2,e],(HM.out.then H4.out).then m⟩
 have hfi4:=hfi _ (HM.out.then H4.out) ri
 obtain ⟨T,hT⟩:∃ T,hasG (lv.map Prod.fst) ri=T:=⟨_,rfl⟩
 obtain ⟨LA,hLA⟩:∃ L,lastI gs=L:=⟨_,rfl⟩
 obtain ⟨LB,hLB⟩:∃ L,lastI rs=L:=⟨_,rfl⟩
 rw [hLA] at hla
 rw [hLB] at hlb
 rcases hk with rfl | rfl | rfl | rfl | rfl | rfl | rfl
 · go_upto_region 12 with (first
    | (go_at_call 57;refine hfi4.mono ?_;rintro e w5 ⟨hf,hx⟩;rw [hx];clear hx;obtain ⟨i,rfl,-,-⟩:=find_has hf;clear hf)
    | fail)
   obtain ⟨S,hS⟩:∃ S,decide ((⟨nx,bo,lo,lv.map Prod.fst⟩:Bk)=Bk.new)=S:=⟨_,rfl⟩
   rw [hS] at hsm
   refine pB 999 (Mod [] w4) ((Mod.refl [] w4).drew) ?_
   refine pH 0 rfl (fun w h=>by obtain ⟨C0,C1⟩:=HF.out _ (H4.out.then h);go_simp;try with_reducible rfl) ?_
   refine pX 1 fun hT K HK=>?_
   go_simp
   refine (rnew_any _).mono ?_;rintro e x7 ⟨rfl,m7⟩
   refine HK.out _ _ _ (hT.then m7) ?_
   clear HK K hT m7
   refine pX 2 fun hT K HK=>?_
   go_simp
   refine (hsm _ ((HM.out.then H4.out).then hT)).mono ?_;rintro e x8 ⟨rfl,m8⟩
   refine HK.out _ _ _ (hT.then m8) ?_
   clear HK K hT m8 x7
   refine pP 3 ?_;refine pP 4 ?_
   refine pE fun hT=>?_
   cases S
   all_goals
    go_wp2_with fail
    go_ret
    exact hend hT (by simp at hS;simp [limitI,changeB,hS])
 · have hcl:rl≤lo∨lo<rl:=by omega
   rcases hcl with hc | hc
   · have hd:decide (rl≤lo)=true:=decide_eq_true hc
     go_wp2_with (first
      | (go_at_call 57;refine hfi4.mono ?_;rintro e w5 ⟨hf,hx⟩;rw [hx];clear hx;obtain ⟨i,rfl,-,-⟩:=find_has hf;clear hf)
      | fail)
     go_ret
     exact hend (Mod.refl _ _) (by simp [limitI,changeB,show ¬ lo<rl by omega])
   · have hd:decide (rl≤lo)=false:=decide_eq_false (by omega)
     go_wp2_with (first
      | (go_at_call 57;refine hfi4.mono ?_;rintro e w5 ⟨hf,hx⟩;rw [hx];clear hx;obtain ⟨i,rfl,-,-⟩:=find_has hf;clear hf)
      | fail)
     go_ret
     exact hend (Mod.refl _ _) (by simp [limitI,changeB,hc])
 · by_cases h6:lv.length=6
   · have hd:((lv.length:Int)==6)=true:=by simp;omega
     go_wp2_with fail
     go_ret
     exact hend (Mod.refl _ _) (by simp [limitI,h6])
   · have hd:((lv.length:Int)==6)=false:=by simp;omega
     go_upto_region 16 with (first
      | (go_at_call 57;refine hfi4.mono ?_;rintro e w5 ⟨hf,hx⟩;rw [hx];clear hx;obtain ⟨i,rfl,-,-⟩:=find_has hf;clear hf)
      | fail)
     obtain ⟨S,hS⟩:∃ S,hasG (lv.map Prod.fst) gi=S:=⟨_,rfl⟩
     refine pB 999 (Mod [] w4) ((Mod.refl [] w4).drew) ?_
     refine pP 0 ?_
     refine pH 1 rfl (fun w h=>by obtain ⟨C0,C1⟩:=HF.out _ (H4.out.then h);go_simp;try with_reducible rfl) ?_
     refine pP 2 ?_;refine pP 3 ?_
     refine pH 4 rfl (fun w h=>by obtain ⟨C0,C1⟩:=HF.out _ (H4.out.then h);go_simp;try with_reducible rfl) ?_
     refine pX 5 fun hT K HK=>?_
     go_simp
     refine (hfi _ ((HM.out.then H4.out).then hT) gi).mono ?_;rintro e x7 ⟨hf,hx⟩
     rw [hx]
     obtain ⟨i2,rfl,hi2,-⟩:=find_has hf
     rw [hS] at hi2
     refine HK.out _ _ _ hT ?_
     clear HK K hT hf hx x7
     cases S with
     | true =>
       refine pP 6 ?_;refine pP 7 ?_;refine pN 8 ?_;refine pN 9 ?_;refine pN 10 ?_;refine pN 11 ?_;refine pN 12 ?_;refine pN 13 ?_;refine pN 14 ?_;refine pP 15 ?_;refine pP 16 ?_
       refine pE fun hT=>?_
       go_wp2_with fail
       go_ret
       exact hend hT (by simp [limitI,changeB,h6,hS])
     | false =>
       refine pP 6 ?_;refine pP 7 ?_;refine pP 8 ?_;refine pP 9 ?_
       refine pH 10 rfl (fun w h=>by obtain ⟨C0,C1⟩:=HF.out _ (H4.out.then h);go_simp;try with_reducible rfl) ?_
       refine pP 12 ?_
       refine pH 13 rfl (fun w h=>by obtain ⟨C0,C1⟩:=HF.out _ (H4.out.then h);go_simp;try with_reducible rfl) ?_
       refine pX 11 fun hT K HK=>?_
       go_simp
       refine (hla _ ((HM.out.then H4.out).then hT)).mono ?_;rintro e x7 ⟨rfl,hx⟩
       rw [hx]
       refine HK.out _ _ _ hT ?_
       clear HK K hT hx x7
       by_cases hn:nx≤LA
       · have hd2:decide (nx≤LA)=true:=decide_eq_true hn
         refine pP 14 ?_;refine pP 15 ?_;refine pP 16 ?_
         refine pE fun hT=>?_
         go_wp2_with fail
         go_ret
         exact hend hT (by simp [limitI,changeB,h6,hS,hLA,show ¬ LA<nx by omega])
       · have hd2:decide (nx≤LA)=false:=decide_eq_false hn
         refine pP 14 ?_;refine pP 15 ?_;refine pP 16 ?_
         refine pE fun hT=>?_
         go_wp2_with fail
         go_ret
         exact hend hT (by simp [limitI,changeB,h6,hS,hLA,show LA<nx by omega])
 · by_cases hn:1099511627776<nx
   · have hd0:decide (1099511627776<nx)=true:=decide_eq_true hn
     go_wp2_with fail
     go_ret
     exact hend (Mod.refl _ _) (by simp [limitI,hn])
   · have hd0:decide (1099511627776<nx)=false:=decide_eq_false hn
     by_cases h6:lv.length=6
     · have hd:((lv.length:Int)==6)=true:=by simp;omega
       go_wp2_with fail
       go_ret
       exact hend (Mod.refl _ _) (by
        have e:limitI ⟨nx,bo,lo,lv.map Prod.fst⟩ 4=51:=by unfold limitI;rw [if_neg (by simp only;omega),if_pos (by simp [h6])]
        rw [e];rfl)
     · have hd:((lv.length:Int)==6)=false:=by simp;omega
       by_cases hg:gi=nx
       · have hd1:(gi==nx)=true:=by simpa using hg
         go_wp2_with (first
          | (go_at_call 57;refine hfi4.mono ?_;rintro e w5 ⟨hf,hx⟩;rw [hx];clear hx;obtain ⟨i,rfl,-,-⟩:=find_has hf;clear hf)
          | fail)
         go_ret
         exact hend (Mod.refl _ _) (by simp [limitI,changeB,h6,hn,hg])
       · have hd1:(gi==nx)=false:=by simpa using hg
         go_wp2_with (first
          | (go_at_call 57;refine hfi4.mono ?_;rintro e w5 ⟨hf,hx⟩;rw [hx];clear hx;obtain ⟨i,rfl,-,-⟩:=find_has hf;clear hf)
          | fail)
         go_ret
         exact hend (Mod.refl _ _) (by simp [limitI,changeB,h6,hn,hg])
 · by_cases hn:1099511627776<nx
   · have hd0:decide (1099511627776<nx)=true:=decide_eq_true hn
     go_wp2_with fail
     go_ret
     exact hend (Mod.refl _ _) (by simp [limitI,hn])
   · have hd0:decide (1099511627776<nx)=false:=decide_eq_false hn
     cases T with
     | false =>
       go_upto_region 20 with (first
        | (go_at_call 57;refine hfi4.mono ?_;rintro e w5 ⟨hf,hx⟩;rw [hx];clear hx;obtain ⟨i,rfl,hi,-⟩:=find_has hf;rw [hT] at hi;clear hf)
        | fail)
       refine pB 999 (Mod [] w4) ((Mod.refl [] w4).drew) ?_
       refine pP 0 ?_;refine pP 1 ?_;refine pP 2 ?_;refine pN 3 ?_;refine pN 4 ?_;refine pN 5 ?_;refine pN 6 ?_;refine pN 7 ?_;refine pN 8 ?_;refine pP 9 ?_;refine pP 10 ?_
       refine pE fun hT=>?_
       go_wp2_with fail
       go_ret
       exact hend hT (by simp [limitI,changeB,hn,‹hasG _ _=false›])
     | true =>
       go_upto_region 20 with (first
        | (go_at_call 57;refine hfi4.mono ?_;rintro e w5 ⟨hf,hx⟩;rw [hx];clear hx;obtain ⟨i,rfl,hi,-⟩:=find_has hf;rw [hT] at hi;clear hf)
        | fail)
       refine pB 999 (Mod [] w4) ((Mod.refl [] w4).drew) ?_
       refine pP 0 ?_;refine pP 1 ?_;refine pP 2 ?_;refine pP 3 ?_
       refine pH 4 rfl (fun w h=>by obtain ⟨C0,C1⟩:=HF.out _ (H4.out.then h);go_simp;try with_reducible rfl) ?_
       refine pP 6 ?_
       refine pH 7 rfl (fun w h=>by obtain ⟨C0,C1⟩:=HF.out _ (H4.out.then h);go_simp;try with_reducible rfl) ?_
       refine pX 5 fun hT K HK=>?_
       go_simp
       refine (hlb _ ((HM.out.then H4.out).then hT)).mono ?_;rintro e x7 ⟨rfl,hx⟩
       rw [hx]
       refine HK.out _ _ _ hT ?_
       clear HK K hT hx x7
       by_cases hl:LB=nx
       · have hd1:(LB==nx)=true:=by simpa using hl
         refine pP 8 ?_;refine pP 9 ?_;refine pP 10 ?_
         refine pE fun hT=>?_
         go_wp2_with fail
         go_ret
         exact hend hT (by simp [limitI,changeB,hn,‹hasG _ _=true›,hLB,hl])
       · have hd1:(LB==nx)=false:=by simpa using hl
         refine pP 8 ?_;refine pP 9 ?_;refine pP 10 ?_
         refine pE fun hT=>?_
         go_wp2_with fail
         go_ret
         exact hend hT (by simp [limitI,changeB,hn,‹hasG _ _=true›,hLB,hl])
 · cases T
   all_goals
    go_wp2_with (first
     | (go_at_call 57;refine hfi4.mono ?_;rintro e w5 ⟨hf,hx⟩;rw [hx];clear hx;obtain ⟨i,rfl,hi,-⟩:=find_has hf;rw [hT] at hi;clear hf)
     | fail)
    go_ret
    exact hend (Mod.refl _ _) (by simp [limitI,changeB,hT])
 · by_cases hb:bo=1099511627776
   · have hd1:(bo==1099511627776)=true:=by simpa using hb
     go_wp2_with fail
     go_ret
     exact hend (Mod.refl _ _) (by simp [limitI,hb])
   · have hd1:(bo==1099511627776)=false:=by simpa using hb
     go_wp2_with (first
      | (go_at_call 57;refine hfi4.mono ?_;rintro e w5 ⟨hf,hx⟩;rw [hx];clear hx;obtain ⟨i,rfl,-,-⟩:=find_has hf;clear hf)
      | fail)
     go_ret
     exact hend (Mod.refl _ _) (by simp [limitI,changeB,hb])
end Go.Proofs.YtpphoeimakjjdaaGreatDoor
/-
  WALKS: the document's layer 11: Apply: what a record does.
-/
namespace Go.Proofs.YtpphoeimakjjdaaGreatDoor
set_option maxRecDepth 100000
set_option maxHeartbeats 4000000
open Go.RowKit

theorem row_not {w:World} {base sz n b:Nat} {T T':TypeId} {v:Value} {xs:List Value} {cs:Array Value} {fr:Nat × Nat} (h:w.ownsRow base T sz v n xs) (hb:w.heap[b]?=some (.cells cs T' fr)) (hT:T'≠T):b ∉ ob v:=by
 intro hm
 rcases h.2 with ⟨rfl,-⟩ | ⟨g,cap,cur,rfl,_,hg,_⟩
 · simp [ob,Value.ownBlock] at hm
 · simp only [ob,Value.ownBlock,Option.toList,List.mem_singleton] at hm
   subst hm
   rw [hb] at hg
   simp only [Option.some.injEq,Obj.cells.injEq] at hg
   exact hT hg.2.1
theorem GrM.other {w w':World} {base:Nat} {v:Value} {lv:List (Grt × Value)} (h:GrM w base v lv) {S:List Nat} (m:Mod S w w') (hS:∀ k,k∈S→∃ cs,w.heap[k]?=some (.cells cs 34 (0,0))):GrM w' base v lv:=by
 refine ⟨m.row h.row (fun k hk e=>?_),fun p hp=>⟨m.row (h.st p hp).1 (fun k hk e=>?_),(h.st p hp).2⟩⟩
 · obtain ⟨cs,hb⟩:=hS k e
   exact row_not h.row hb (by decide) (by simp [ob,hk])
 · obtain ⟨cs,hb⟩:=hS k e
   exact row_not (h.st p hp).1 hb (by decide) (by simp [ob,hk])
theorem apply_zero2 {b:Bk} {r:Rcd} (h:(applyB b r).2≠0):applyB b r=(Bk.zero,(applyB b r).2):=by
 unfold applyB at h ⊢
 split
 · rfl
 · split
   · rfl
   · rename_i h1 h2
     rw [if_neg h1,if_neg h2] at h
     cases hc:changeB b r with
     | none=>rfl
     | some c=>rw [hc] at h;exact absurd rfl h
theorem apply_ok {b:Bk} {r:Rcd} (h:(applyB b r).2=0):∃ c,applyB b r=(c,0)∧changeB b r=some c∧validB b=true∧mayB r=true∧limitI b r.kind=0:=by
 unfold applyB at h ⊢
 split
 · rename_i h1
   rw [if_pos h1] at h
   cases h
 · rename_i h1
   rw [if_neg h1] at h
   have h1':validB b=true∧mayB r=true:=by
    cases hv:validB b <;> cases hm:mayB r <;> simp [hv,hm] at h1 ⊢
   split
   · rename_i h2
     rw [if_pos h2] at h
     exact absurd h h2
   · rename_i h2
     rw [if_neg h2] at h
     cases hc:changeB b r with
     | none=>rw [hc] at h;cases h
     | some c=>exact ⟨c,rfl,rfl,h1'.1,h1'.2,by simpa using h2⟩
theorem chg_of {b c:Bk} {r:Rcd} (h:changeB b r=some c):(r.kind=1→c={ b with next:=r.next,boots:=r.boots })∧(r.kind=2→c={ b with longest:=r.longest })∧(r.kind=3→c={ b with grants:=putG b.grants r.grant })∧(r.kind=4→c={ b with next:=b.next+1,grants:=putG b.grants r.grant }) ∧
 (r.kind=5→c={ b with next:=b.next+1,grants:=setG b.grants r.id r.stamp }∧hasG b.grants r.id=true)∧(r.kind=6→c={ b with grants:=delG b.grants r.id }∧hasG b.grants r.id=true)∧(r.kind=7→c={ b with boots:=b.boots+1 }):=by
 unfold changeB at h
 refine ⟨fun k=>?_,fun k=>?_,fun k=>?_,fun k=>?_,fun k=>?_,fun k=>?_,fun k=>?_⟩
 all_goals rw [k] at h;simp at h
 · exact h.2.symm
 · exact h.2.symm
 · exact h.2.symm
 · exact h.2.symm
 · exact ⟨h.2.symm,h.1.1⟩
 · exact ⟨h.2.symm,h.1⟩
 · exact h.symm
theorem may_grant_stm {r:Rcd} (h:mayB r=true) (hk:r.kind=3∨r.kind=4):stmB r.grant.stamp=true:=by
 unfold mayB at h
 rcases hk with hk | hk
 all_goals rw [hk] at h;simp at h
 · exact (grant_iff.1 h.1).2.2.2.2.1
 · exact (grant_iff.1 h.2.1).2.2.2.2.1
theorem may_stm5 {r:Rcd} (h:mayB r=true) (hk:r.kind=5):stmB r.stamp=true:=by
 unfold mayB at h
 rw [hk] at h
 simp at h
 exact h.2.1
theorem pos_eqR {l:List Grt} (hs:SrtG l) {k:Nat} {id:Int} (hk:k<l.length) (h:(l.getD k default).id=id):posG l id=k:=by
 refine posG_at (by omega) (fun j hj=>?_) (fun _=>by rw [h];omega)
 have:=List.pairwise_iff_getElem.1 hs j k (by omega) hk hj
 rw [← h]
 simpa [show j<l.length by omega,hk] using this
theorem AppTo.done {w w6 wf:World} {base b7 z:Nat} {t:Bk × Int} {u:Value} {nx bo lo:Int} {lv:List (Grt × Value)} {gs:List Grt} (ht:t=(⟨nx,bo,lo,gs⟩,0)) (h:GrM w6 base u lv) (he:gs=lv.map Prod.fst) (hbase:w.heap.size≤base) (m6:Mod [] w w6) (mS:Mod [b7,z] w6 wf)
 {c7 cz:Array Value} (h7:w6.heap[b7]?=some (.cells c7 34 (0,0))) (hz:w6.heap[z]?=some (.cells cz 34 (0,0))) (hb7:w.heap.size≤b7) (hbz:w.heap.size≤z) :
 AppTo w t (.returned (.tuple #[.agg #[.int .i64 nx,.int .i64 bo,.int .i64 lo,u],.int .i64 0])) wf:=by
 subst ht
 refine ⟨u,lv,rfl,⟨(h.other mS (fun k hk=>?_)).base hbase,he⟩,mod_fresh0 m6 mS (fun k hk=>?_)⟩
 · simp only [List.mem_cons,List.mem_nil_iff,or_false] at hk
   rcases hk with rfl | rfl
   · exact ⟨_,h7⟩
   · exact ⟨_,hz⟩
 · simp only [List.mem_cons,List.mem_nil_iff,or_false] at hk
   rcases hk with rfl | rfl
   · exact hb7
   · exact hbz
set_option linter.unusedSimpArgs false in
theorem rapply_any {w:World} {base:Nat} {gv sv tv:Value} {b:Bk} {lv:List (Grt × Value)} {r:Rcd} (h:BkM w base gv b lv) (hps:∀ p,p∈lv→p.1.path.size≤9223372036854775806) (hs:RdN w sv r.grant.stamp) (ht:RdN w tv r.stamp) (hp:r.grant.path.size≤9223372036854775806) :
 Calls Tryz.prog 18 #[aggB b gv,aggR r sv tv] w fun e w'=>AppTo w (applyB b r) e w':=by
 have hfa:=fun (W:World) (m:Mod [] w W)=>rfault_any (b:=b) ⟨h.gr.mod m (by simp),h.eq⟩ hps (hs.mod m (by simp)) (ht.mod m (by simp)) hp
 obtain ⟨kd,⟨gi,gh,gp,gm,gs,gt⟩,ri,rs,rn,rb,rl⟩:=r
 obtain ⟨nx,bo,lo,bg⟩:=b
 simp only at hs ht hp
 obtain rfl:bg=lv.map Prod.fst:=h.eq
 obtain ⟨q2,c2,rfl⟩:=ht.len
 obtain ⟨q1,c1,rfl⟩:=hs.len
 obtain ⟨q0,c0,rfl,hmx⟩:=h.gr.shape
 obtain ⟨F,hF⟩:∃ F,(applyB ⟨nx,bo,lo,lv.map Prod.fst⟩ ⟨kd,⟨gi,gh,gp,gm,gs,gt⟩,ri,rs,rn,rb,rl⟩).2=F:=⟨_,rfl⟩
 rw [hF] at hfa
 obtain ⟨CB,hCB⟩:∃ CB:Array Value,CB=#[.int .i64 nx,.int .i64 bo,.int .i64 lo,.slice q0 lv.length c0]:=⟨_,rfl⟩
 obtain ⟨CR,hCR⟩:∃ CR:Array Value,CR=#[.int .i64 kd,.int .i64 gi,.int .i64 gh,.string gp,.int .i64 gm,.slice q1 gs.length c1,.int .i64 gt,.int .i64 ri,.slice q2 rs.length c2,.int .i64 rn,.int .i64 rb,.int .i64 rl]:=⟨_,rfl⟩
 obtain ⟨W0,hW0⟩:∃ W0,W0=((w.alloc (.cells CB 34 (0,0))).alloc (.cells CR 42 (0,0))).alloc (.cells #[.int .i64 0,.int .i64 0,.int .i64 0,.slice none 0 0] 34 (0,0)):=⟨_,rfl⟩
 have hb0:W0.heap[w.heap.size]?=some (.cells CB 34 (0,0)):=by rw [hW0];exact blk_alloc (blk_alloc (heap_alloc_new w _) _) _
 have hr0:W0.heap[w.heap.size+1]?=some (.cells CR 42 (0,0)):=by
  rw [hW0]
  have:=heap_alloc_new (w.alloc (.cells CB 34 (0,0))) (.cells CR 42 (0,0))
  exact blk_alloc (by simpa using this) _
 have hz0:W0.heap[w.heap.size+2]?=some (.cells #[.int .i64 0,.int .i64 0,.int .i64 0,.slice none 0 0] 34 (0,0)):=by
  rw [hW0]
  exact alloc_hereA (by simp)
 have hm0:Mod [] w W0:=by rw [hW0];exact (((Mod.refl _ _).alloc _).alloc _).alloc _
 have hF0:∀ W,Mod [] W0 W→(∀ i,W.cell? ⟨w.heap.size,i,none⟩=CB[i]?)∧(∀ i,W.cell? ⟨w.heap.size+1,i,none⟩=CR[i]?)∧W.heap[w.heap.size+2]?=some (.cells #[.int .i64 0,.int .i64 0,.int .i64 0,.slice none 0 0] 34 (0,0)):=fun W m=>⟨blk_cell (m.at_ hb0 (by simp)),blk_cell (m.at_ hr0 (by simp)),m.at_ hz0 (by simp)⟩
 have hs0:w.heap.size+3=W0.heap.size:=by rw [hW0];simp
 rw [hCB,hCR] at hF0 hW0
 clear hb0 hr0 hz0 hCB hCR
 have HF:=hide hF0
 have HM:=Hj2 hm0 hs0
 have hfa0:=hfa _ hm0
 have hcp:=fun (W:World) (m:Mod [] w W) (hn:lv.length≤1000) (hst:∀ p,p∈lv→p.1.stamp.length * 8≤140737488355328)=>rcopyB_any (b:=⟨nx,bo,lo,lv.map Prod.fst⟩) ⟨h.gr.mod m (by simp),rfl⟩ hn hst
 have HS:=Hj2 hs ht
 clear hF0 hm0 hs0 hs ht h hps hp hfa
 unfold aggB aggR cellsR at hfa0
 unfold aggB aggR cellsR
 simp only at hfa0 hcp ⊢
 go_enter Tryz.func18,Tryz.ntmps18
 go_upto_region 1 with fail
 rw [← hW0]
 clear hW0
 obtain ⟨B0,B1,-⟩:=HF.out _ (Mod.refl _ _)
 by_cases h0:F=0
 · subst h0
   obtain ⟨c,hA,hC,hV,hM,hL⟩:=apply_ok hF
   have hsm:=valid_small hV rfl
   have hk:=may_kind7 hM
   simp only at hk
   have HA:=Hj5 hA hC hM hsm hV
   clear hA hC hV hM hL hF
   go_upto_region 5 with (first
    | (go_at_call 54;refine hfa0.mono ?_;rintro e w3 ⟨rfl,m3⟩
       obtain ⟨B2,B3,-⟩:=HF.out _ m3
       have hcp3:=hcp _ (HM.out.1.then m3) (by have:=HA.out.2.2.2.1.1;omega) (fun p hp=>by have:=(HA.out.2.2.2.1.2 p hp).1;omega)
       have H3:=hide m3
       clear m3 B0 B1 hcp)
    | (go_at_call 55;refine hcp3.mono ?_;rintro e w4 ⟨q4,n4,c4,l4,rfl,hbk,m4⟩
       obtain ⟨q',c',hv,hx4⟩:=hbk.gr.shape
       simp only [Value.slice.injEq] at hv
       obtain ⟨rfl,rfl,rfl⟩:=hv
       have H4:=Hj2 hbk m4
       clear hbk m4 hcp3 B2 B3)
    | fail)
   have hz3:=H3.out.size
   have hz4:=H4.out.2.size
   have hzz:=HM.out.2
   obtain ⟨W5,hW5⟩:∃ W5,W5=w4.alloc (.cells #[.int .i64 nx,.int .i64 bo,.int .i64 lo,.slice q4 l4.length c4] 34 (0,0)):=⟨_,rfl⟩
   have hb5:W5.heap[w4.heap.size]?=some (.cells #[.int .i64 nx,.int .i64 bo,.int .i64 lo,.slice q4 l4.length c4] 34 (0,0)):=by rw [hW5];exact heap_alloc_new w4 _
   have m45:Mod [] w4 W5:=by rw [hW5];exact (Mod.refl _ _).alloc _
   have hgm5:GrM W5 w3.heap.size (.slice q4 l4.length c4) l4:=H4.out.1.gr.mod m45 (by simp)
   have heq4:lv.map Prod.fst=l4.map Prod.fst:=H4.out.1.eq
   have m05:Mod [] W0 W5:=(H3.out.then H4.out.2).then m45
   have hF5:∀ W,Mod [] W5 W→(∀ i,W.cell? ⟨w4.heap.size,i,none⟩=(#[.int .i64 nx,.int .i64 bo,.int .i64 lo,.slice q4 l4.length c4]:Array Value)[i]?)∧(∀ i,W.cell? ⟨w.heap.size+1,i,none⟩=(#[.int .i64 kd,.int .i64 gi,.int .i64 gh,.string gp,.int .i64 gm,.slice q1 gs.length c1,.int .i64 gt,.int .i64 ri,.slice q2 rs.length c2,.int .i64 rn,.int .i64 rb,.int .i64 rl]:Array Value)[i]?)∧(∀ i,W.frozen? ⟨w4.heap.size,i,none⟩=false) ∧
    (∀ i,W.frozen? ⟨w.heap.size+2,i,none⟩=false)∧(∀ i,W.cell? ⟨w.heap.size+2,i,none⟩=(#[.int .i64 0,.int .i64 0,.int .i64 0,.slice none 0 0]:Array Value)[i]?):=fun W m=>⟨blk_cell (m.at_ hb5 (by simp)),(HF.out _ (m05.then m)).2.1,blk_free (m.at_ hb5 (by simp)),blk_free (HF.out _ (m05.then m)).2.2,blk_cell (HF.out _ (m05.then m)).2.2⟩
   have HF5:=hide hF5
   have H5:=Hj5 hgm5 heq4 (HM.out.1.then m05) hb5 m05
   have hn4:l4.length≤6:=by have:=congrArg List.length heq4;simp only [List.length_map] at this;have:=HA.out.2.2.2.1.1;omega
   have hne:w4.heap.size≠w.heap.size+2:=by omega
   have hne1:w4.heap.size≠w.heap.size+1:=by omega
   rw [← hW5]
   clear hfa0 hF5 m45 hgm5 heq4 m05 hb5 hW5
   obtain ⟨B5,B6,B7,B8,B9⟩:=HF5.out _ (Mod.refl _ _)
   have hcl:∀ (W6 Wp:World) (base:Nat) (u:Value) (nx' bo' lo':Int) (l:List (Grt × Value)) (gs':List Grt),Mod [w4.heap.size] W6 Wp→Mod [] w W6→(∃ cs,W6.heap[w4.heap.size]?=some (.cells cs 34 (0,0)))→W6.heap[w.heap.size+2]?=some (.cells #[.int .i64 0,.int .i64 0,.int .i64 0,.slice none 0 0] 34 (0,0))→c=⟨nx',bo',lo',gs'⟩→GrM W6 base u l→gs'=l.map Prod.fst→w.heap.size≤base →
    (stL Wp (w.heap.size+2) 0 [.int .i64 nx',.int .i64 bo',.int .i64 lo',u]).heap[w.heap.size+2]?=some (.cells #[.int .i64 nx',.int .i64 bo',.int .i64 lo',u] 34 (0,0))∧AppTo w (applyB ⟨nx,bo,lo,lv.map Prod.fst⟩ ⟨kd,⟨gi,gh,gp,gm,gs,gt⟩,ri,rs,rn,rb,rl⟩) (.returned (.tuple #[.agg #[.int .i64 nx',.int .i64 bo',.int .i64 lo',u],.int .i64 0])) (stL Wp (w.heap.size+2) 0 [.int .i64 nx',.int .i64 bo',.int .i64 lo',u]):=fun _ _ _ _ _ _ _ _ _ mp m h7 hz hc hg he hb =>
    ⟨stL_all (mp.at_ hz (by simp;omega)) _ rfl,AppTo.done (by rw [HA.out.1,hc]) hg he hb m (stL_mod (S:=[w4.heap.size,w.heap.size+2]) (fun _=>by simp) _ 0 _ (mp.mono (fun x hx _=>by simp at hx;simp [hx]))) h7.choose_spec hz (by omega) (by omega)⟩
   have hz5:=(HF.out _ H5.out.2.2.2.2).2.2
   have h75:=H5.out.2.2.2.1
   have HZ5:=Hj2 hz5 h75
   have HCL:=hide hcl
   clear hz5 h75 hcl
   have hchg:=chg_of HA.out.2.1
   simp only at hchg
   rcases hk with rfl | rfl | rfl | rfl | rfl | rfl | rfl
   · go_wp2_with fail
     have mp:Mod [w4.heap.size] W5 ((W5.setCell ⟨w4.heap.size,0,none⟩ (.int .i64 rn)).setCell ⟨w4.heap.size,1,none⟩ (.int .i64 rb)):=((Mod.refl _ _).setCell (fun _=>by simp) _).setCell (fun _=>by simp) _
     obtain ⟨q,ha⟩:=HCL.out _ _ _ _ _ _ _ _ _ mp H5.out.2.2.1 ⟨_,HZ5.out.2⟩ HZ5.out.1 (hchg.1 (by simp)) H5.out.1 H5.out.2.1 (by omega)
     exact bodyPost_ret (res_cell2 Tryz.results18 _ _ rfl q Tryz.isAgg34 Tryz.sizeOf34 rfl) rfl ha
   · go_wp2_with fail
     have mp:Mod [w4.heap.size] W5 (W5.setCell ⟨w4.heap.size,2,none⟩ (.int .i64 rl)):=(Mod.refl _ _).setCell (fun _=>by simp) _
     obtain ⟨q,ha⟩:=HCL.out _ _ _ _ _ _ _ _ _ mp H5.out.2.2.1 ⟨_,HZ5.out.2⟩ HZ5.out.1 (hchg.2.1 (by simp)) H5.out.1 H5.out.2.1 (by omega)
     exact bodyPost_ret (res_cell2 Tryz.results18 _ _ rfl q Tryz.isAgg34 Tryz.sizeOf34 rfl) rfl ha
   · have hgr:=may_grant_stm HA.out.2.2.1 (by simp)
     have hwi:=rwith_any (w:=W5) (g:=⟨gi,gh,gp,gm,gs,gt⟩) H5.out.1 (by omega) (by have:=lt_of_block HZ5.out.2;omega) (HS.out.1.mod H5.out.2.2.1 (by simp)) (by have:=(stm_range hgr).1;simp only at this ⊢;omega)
     unfold aggG cellsG at hwi
     simp only at hwi
     go_wp2_with (first
      | (go_at_call 56;refine hwi.mono ?_;rintro e W6 ⟨u6,s6,rfl,hmap,hgm6,-,m6⟩
         obtain ⟨q6,c6,rfl,hx6⟩:=hgm6.shape
         obtain ⟨D5,D6,D7,D8,D9⟩:=HF5.out _ m6
         have H6:=Hj3 hmap hgm6 m6
         clear hmap hgm6 m6 hwi B5 B6 B7 B8 B9)
      | fail)
     have mp:Mod [w4.heap.size] W6 (W6.setCell ⟨w4.heap.size,3,none⟩ (.slice q6 s6.length c6)):=(Mod.refl _ _).setCell (fun _=>by simp) _
     obtain ⟨q,ha⟩:=HCL.out _ _ _ _ _ _ _ _ _ mp (H5.out.2.2.1.then H6.out.2.2) ⟨_,H6.out.2.2.at_ HZ5.out.2 (by simp)⟩ (H6.out.2.2.at_ HZ5.out.1 (by simp)) (hchg.2.2.1 (by simp)) H6.out.2.1 (by rw [H6.out.1,← H5.out.2.1]) (by omega)
     exact bodyPost_ret (res_cell2 Tryz.results18 _ _ rfl q Tryz.isAgg34 Tryz.sizeOf34 rfl) rfl ha
   · have hgr:=may_grant_stm HA.out.2.2.1 (by simp)
     have hwi:=rwith_any (w:=W5) (g:=⟨gi,gh,gp,gm,gs,gt⟩) H5.out.1 (by omega) (by have:=lt_of_block HZ5.out.2;omega) (HS.out.1.mod H5.out.2.2.1 (by simp)) (by have:=(stm_range hgr).1;simp only at this ⊢;omega)
     unfold aggG cellsG at hwi
     simp only at hwi
     have hV:=heads_iff.1 (valid_iff.1 HA.out.2.2.2.2).1
     simp only at hV
     have hw:IntKind.i64.wrap (nx+1)=nx+1:=by rw [IntKind.wrap_i64];omega
     clear hV
     go_wp2_with (first
      | (go_at_call 56;refine hwi.mono ?_;rintro e W6 ⟨u6,s6,rfl,hmap,hgm6,-,m6⟩
         obtain ⟨q6,c6,rfl,hx6⟩:=hgm6.shape
         obtain ⟨D5,D6,D7,D8,D9⟩:=HF5.out _ m6
         have H6:=Hj3 hmap hgm6 m6
         clear hmap hgm6 m6 hwi B5 B6 B7 B8 B9)
      | fail)
     have mp:Mod [w4.heap.size] W6 ((W6.setCell ⟨w4.heap.size,3,none⟩ (.slice q6 s6.length c6)).setCell ⟨w4.heap.size,0,none⟩ (.int .i64 (nx+1))):=((Mod.refl _ _).setCell (fun _=>by simp) _).setCell (fun _=>by simp) _
     obtain ⟨q,ha⟩:=HCL.out _ _ _ _ _ _ _ _ _ mp (H5.out.2.2.1.then H6.out.2.2) ⟨_,H6.out.2.2.at_ HZ5.out.2 (by simp)⟩ (H6.out.2.2.at_ HZ5.out.1 (by simp)) (hchg.2.2.2.1 (by simp)) H6.out.2.1 (by rw [H6.out.1,← H5.out.2.1]) (by omega)
     exact bodyPost_ret (res_cell2 Tryz.results18 _ _ rfl q Tryz.isAgg34 Tryz.sizeOf34 rfl) rfl ha
   · have hV:=heads_iff.1 (valid_iff.1 HA.out.2.2.2.2).1
     simp only at hV
     have hw:IntKind.i64.wrap (nx+1)=nx+1:=by rw [IntKind.wrap_i64];omega
     clear hV
     obtain ⟨hc5,hhas⟩:=hchg.2.2.2.2.1 (by simp)
     have hst:=may_stm5 HA.out.2.2.1 rfl
     simp only at hst
     have hbc:=fun (W:World) (m:Mod [] W5 W)=>bcopy_any (HS.out.2.mod (H5.out.2.2.1.then m) (by simp)) (by have:=(stm_range hst).1;omega)
     have hfi:=rfind_any (w:=W5) H5.out.1 ri
     have hsrt:SrtG (l4.map Prod.fst):=by rw [← H5.out.2.1];exact okFrom_sorted (valid_iff.1 HA.out.2.2.2.2).2.2.2
     rw [H5.out.2.1] at hhas hc5
     have HC5:=Hj3 hc5 hsrt hhas
     clear hc5 hst hsrt hhas
     go_upto_region 18 with (first
      | (go_at_call 57;refine hfi.mono ?_;rintro e w5 ⟨hf,hx⟩;rw [hx];clear hx
         obtain ⟨i,rfl,hi,hik⟩:=find_has hf
         rw [HC5.out.2.2] at hi
         obtain ⟨k,rfl,hk,hid⟩:=hik (of_decide_eq_true hi)
         clear hf hi hik)
      | fail)
     obtain ⟨g4,hq4,hg4,hg4b,hc4,hf4,-⟩:=H5.out.1.at_ k hk
     subst hq4
     have hki:(k:Int)<(l4.length:Int):=by omega
     have hk0:(0:Int)≤(k:Int):=by omega
     have hrow:∀ W,Mod [] W5 W→W.cell? ⟨g4,k * 6+4,none⟩=some (l4.getD k default).2∧W.frozen? ⟨g4,k * 6+4,none⟩=false:=fun W m=>by
      obtain ⟨g',e',-,-,h1,h2,-⟩:=(H5.out.1.mod m (by simp)).at_ k hk
      simp only [Option.some.injEq,Addr.mk.injEq,and_true] at e'
      subst e'
      exact ⟨by rw [h1 4 (by decide)];rfl,h2 _⟩
     have HRW:=hide hrow
     have hlt4:g4<w4.heap.size:=by have:=(ob_of_row H4.out.1.gr.row g4 (by simp [ob,Value.ownBlock])).2;omega
     have h8s:=Mod.refl [] W5
     refine pB 8 (Mod [] W5) (h8s.drew) ?_
     clear hc4 hf4 hrow B5 B6 B7 B8 B9
     refine pP 0 ?_
     refine pT 1 rfl [6,7,8] (fun w h=>by obtain ⟨C0,C1,-⟩:=HF5.out _ h;go_simp;try with_reducible rfl) ?_
     refine pP 2 ?_;refine pP 3 ?_
     refine pT 4 rfl [5,8] (fun w h=>by obtain ⟨C0,C1,-⟩:=HF5.out _ h;go_simp;try with_reducible rfl) ?_
     refine pX 5 fun hT K HK=>?_
     go_simp
     refine (hbc _ hT).mono ?_;rintro e W6 ⟨v6,rfl,hown,m6⟩
     obtain ⟨q6,d6,hv6⟩:=(rdN_of_row hown).len
     subst hv6
     have hs6:=hT.size
     have hap:g4 ∉ ob (.slice q6 rs.length d6):=fun e=>by have:=(ob_of_row hown g4 e).1;have:=H5.out.2.2.2.1;have:=lt_of_block this;omega
     have H6:=Hj3 (World.ownsRow.mono hown (show w3.heap.size≤_ by have:=lt_of_block HZ5.out.2;omega)) hap (hT.then m6)
     refine HK.out _ _ _ (hT.then m6) ?_
     clear HK K hT hown m6 hap hs6
     refine pP 6 ?_;refine pP 7 ?_
     refine pY 8 fun hT K HK=>?_
     obtain ⟨k1,k2⟩:=HRW.out _ hT
     go_simp
     refine HK.out _ _ _ ?_
     clear HK K hT k1 k2
     refine pD ?_
     obtain ⟨W7,hW7⟩:∃ W7,W7=W6.setCell ⟨g4,k * 6+4,none⟩ (.slice q6 rs.length d6):=⟨_,rfl⟩
     rw [← hW7]
     have m67:Mod [g4] W6 W7:=by rw [hW7];exact (Mod.refl _ _).setCell (fun _=>by simp) _
     have hgm7:=GrM.setSt (H5.out.1.mod H6.out.2.2 (by simp)) hk H6.out.1 H6.out.2.1
     rw [← hW7] at hgm7
     have hb7:=m67.at_ (H6.out.2.2.at_ HZ5.out.2 (by simp)) (by simp;omega)
     have hz7:=m67.at_ (H6.out.2.2.at_ HZ5.out.1 (by simp)) (by simp;omega)
     have D5:=blk_cell hb7
     have D6:=blk_free hb7
     have D7:=blk_cell hz7
     have D8:=blk_free hz7
     have hpos:posG (l4.map Prod.fst) ri=k:=pos_eqR HC5.out.2.1 (by simpa using hk) (by rw [← hid];simp [hk])
     have H7:=Hj5 hgm7 hb7 hz7 m67 hpos
     clear hgm7 hb7 hz7 m67 hpos hW7
     go_wp2_with fail
     have mp:Mod [w4.heap.size] W7 (W7.setCell ⟨w4.heap.size,0,none⟩ (.int .i64 (nx+1))):=(Mod.refl _ _).setCell (fun _=>by simp) _
     obtain ⟨q,ha⟩:=HCL.out _ _ _ _ _ _ _ _ _ mp (mod_fresh0 (H5.out.2.2.1.then H6.out.2.2) H7.out.2.2.2.1 (by simp;omega)) ⟨_,H7.out.2.1⟩ H7.out.2.2.1 HC5.out.1 H7.out.1 (by rw [List.map_set,setG_get,H7.out.2.2.2.2];simp [hk]) (by omega)
     exact bodyPost_ret (res_cell2 Tryz.results18 _ _ rfl q Tryz.isAgg34 Tryz.sizeOf34 rfl) rfl ha
   · obtain ⟨hc6,hhas⟩:=hchg.2.2.2.2.2.1 (by simp)
     have hwo:=rwithout_any (w:=W5) H5.out.1 (by omega) (by have:=lt_of_block HZ5.out.2;omega) ri
     have hsrt:SrtG (l4.map Prod.fst):=by rw [← H5.out.2.1];exact okFrom_sorted (valid_iff.1 HA.out.2.2.2.2).2.2.2
     rw [H5.out.2.1] at hhas hc6
     rw [← delG_filter hsrt hhas] at hwo
     have HC6:=hide hc6
     clear hc6 hsrt hhas
     go_wp2_with (first
      | (go_at_call 59;refine hwo.mono ?_;rintro e W6 ⟨u6,s6,rfl,hmap,hgm6,-,m6⟩
         obtain ⟨q6,c6,rfl,hx6⟩:=hgm6.shape
         obtain ⟨D5,D6,D7,D8,D9⟩:=HF5.out _ m6
         have H6:=Hj3 hmap hgm6 m6
         clear hmap hgm6 m6 hwo B5 B6 B7 B8 B9)
      | fail)
     have mp:Mod [w4.heap.size] W6 (W6.setCell ⟨w4.heap.size,3,none⟩ (.slice q6 s6.length c6)):=(Mod.refl _ _).setCell (fun _=>by simp) _
     obtain ⟨q,ha⟩:=HCL.out _ _ _ _ _ _ _ _ _ mp (H5.out.2.2.1.then H6.out.2.2) ⟨_,H6.out.2.2.at_ HZ5.out.2 (by simp)⟩ (H6.out.2.2.at_ HZ5.out.1 (by simp)) HC6.out H6.out.2.1 H6.out.1.symm (by omega)
     exact bodyPost_ret (res_cell2 Tryz.results18 _ _ rfl q Tryz.isAgg34 Tryz.sizeOf34 rfl) rfl ha
   · have hV:=heads_iff.1 (valid_iff.1 HA.out.2.2.2.2).1
     simp only at hV
     have hw:IntKind.i64.wrap (bo+1)=bo+1:=by rw [IntKind.wrap_i64];omega
     clear hV
     go_wp2_with fail
     have mp:Mod [w4.heap.size] W5 (W5.setCell ⟨w4.heap.size,1,none⟩ (.int .i64 (bo+1))):=(Mod.refl _ _).setCell (fun _=>by simp) _
     obtain ⟨q,ha⟩:=HCL.out _ _ _ _ _ _ _ _ _ mp H5.out.2.2.1 ⟨_,HZ5.out.2⟩ HZ5.out.1 (hchg.2.2.2.2.2.2 (by simp)) H5.out.1 H5.out.2.1 (by omega)
     exact bodyPost_ret (res_cell2 Tryz.results18 _ _ rfl q Tryz.isAgg34 Tryz.sizeOf34 rfl) rfl ha
 · have hb:(F != 0)=true:=by simpa using h0
   have HZ:=Hj2 h0 hF
   clear h0 hF
   go_wp2_with (first
    | (go_at_call 54;refine hfa0.mono ?_;rintro e w3 ⟨rfl,m3⟩
       have hz3:=(HF.out _ m3).2.2
       have Z0:=blk_cell hz3
       have ZF:=blk_free hz3
       have H3:=Hj2 hz3 m3
       clear m3 B0 B1 hz3)
    | fail)
   have q:=stL_all H3.out.1 [.int .i64 0,.int .i64 0,.int .i64 0,.slice none 0 0] rfl
   have qm:=stL_mod (S:=[w.heap.size+2]) (w0:=w3) (r:=w.heap.size+2) (fun _=>by simp) [.int .i64 0,.int .i64 0,.int .i64 0,.slice none 0 0] 0 _ (Mod.refl _ _)
   exact bodyPost_ret (v:=.tuple #[.agg #[.int .i64 0,.int .i64 0,.int .i64 0,.slice none 0 0],.int .i64 F]) (res_cell2 Tryz.results18 _ _ rfl q Tryz.isAgg34 Tryz.sizeOf34 rfl) rfl (AppTo.zero (by rw [← HZ.out.2];exact apply_zero2 (by rw [HZ.out.2];exact HZ.out.1)) (HM.out.1.then H3.out.2) (by omega) qm)
end Go.Proofs.YtpphoeimakjjdaaGreatDoor
/-
  WALKS: the document's layer 11: nums; a row that bytes are put behind, with boxes beside it.
-/
namespace Go.Proofs.YtpphoeimakjjdaaGreatDoor
set_option maxRecDepth 100000
set_option maxHeartbeats 2000000
open Go.RowKit

def NsRel (w:World) (l:List Int) (v i:Value) (wr:World):Prop :=
 ∃ k:Nat,k≤l.length∧i=.int .i64 (k:Int)∧RowY wr w.heap.size v (numsB (l.take k))∧Mod [] w wr
theorem rnums_any {w:World} {u:Value} {l:List Int} (hu:RdN w u l) (hl:l.length≤1000) (hm:∀ n,n∈l→n≤9223372036854775807) :
 Calls Tryz.prog 99 #[u] w fun e w'=>RgY w (numsB l) e w':=by
 obtain ⟨p,c,rfl⟩:=hu.len
 have HU:=Hj2 hu hm
 clear hm hu
 go_enter Tryz.func99,Tryz.ntmps99
 go_wp2_with fail
 go_loopw [3,4] (fun v i wr=>NsRel w l v i wr) (fun _ i _=>l.length - (intOf i).toNat)
 case atStart=>exact ⟨0,Nat.zero_le _,rfl,by simpa [numsB] using RowY.nil _ _,Mod.refl _ _⟩
 case round =>
  obtain ⟨k,hk,rfl,hrow,hmd⟩:=hrel
  have hsz:=hmd.size
  by_cases hlt:k<l.length
  · obtain ⟨b1,o1,rfl,hb1,c1⟩:=(HU.out.1.mod hmd (by simp)).at_ k hlt
    have hx:=HU.out.2 (l.getD k 0) (by rw [List.getD_eq_getElem?_getD,List.getElem?_eq_getElem hlt];exact List.getElem_mem hlt)
    have ht:l.take (k+1)=l.take k++[l.getD k 0]:=by rw [List.take_add_one,List.getD_eq_getElem?_getD,List.getElem?_eq_getElem hlt];rfl
    generalize l.getD k 0=x at hx ht c1
    have hln:=numsB_le (l.take k)
    have hlx:=numB_len x
    have hln2:(l.take k).length≤1000:=by simp;omega
    have he:numsB (l.take (k+1))=numsB (l.take k)++numB x:=by rw [ht,numsB_snoc]
    generalize numsB (l.take k)=D at hrow hln he
    generalize (l.take k).length=m at hln hln2
    obtain ⟨qv,cv,rfl⟩:=hrow.rd.len
    have HE:=hide he
    have HD:=hide hmd
    have HRW:=hide hrow
    clear he ht hmd hrow
    have hnum:=fun (W:World)=>rgNum_any x hx W
    obtain ⟨dl,hdl⟩:∃ n,D.length=n:=⟨_,rfl⟩
    rw [hdl] at HRW hln ⊢
    have HDL:=hide hdl
    clear hdl
    go_wp2_with (first
     | (go_at_call 139;refine (hnum _).mono ?_;rintro e w1 ⟨v1,rfl,r1,m1⟩;have H1:=Hj2 r1 m1;clear hnum r1 m1)
     | (at_builtin
        refine wpList_app_rd _ rfl _ _ rfl rfl (HRW.out.mod H1.out.2 (by simp)) rfl H1.out.1.rd (by rw [HDL.out];omega) (by have:=H1.out.2.size;omega) ?_
        intro q3 c3 w3 r3 m3
        have H3:=Hj2 r3 m3
        clear r3 m3)
     | fail)
    go_roundw
    case rel=>exact ⟨k+1,by omega,by go_num,by rw [HE.out];exact H3.out.1,mod_new (HD.out.then H1.out.2) H3.out.2 (fun y hy=>(HRW.out.blk y hy).1)⟩
    case measure=>simp [intOf];omega
  · obtain rfl:k=l.length:=by omega
    rw [List.take_length] at hrow
    go_wp2_with fail
    go_ret
    exact ⟨_,rfl,hrow,hmd⟩
theorem rdN_new (w:World) (l:List Int) (hl:l.length≤1000):RdN (w.alloc (.cells (l.map (Value.int .i64)).toArray 3 (0,0))) (.slice (some ⟨w.heap.size,0,none⟩) l.length l.length) l:=by
 have k:=heap_alloc_new w (.cells (l.map (Value.int .i64)).toArray 3 (0,0))
 have c:=blk_cell k
 have hL:=lt_of_block k
 have hm:l.length≤maxLen:=by unfold maxLen;omega
 refine ⟨hm,.inr ⟨w.heap.size,0,l.length,rfl,hL,fun i hi=>?_⟩⟩
 rw [Nat.zero_add,c]
 simp [hi]
structure ER (w W:World) (v:Value) (d:B8) (K:List (Nat × Obj)) (N:Nat):Prop where
 row:RowY W w.heap.size v d
 md:Mod [] w W
 ln:d.length≤N
 kp:∀ x,x∈K→W.heap[x.1]?=some x.2∧x.1 ∉ ob v
section
variable {w W w1:World} {v:Value} {d:B8} {K:List (Nat × Obj)} {N:Nat}
theorem ER.quiet (h:ER w W v d K N) (m:Mod [] W w1):ER w w1 v d K N:=⟨h.row.mod m (by simp),h.md.then m,h.ln,fun x hx=>⟨m.at_ (h.kp x hx).1 (by simp),(h.kp x hx).2⟩⟩
theorem ER.alloc (h:ER w W v d K N) (o:Obj):ER w (W.alloc o) v d ((W.heap.size,o)::K) N:=by
 refine ⟨h.row.mod_alloc _,h.md.alloc _,h.ln,fun x hx=>?_⟩
 rcases List.mem_cons.1 hx with rfl | hx
 · exact ⟨heap_alloc_new _ _,fun e=>by have:=(h.row.blk _ e).2;simp at this⟩
 · exact ((h.quiet ((Mod.refl _ _).alloc o)).kp x hx)
theorem ER.eq {e:B8} (h:ER w W v d K N) (he:d=e):ER w W v e K N:=by subst he;exact h
theorem ER.box (h:ER w W v d K N) {k:Nat} {cs:Array Value} {T:TypeId} (hk:(k,Obj.cells cs T (0,0))∈K):∀ o,W.cell? ⟨k,o,none⟩=cs[o]?:=blk_cell (h.kp _ hk).1
theorem wpList_app_er {ops:Array Oper} {rest:List Oper} {o:Oper} {a:Act} {Q:Exit→Act→World→Prop} {u:Value} {n:B8} (h:ER w W v d K N) (m:Mod [] W w1) (hgd:o.guard=none) (s x:Operand)
 (ho:o.op=.call { callee:=.builtin .append,args:=#[s,x],argTypes:=#[71,71] }) (hs:a.eval s=v) (hx:a.eval x=u) (hu:RdY w1 u n) (hsz:N+n.length≤1000000) {M:Nat} (hM:N+n.length≤M)
 (hp:∀ v3 w3,ER w w3 v3 (d++n) K M→wpList Tryz.prog ops Q rest (a.put o.dst v3) w3):wpList Tryz.prog ops Q (o::rest) a w1:=by
 have h1:=h.quiet m
 have hln:=h.ln
 have hz:=h1.md.size
 by_cases hm:n=[]
 · subst hm
   obtain ⟨q,cc,hv⟩:=h1.row.rd.len
   obtain ⟨p,c,hu2⟩:=hu.len
   obtain ⟨i0,hi0,hz0,hs0,hb0⟩:=info_parts info_byte
   simp only [List.length_nil] at hu2
   have src:Src Tryz.prog i0.size 71 (.slice p 0 c) 0 [] w1:=by
    cases p with
    | none=>exact Src.ofNil w1 Tryz.underlying71 c
    | some ad=>exact Src.ofSlice w1 Tryz.underlying71 ad 0 c [] (by simp) (fun _ _ h=>by simp at h) (fun _ h=>by cases h)
   have hr:=run_append_nothing w1 71 71 o.type 5 i0 Tryz.underlying71 hi0 q d.length cc (by rw [hv] at h1;exact h1.row.rd.cap) _ src
   refine wpList_plain hgd fun K' hK=>?_
   unfold Oper.wp execOp
   simp only [ho,resolve,invoke,builtin,Sem.run_bind,Sem.run_pure,Result.andThen_ok,List.map_toArray,List.map_cons,List.map_nil,hs,hx,hv,hu2,hr]
   refine hK _ _ ?_
   rw [← hv]
   exact hp _ _ ⟨by rw [List.append_nil];exact h1.row,h1.md,by rw [List.append_nil];simp at hM;omega,h1.kp⟩
 · have hpos:0<n.length:=List.length_pos_iff.2 hm
   rcases hu.2 with ⟨p,c,_,rfl⟩ | ⟨b,off,cap,rfl,hcap,hb,hc⟩
   · exact absurd rfl hm
   · refine wpList_app_y w1 hgd s x ho w.heap.size v d hs h1.row ⟨b,off,none⟩ n.length cap n hx rfl (fun j hj=>by rw [Addr.add_lit];exact hc j hj) hpos (by omega) hz ?_
     intro g cap' w3 h2 h3 h4 h5
     refine hp _ _ ⟨h2,mod_new h1.md h3 (fun k hk=>(h1.row.blk k hk).1),by rw [List.length_append];omega,fun y hy=>?_⟩
     obtain ⟨k1,k2⟩:=h1.kp y hy
     have hl:=lt_of_block k1
     refine ⟨h3.at_ k1 k2,fun e=>?_⟩
     have e:y.1=g:=by simpa [ob,Value.ownBlock] using e
     rcases h4 with h4 | h4
     · exact k2 (e ▸ h4)
     · omega
end
end Go.Proofs.YtpphoeimakjjdaaGreatDoor
/-
  WALKS: the document's layer 11: Encode. (Written by wip/gen_renc.py.)
-/
namespace Go.Proofs.YtpphoeimakjjdaaGreatDoor
set_option maxRecDepth 100000
set_option maxHeartbeats 8000000
open Go.RowKit

theorem enc2r {r:Rcd} (h:r.kind=2):encB r=numB 2++numsB [r.longest]:=by rw [enc2 h];simp [numsB]
theorem enc6r {r:Rcd} (h:r.kind=6):encB r=numB 6++numsB [r.id]:=by rw [enc6 h];simp [numsB]
theorem textB_len (s:ByteArray):(textB s).length≤10+s.size:=by
 have:=(numB_len s.size).2
 simp [textB]
 omega
theorem rencode_any {w:World} {r:Rcd} {sv tv:Value} (hg:RdN w sv r.grant.stamp) (hs:RdN w tv r.stamp) (hp:r.grant.path.size≤9223372036854775806) :
 Calls Tryz.prog 68 #[aggR r sv tv] w fun e w'=>EncQ w (mayB r) (encB r) e w':=by
 obtain ⟨q2,c2,rfl⟩:=hs.len
 obtain ⟨q1,c1,rfl⟩:=hg.len
 have hmay:=fun (W:World) (m:Mod [] w W)=>rrec_any (r:=r) (hg.mod m (by simp)) (hs.mod m (by simp)) hp
 obtain ⟨M,hM⟩:∃ M,mayB r=M:=⟨_,rfl⟩
 rw [hM] at hmay ⊢
 obtain ⟨EB,hEB⟩:∃ EB,encB r=EB:=⟨_,rfl⟩
 rw [hEB]
 have hk:=fun h=>may_kind (r:=r) (hM.trans h)
 obtain ⟨kd,⟨gi,gh,gp,gm,gs,gt⟩,ri,rs,rn,rb,rl⟩:=r
 simp only at hg hs hp hmay hk
 obtain ⟨W0,hW0⟩:∃ W0,W0=w.alloc (.cells #[.int .i64 kd,.int .i64 gi,.int .i64 gh,.string gp,.int .i64 gm,.slice q1 gs.length c1,.int .i64 gt,.int .i64 ri,.slice q2 rs.length c2,.int .i64 rn,.int .i64 rb,.int .i64 rl] 42 (0,0)):=⟨_,rfl⟩
 have hr0:W0.heap[w.heap.size]?=some (.cells #[.int .i64 kd,.int .i64 gi,.int .i64 gh,.string gp,.int .i64 gm,.slice q1 gs.length c1,.int .i64 gt,.int .i64 ri,.slice q2 rs.length c2,.int .i64 rn,.int .i64 rb,.int .i64 rl] 42 (0,0)):=by rw [hW0];exact heap_alloc_new w _
 have hm0:Mod [] w W0:=by rw [hW0];exact (Mod.refl _ _).alloc _
 have hy:=hmay W0 hm0
 have R0:=blk_cell hr0
 have HB:=Hj3 (And.intro hr0 hm0) hg hs
 have HE:=Hj2 hEB hM
 clear hmay hr0 hm0 hg hs hEB hM
 unfold aggR cellsR at hy ⊢
 simp only at hy ⊢
 cases M with
 | false =>
   go_enter Tryz.func68,Tryz.ntmps68
   go_upto_region 1 with fail
   rw [← hW0]
   clear hW0
   go_wp2_with (go_at_call 89;refine hy.mono ?_;rintro e w1 ⟨rfl,hm1⟩;have H1:=hide hm1;clear hm1 R0)
   go_ret2
   exact .inl ⟨rfl,rfl,HB.out.1.2.then H1.out⟩
 | true =>
 have hkd:kd=1∨kd=2∨kd=3∨kd=4∨kd=5∨kd=6∨kd=7:=by
  have:=hk rfl
  omega
 have hkr:kd≤9223372036854775807:=by omega
 clear hk
 go_enter Tryz.func68,Tryz.ntmps68
 go_upto_region 1 with fail
 rw [← hW0]
 clear hW0
 go_upto_region 3 with (go_at_call 89;refine hy.mono ?_;rintro e w1 ⟨rfl,hm1⟩
                        have hmw:=Hj2 (HB.out.1.2.then hm1) (hm1.at_ HB.out.1.1 (by simp))
                        have R0:=blk_cell hmw.out.2
                        clear hm1 hy)
 go_upto_region 4 with (go_at_call 99;refine (rnums_any (l:=[kd]) (rdN_new _ [kd] (by simp)) (by simp) (fun n hn=>by simp at hn;omega)).mono ?_;rintro e W2 ⟨v2,rfl,r2,m2⟩)
 have hws:=hide (show ER w W2 v2 (numB kd) [(w.heap.size,.cells #[.int .i64 kd,.int .i64 gi,.int .i64 gh,.string gp,.int .i64 gm,.slice q1 gs.length c1,.int .i64 gt,.int .i64 ri,.slice q2 rs.length c2,.int .i64 rn,.int .i64 rb,.int .i64 rl] 42 (0,0))] 10 from by
  have hmm:=((Mod.refl [] w1).alloc (.cells (([kd]:List Int).map (Value.int .i64)).toArray 3 (0,0))).then m2
  have hnb:numsB [kd]=numB kd:=by simp [numsB]
  rw [hnb] at r2
  refine ⟨r2.base (by have:=hmw.out.1.size;simp;omega),hmw.out.1.then hmm,(numB_len kd).2,fun x hx=>?_⟩
  obtain rfl:=List.mem_singleton.1 hx
  refine ⟨hmm.at_ hmw.out.2 (by simp),fun e=>?_⟩
  have h1:=(r2.blk _ e).1
  have h2:=lt_of_block hmw.out.2
  simp at h1
  omega)
 clear R0 r2 m2
 have CR:=hws.out.box (k:=w.heap.size) List.mem_cons_self
 have hwg:=hws.out.alloc (.cells #[.int .i64 gi,.int .i64 gh,.string gp,.int .i64 gm,.slice q1 gs.length c1,.int .i64 gt] 40 (0,0))
 go_upto_region 5 with fail
 obtain ⟨W3,hW3⟩:∃ W3,W2.alloc (.cells #[.int .i64 gi,.int .i64 gh,.string gp,.int .i64 gm,.slice q1 gs.length c1,.int .i64 gt] 40 (0,0))=W3:=⟨_,rfl⟩
 rw [hW3] at hwg ⊢
 clear hW3 hws CR
 have hws:=hide hwg
 have CR:=hwg.box (k:=w.heap.size) (List.mem_cons_of_mem _ List.mem_cons_self)
 have CG:=hwg.box List.mem_cons_self
 clear hwg
 rcases hkd with rfl | rfl | rfl | rfl | rfl | rfl | rfl
 · have hf:=heads_iff.1 (may_heads HE.out.2 rfl)
   simp only at hf
   have hE:=HE.out.1
   rw [enc1 rfl] at hE
   have HEE:=hide hE
   clear hE
   go_upto_region 21 with (first
    | (go_at_call 99;refine (rnums_any (l:=[rn,rb]) (rdN_new _ [rn,rb] (by simp)) (by simp) (fun n hn=>by simp at hn;omega)).mono ?_;rintro e w1 ⟨v1,rfl,r1,m1⟩;have H1:=Hj2 r1 m1;clear r1 m1)
    | (at_builtin;refine wpList_app_er (M:=100) hws.out (((Mod.refl _ _).alloc _).then H1.out.2) rfl _ _ rfl rfl rfl H1.out.1.rd (by have:=numsB_le [rn,rb];simp at this;omega) (by have:=numsB_le [rn,rb];simp at this;omega) ?_;intro v3 w3 h3;clear hws CR CG H1;have hws:=hide h3;have CR:=h3.box (k:=w.heap.size) (List.mem_cons_of_mem _ List.mem_cons_self);have CG:=h3.box List.mem_cons_self;clear h3)
    | fail)
   have h9:=hws.out.eq (e:=EB) (by rw [← HEE.out];first | done | rfl | (simp [grantE,numsB,textB];done))
   obtain ⟨p9,c9,rfl⟩:=h9.row.rd.len
   have H9:=hide h9
   clear h9 hws CR CG
   go_wp2_with fail
   go_ret2
   exact .inr ⟨rfl,p9,c9,rfl,H9.out.row,H9.out.md⟩
 · have hf:=may_longest HE.out.2 rfl
   unfold legalT at hf
   simp only at hf
   have hE:=HE.out.1
   rw [enc2r rfl] at hE
   have HEE:=hide hE
   clear hE
   go_upto_region 21 with (first
    | (go_at_call 99;refine (rnums_any (l:=[rl]) (rdN_new _ [rl] (by simp)) (by simp) (fun n hn=>by simp at hn;omega)).mono ?_;rintro e w1 ⟨v1,rfl,r1,m1⟩;have H1:=Hj2 r1 m1;clear r1 m1)
    | (at_builtin;refine wpList_app_er (M:=100) hws.out (((Mod.refl _ _).alloc _).then H1.out.2) rfl _ _ rfl rfl rfl H1.out.1.rd (by have:=numsB_le [rl];simp at this;omega) (by have:=numsB_le [rl];simp at this;omega) ?_;intro v3 w3 h3;clear hws CR CG H1;have hws:=hide h3;have CR:=h3.box (k:=w.heap.size) (List.mem_cons_of_mem _ List.mem_cons_self);have CG:=h3.box List.mem_cons_self;clear h3)
    | fail)
   have h9:=hws.out.eq (e:=EB) (by rw [← HEE.out];first | done | rfl | (simp [grantE,numsB,textB];done))
   obtain ⟨p9,c9,rfl⟩:=h9.row.rd.len
   have H9:=hide h9
   clear h9 hws CR CG
   go_wp2_with fail
   go_ret2
   exact .inr ⟨rfl,p9,c9,rfl,H9.out.row,H9.out.md⟩
 · skip
   have hf:=(may_grant HE.out.2 (.inr rfl)).1
   obtain ⟨hf1,hf2,hf3,hf4,hf5,hf6,hf7⟩:=grant_iff.1 hf
   have hst:=(stm_range hf5).1
   have hpl:gp.size≤27:=by have:=pathOk_len hf3;simpa using this
   unfold countOk at hf1
   unfold legalT at hf7
   simp only at hf1 hf2 hf4 hf5 hf6 hf7 hst
   clear hf hf3 hf6
   have hE:=HE.out.1
   rw [enc4 (.inr rfl)] at hE
   have HEE:=hide hE
   clear hE
   go_upto_region 13 with (first
    | (go_at_call 99;refine (rnums_any (l:=[gi,gh]) (rdN_new _ [gi,gh] (by simp)) (by simp) (fun n hn=>by simp at hn;omega)).mono ?_;rintro e w1 ⟨v1,rfl,r1,m1⟩;have H1:=Hj2 r1 m1;clear r1 m1)
    | (at_builtin;refine wpList_app_er (M:=100) hws.out (((Mod.refl _ _).alloc _).then H1.out.2) rfl _ _ rfl rfl rfl H1.out.1.rd (by have:=numsB_le [gi,gh];simp at this;omega) (by have:=numsB_le [gi,gh];simp at this;omega) ?_;intro v3 w3 h3;clear hws CR CG H1;have hws:=hide h3;have CR:=h3.box (k:=w.heap.size) (List.mem_cons_of_mem _ List.mem_cons_self);have CG:=h3.box List.mem_cons_self;clear h3)
    | fail)
   go_upto_region 14 with (first
    | (go_at_call 100;refine (rtext_any gp (by omega) _).mono ?_;rintro e w1 ⟨v1,rfl,r1,m1⟩;have H1:=Hj2 r1 m1;clear r1 m1)
    | (at_builtin;refine wpList_app_er (M:=300) hws.out H1.out.2 rfl _ _ rfl rfl rfl H1.out.1.rd (by have:=textB_len gp;omega) (by have:=textB_len gp;omega) ?_;intro v3 w3 h3;clear hws CR CG H1;have hws:=hide h3;have CR:=h3.box (k:=w.heap.size) (List.mem_cons_of_mem _ List.mem_cons_self);have CG:=h3.box List.mem_cons_self;clear h3)
    | fail)
   go_upto_region 15 with (first
    | (go_at_call 99;refine (rnums_any (l:=[gm,gt,(gs.length:Int)]) (rdN_new _ [gm,gt,(gs.length:Int)] (by simp)) (by simp) (fun n hn=>by simp at hn;omega)).mono ?_;rintro e w1 ⟨v1,rfl,r1,m1⟩;have H1:=Hj2 r1 m1;clear r1 m1)
    | (at_builtin;refine wpList_app_er (M:=500) hws.out (((Mod.refl _ _).alloc _).then H1.out.2) rfl _ _ rfl rfl rfl H1.out.1.rd (by have:=numsB_le [gm,gt,(gs.length:Int)];simp at this;omega) (by have:=numsB_le [gm,gt,(gs.length:Int)];simp at this;omega) ?_;intro v3 w3 h3;clear hws CR CG H1;have hws:=hide h3;have CR:=h3.box (k:=w.heap.size) (List.mem_cons_of_mem _ List.mem_cons_self);have CG:=h3.box List.mem_cons_self;clear h3)
    | fail)
   go_upto_region 21 with (first
    | (go_at_call 99;refine (rnums_any (l:=gs) (HB.out.2.1.mod hws.out.md (by simp)) (by omega) (fun n hn=>by have:=(stm_range hf5).2 n hn;omega)).mono ?_;rintro e w1 ⟨v1,rfl,r1,m1⟩;have H1:=Hj2 r1 m1;clear r1 m1)
    | (at_builtin;refine wpList_app_er (M:=900) hws.out H1.out.2 rfl _ _ rfl rfl rfl H1.out.1.rd (by have:=numsB_le gs;omega) (by have:=numsB_le gs;omega) ?_;intro v3 w3 h3;clear hws CR CG H1;have hws:=hide h3;have CR:=h3.box (k:=w.heap.size) (List.mem_cons_of_mem _ List.mem_cons_self);have CG:=h3.box List.mem_cons_self;clear h3)
    | fail)
   have h9:=hws.out.eq (e:=EB) (by rw [← HEE.out];first | done | rfl | (simp [grantE,numsB,textB];done))
   obtain ⟨p9,c9,rfl⟩:=h9.row.rd.len
   have H9:=hide h9
   clear h9 hws CR CG
   go_wp2_with fail
   go_ret2
   exact .inr ⟨rfl,p9,c9,rfl,H9.out.row,H9.out.md⟩
 · skip
   have hf:=(may_grant HE.out.2 (.inl rfl)).1
   obtain ⟨hf1,hf2,hf3,hf4,hf5,hf6,hf7⟩:=grant_iff.1 hf
   have hst:=(stm_range hf5).1
   have hpl:gp.size≤27:=by have:=pathOk_len hf3;simpa using this
   unfold countOk at hf1
   unfold legalT at hf7
   simp only at hf1 hf2 hf4 hf5 hf6 hf7 hst
   clear hf hf3 hf6
   have hE:=HE.out.1
   rw [enc4 (.inl rfl)] at hE
   have HEE:=hide hE
   clear hE
   go_upto_region 13 with (first
    | (go_at_call 99;refine (rnums_any (l:=[gi,gh]) (rdN_new _ [gi,gh] (by simp)) (by simp) (fun n hn=>by simp at hn;omega)).mono ?_;rintro e w1 ⟨v1,rfl,r1,m1⟩;have H1:=Hj2 r1 m1;clear r1 m1)
    | (at_builtin;refine wpList_app_er (M:=100) hws.out (((Mod.refl _ _).alloc _).then H1.out.2) rfl _ _ rfl rfl rfl H1.out.1.rd (by have:=numsB_le [gi,gh];simp at this;omega) (by have:=numsB_le [gi,gh];simp at this;omega) ?_;intro v3 w3 h3;clear hws CR CG H1;have hws:=hide h3;have CR:=h3.box (k:=w.heap.size) (List.mem_cons_of_mem _ List.mem_cons_self);have CG:=h3.box List.mem_cons_self;clear h3)
    | fail)
   go_upto_region 14 with (first
    | (go_at_call 100;refine (rtext_any gp (by omega) _).mono ?_;rintro e w1 ⟨v1,rfl,r1,m1⟩;have H1:=Hj2 r1 m1;clear r1 m1)
    | (at_builtin;refine wpList_app_er (M:=300) hws.out H1.out.2 rfl _ _ rfl rfl rfl H1.out.1.rd (by have:=textB_len gp;omega) (by have:=textB_len gp;omega) ?_;intro v3 w3 h3;clear hws CR CG H1;have hws:=hide h3;have CR:=h3.box (k:=w.heap.size) (List.mem_cons_of_mem _ List.mem_cons_self);have CG:=h3.box List.mem_cons_self;clear h3)
    | fail)
   go_upto_region 15 with (first
    | (go_at_call 99;refine (rnums_any (l:=[gm,gt,(gs.length:Int)]) (rdN_new _ [gm,gt,(gs.length:Int)] (by simp)) (by simp) (fun n hn=>by simp at hn;omega)).mono ?_;rintro e w1 ⟨v1,rfl,r1,m1⟩;have H1:=Hj2 r1 m1;clear r1 m1)
    | (at_builtin;refine wpList_app_er (M:=500) hws.out (((Mod.refl _ _).alloc _).then H1.out.2) rfl _ _ rfl rfl rfl H1.out.1.rd (by have:=numsB_le [gm,gt,(gs.length:Int)];simp at this;omega) (by have:=numsB_le [gm,gt,(gs.length:Int)];simp at this;omega) ?_;intro v3 w3 h3;clear hws CR CG H1;have hws:=hide h3;have CR:=h3.box (k:=w.heap.size) (List.mem_cons_of_mem _ List.mem_cons_self);have CG:=h3.box List.mem_cons_self;clear h3)
    | fail)
   go_upto_region 21 with (first
    | (go_at_call 99;refine (rnums_any (l:=gs) (HB.out.2.1.mod hws.out.md (by simp)) (by omega) (fun n hn=>by have:=(stm_range hf5).2 n hn;omega)).mono ?_;rintro e w1 ⟨v1,rfl,r1,m1⟩;have H1:=Hj2 r1 m1;clear r1 m1)
    | (at_builtin;refine wpList_app_er (M:=900) hws.out H1.out.2 rfl _ _ rfl rfl rfl H1.out.1.rd (by have:=numsB_le gs;omega) (by have:=numsB_le gs;omega) ?_;intro v3 w3 h3;clear hws CR CG H1;have hws:=hide h3;have CR:=h3.box (k:=w.heap.size) (List.mem_cons_of_mem _ List.mem_cons_self);have CG:=h3.box List.mem_cons_self;clear h3)
    | fail)
   have h9:=hws.out.eq (e:=EB) (by rw [← HEE.out];first | done | rfl | (simp [grantE,numsB,textB];done))
   obtain ⟨p9,c9,rfl⟩:=h9.row.rd.len
   have H9:=hide h9
   clear h9 hws CR CG
   go_wp2_with fail
   go_ret2
   exact .inr ⟨rfl,p9,c9,rfl,H9.out.row,H9.out.md⟩
 · have hf:=may_fresh HE.out.2 rfl
   have hst:=(stm_range hf.2).1
   have hsr:=fun n hn=>(stm_range hf.2).2 n hn
   have hf1:=hf.1
   unfold countOk at hf1
   simp only at hf1 hst
   clear hf
   have hE:=HE.out.1
   rw [enc5 rfl] at hE
   have HEE:=hide hE
   clear hE
   go_upto_region 18 with (first
    | (go_at_call 99;refine (rnums_any (l:=[ri,(rs.length:Int)]) (rdN_new _ [ri,(rs.length:Int)] (by simp)) (by simp) (fun n hn=>by simp at hn;omega)).mono ?_;rintro e w1 ⟨v1,rfl,r1,m1⟩;have H1:=Hj2 r1 m1;clear r1 m1)
    | (at_builtin;refine wpList_app_er (M:=100) hws.out (((Mod.refl _ _).alloc _).then H1.out.2) rfl _ _ rfl rfl rfl H1.out.1.rd (by have:=numsB_le [ri,(rs.length:Int)];simp at this;omega) (by have:=numsB_le [ri,(rs.length:Int)];simp at this;omega) ?_;intro v3 w3 h3;clear hws CR CG H1;have hws:=hide h3;have CR:=h3.box (k:=w.heap.size) (List.mem_cons_of_mem _ List.mem_cons_self);have CG:=h3.box List.mem_cons_self;clear h3)
    | fail)
   go_upto_region 21 with (first
    | (go_at_call 99;refine (rnums_any (l:=rs) (HB.out.2.2.mod hws.out.md (by simp)) (by omega) (fun n hn=>by have:=hsr n hn;omega)).mono ?_;rintro e w1 ⟨v1,rfl,r1,m1⟩;have H1:=Hj2 r1 m1;clear r1 m1)
    | (at_builtin;refine wpList_app_er (M:=500) hws.out H1.out.2 rfl _ _ rfl rfl rfl H1.out.1.rd (by have:=numsB_le rs;omega) (by have:=numsB_le rs;omega) ?_;intro v3 w3 h3;clear hws CR CG H1;have hws:=hide h3;have CR:=h3.box (k:=w.heap.size) (List.mem_cons_of_mem _ List.mem_cons_self);have CG:=h3.box List.mem_cons_self;clear h3)
    | fail)
   have h9:=hws.out.eq (e:=EB) (by rw [← HEE.out];first | done | rfl | (simp [grantE,numsB,textB];done))
   obtain ⟨p9,c9,rfl⟩:=h9.row.rd.len
   have H9:=hide h9
   clear h9 hws CR CG
   go_wp2_with fail
   go_ret2
   exact .inr ⟨rfl,p9,c9,rfl,H9.out.row,H9.out.md⟩
 · have hf:=may_end HE.out.2 rfl
   unfold countOk at hf
   simp only at hf
   have hE:=HE.out.1
   rw [enc6r rfl] at hE
   have HEE:=hide hE
   clear hE
   go_upto_region 21 with (first
    | (go_at_call 99;refine (rnums_any (l:=[ri]) (rdN_new _ [ri] (by simp)) (by simp) (fun n hn=>by simp at hn;omega)).mono ?_;rintro e w1 ⟨v1,rfl,r1,m1⟩;have H1:=Hj2 r1 m1;clear r1 m1)
    | (at_builtin;refine wpList_app_er (M:=100) hws.out (((Mod.refl _ _).alloc _).then H1.out.2) rfl _ _ rfl rfl rfl H1.out.1.rd (by have:=numsB_le [ri];simp at this;omega) (by have:=numsB_le [ri];simp at this;omega) ?_;intro v3 w3 h3;clear hws CR CG H1;have hws:=hide h3;have CR:=h3.box (k:=w.heap.size) (List.mem_cons_of_mem _ List.mem_cons_self);have CG:=h3.box List.mem_cons_self;clear h3)
    | fail)
   have h9:=hws.out.eq (e:=EB) (by rw [← HEE.out];first | done | rfl | (simp [grantE,numsB,textB];done))
   obtain ⟨p9,c9,rfl⟩:=h9.row.rd.len
   have H9:=hide h9
   clear h9 hws CR CG
   go_wp2_with fail
   go_ret2
   exact .inr ⟨rfl,p9,c9,rfl,H9.out.row,H9.out.md⟩
 · skip
   have hE:=HE.out.1
   rw [enc7 rfl] at hE
   have HEE:=hide hE
   clear hE
   go_upto_region 21 with fail
   have h9:=hws.out.eq (e:=EB) (by rw [← HEE.out];first | done | rfl | (simp [grantE,numsB,textB];done))
   obtain ⟨p9,c9,rfl⟩:=h9.row.rd.len
   have H9:=hide h9
   clear h9 hws CR CG
   go_wp2_with fail
   go_ret2
   exact .inr ⟨rfl,p9,c9,rfl,H9.out.row,H9.out.md⟩
end Go.Proofs.YtpphoeimakjjdaaGreatDoor
/-
  WALKS: the document's layer 11: its taker.
-/
namespace Go.Proofs.YtpphoeimakjjdaaGreatDoor
set_option maxRecDepth 100000
set_option maxHeartbeats 2000000
open Go.RowKit

structure TkM (w:World) (p:Nat) (v:Value) (l:B8) (x:Int):Prop where
 blk:w.heap[p]?=some (.cells #[v,.int .i64 x] 191 (0,0))
 rd:RdY w v l
 apart:p ∉ ob v
theorem TkM.quiet {w w':World} {p:Nat} {v:Value} {l:B8} {x:Int} (h:TkM w p v l x) (m:Mod [] w w'):TkM w' p v l x:=⟨m.at_ h.blk (by simp),h.rd.mod m (by simp),h.apart⟩
theorem TkM.mod {w w':World} {p:Nat} {v:Value} {l:B8} {x:Int} (h:TkM w p v l x) {S:List Nat} (m:Mod S w w') (h1:p ∉ S) (h2:∀ k,k∈ob v→k ∉ S):TkM w' p v l x:=⟨m.at_ h.blk h1,h.rd.mod m h2,h.apart⟩
theorem tkNum_any {w:World} {p:Nat} {v:Value} {l:B8} {x:Int} (h:TkM w p v l x) :
 Calls Tryz.prog 134 #[.pointer (some ⟨p,0,none⟩)] w fun e w'=>e=.returned (.int .i64 (rdNum l x).1)∧∃ v',TkM w' p v' (rdNum l x).2.1 (rdNum l x).2.2∧(∀ k,k∈ob v'→k∈ob v)∧Mod [p] w w':=by
 obtain ⟨⟨y,r,e1⟩,hr⟩:∃ t,rdNum l x=t:=⟨_,rfl⟩
 rw [hr]
 simp only
 obtain ⟨q,c,rfl⟩:=h.rd.len
 have hcall:=rreadNum_any h.rd x hr
 have C:=blk_cell h.blk
 have HH:=hide h
 clear h hr
 go_enter Tryz.func134,Tryz.ntmps134
 go_upto_region 2 with (go_at_call 163;refine hcall.mono ?_;rintro e w1 ⟨q',c',rfl,hrd,hob,m1⟩
                        have H1:=Hj3 hrd hob m1
                        clear hcall hrd hob m1 C)
 obtain ⟨W2,hW2⟩:∃ x,x=w1.alloc (.cells #[.slice q' r.length c',.int .i64 e1] 189 (0,0)):=⟨_,rfl⟩
 rw [← hW2]
 have m2:Mod [] w W2:=by rw [hW2];exact H1.out.2.2.alloc _
 have hb2:W2.heap[p]?=some (.cells #[.slice q l.length c,.int .i64 x] 191 (0,0)):=m2.at_ HH.out.blk (by simp)
 have hbn:W2.heap[w1.heap.size]?=some (.cells #[.slice q' r.length c',.int .i64 e1] 189 (0,0)):=by rw [hW2];exact heap_alloc_new _ _
 have hr2:RdY W2 (.slice q' r.length c') r:=by rw [hW2];exact H1.out.1.mod ((Mod.refl [] w1).alloc _) (by simp)
 have C:=blk_cell hb2;have F:=blk_free hb2;have L:=lt_of_block hb2
 have D:=blk_cell hbn
 have H2:=Hj3 m2 hb2 hr2
 clear hW2 m2 hb2 hbn hr2
 go_wp2_with fail
 go_ret
 have hap:p ∉ ob (.slice q' r.length c'):=fun e=>HH.out.apart (H1.out.2.1 p e)
 have hms:Mod [p] W2 ((W2.setCell ⟨p,0,none⟩ (.slice q' r.length c')).setCell ⟨p,1,none⟩ (.int .i64 e1)):=((Mod.refl _ _).setCell (fun _=>by simp) _).setCell (fun _=>by simp) _
 exact ⟨rfl,.slice q' r.length c',⟨blk_set (blk_set H2.out.2.1 0 _) 1 _,H2.out.2.2.mod hms (fun k hk e=>by simp at e;rw [e] at hk;exact hap hk),hap⟩,H1.out.2.1,(H2.out.1.mono (by simp)).trans hms (fun _ x _=>x) (fun _ x _=>x)⟩
def TkcTo (w:World) (p:Nat) (v:Value) (t:List Int × RS) (e:Ending) (w':World):Prop :=
 ∃ u v',e=.returned u∧w'.ownsRow w.heap.size 3 1 u t.1.length (t.1.map (Value.int .i64))∧TkM w' p v' t.2.1 t.2.2∧(∀ k,k∈ob v'→k∈ob v)∧Mod [p] w w'
def TkcRel (w:World) (p:Nat) (v:Value) (s:RS) (n:Nat) (u i:Value) (wr:World):Prop :=
 ∃ (k:Nat) (v':Value),i=.int .i64 (k:Int)∧k≤n∧wr.ownsRow w.heap.size 3 1 u (readK k s).1.length ((readK k s).1.map (Value.int .i64))∧TkM wr p v' (readK k s).2.1 (readK k s).2.2∧(∀ x,x∈ob v'→x∈ob v)∧Mod [p] w wr
theorem tkCounters_any {w:World} {p:Nat} {v:Value} {l:B8} {x:Int} (h:TkM w p v l x) (hpv:∀ k,k∈ob v→k<w.heap.size) :
 Calls Tryz.prog 136 #[.pointer (some ⟨p,0,none⟩)] w fun e w'=>TkcTo w p v (countersS (l,x)) e w':=by
 have hpw:=lt_of_block h.blk
 have hn:=tkNum_any h
 have hge:=nxt_ge (l,x)
 unfold countersS
 unfold nxt at hge ⊢
 simp only at hge ⊢
 generalize rdNum l x=t at hn hge ⊢
 obtain ⟨a,l1,x1⟩:=t
 simp only at hn hge ⊢
 obtain ⟨n,hN⟩:∃ n:Nat,(min a 5).toNat=n:=⟨_,rfl⟩
 have hN2:min a 5=(n:Int):=by omega
 have hN5:n≤5:=by omega
 rw [hN]
 have HH:=Hj3 h hpv hN2
 clear h hpv hN hN2
 go_enter Tryz.func136,Tryz.ntmps136
 go_wp2_with (go_at_call 134;refine hn.mono ?_;rintro e w1 ⟨rfl,v1,hr1,ho1,hm1⟩
              have H1:=Hj3 hr1 ho1 hm1
              clear hr1 ho1 hm1 hn)
 go_loopw [4,5] (fun u i wr=>TkcRel w p v (l1,x1) n u i wr) (fun _ i _=>n - (intOf i).toNat)
 case atStart=>exact ⟨0,v1,rfl,Nat.zero_le _,World.ownsRow_nil _ _ _ _,H1.out.1,H1.out.2.1,H1.out.2.2⟩
 case round =>
  obtain ⟨k,v',rfl,hk,hrow,hr,ho,hm⟩:=hrel
  have h2:=HH.out.2.2
  by_cases hlt:k<n
  · have hka:(k:Int)<a:=by omega
    have hk5:(k:Int)<5:=by omega
    have hnum:=tkNum_any hr
    have hsn:=readK_snoc k (l1,x1)
    have hln:=readK_len k (l1,x1)
    have hnx:(nxt (readK k (l1,x1)).2)=((rdNum (readK k (l1,x1)).2.1 (readK k (l1,x1)).2.2).1,((rdNum (readK k (l1,x1)).2.1 (readK k (l1,x1)).2.2).2.1,(rdNum (readK k (l1,x1)).2.1 (readK k (l1,x1)).2.2).2.2)):=rfl
    rw [hnx] at hsn
    generalize rdNum (readK k (l1,x1)).2.1 (readK k (l1,x1)).2.2=t at hnum hsn
    obtain ⟨y,l2,x2⟩:=t
    simp only at hnum hsn
    have HS:=Hj5 hsn hln hrow ho hm
    clear hsn hln hrow ho hm hr hnx h2
    go_wp2_with (first
     | (go_at_call 134;refine hnum.mono ?_;rintro e w2 ⟨rfl,v2,hr2,ho2,hm2⟩
        obtain ⟨W3,hW3⟩:∃ W3,W3=w2.alloc (.cells #[.int .i64 y] 3 (0,0)):=⟨_,rfl⟩
        have hk3:W3.heap[w2.heap.size]?=some (.cells #[.int .i64 y] 3 (0,0)):=by rw [hW3];exact heap_alloc_new w2 _
        have g3:Gr w2 W3:=by rw [hW3];exact (Gr.refl w2).alloc _
        have H2:=Hj5 hr2 ho2 hm2 hk3 g3
        clear hr2 ho2 hm2 hk3 g3 hnum)
     | (at_builtin
        (try rw [← hW3])
        have hor:=HS.out.2.2.1
        have hszw:=HS.out.2.2.2.2.size
        have hszw2:=H2.out.2.2.1.size
        have hszw3:=H2.out.2.2.2.2.size
        have hou:∀ q,q∈ob u4→w.heap.size≤q:=fun q hq=>(ob_of_row hor q hq).1
        have h5:=H2.out.2.2.1.row hor (fun q hq e=>by have:=hou q (by simp [ob,hq]);simp at e;omega)
        have h6:=(H2.out.2.2.2.2.mod []).row h5 (by simp)
        refine wpList_app_int (n:=y) (base:=w.heap.size) W3 rfl _ _ rfl rfl h6 (by rw [HS.out.2.1];omega) (by omega) (k:=w2.heap.size) rfl H2.out.2.2.2.1 ?_
        rintro u' w3 hrow3 hm3 ⟨p3,c3,rfl⟩ -
        have H3:=Hj3 hrow3 hm3 hou
        clear hrow3 hm3 h5 h6 hor hou hszw hszw2 hszw3)
     | fail)
    go_roundw
    case rel =>
     obtain ⟨hr2,ho2,hm2,hk3,g3⟩:=H2.out
     obtain ⟨hrow3,hm3,hou⟩:=H3.out
     obtain ⟨hsn,hln,hrow,ho,hm⟩:=HS.out
     have hpv:=HH.out.2.1
     refine ⟨k+1,v2,by go_num,by omega,?_,?_,fun q hq=>ho q (ho2 q hq),?_⟩
     · rw [hsn];exact hrow3
     · rw [hsn]
       refine (hr2.quiet (g3.mod [])).mod hm3 (fun e=>by have:=hou _ e;omega) (fun q hq e=>?_)
       have h1:=hpv q (ho q (ho2 q hq))
       have h2:=hou q e
       omega
     · exact ((hm.then hm2).gr g3).trans hm3 (fun x hx _=>hx) (fun x hx hlt2=>by have:=hou x hx;omega)
    case measure=>simp [intOf];omega
  · obtain rfl:k=n:=by omega
    obtain ⟨p3,c3,hu⟩:=(rdN_of_row hrow).len
    subst hu
    have HS:=Hj4 hrow hr ho hm
    clear hrow hr ho hm
    by_cases hka:(k:Int)<a
    · have hk5:¬ (k:Int)<5:=by omega
      clear h2
      go_wp2_with fail
      go_ret
      exact ⟨_,v',rfl,HS.out⟩
    · clear h2
      go_wp2_with fail
      go_ret
      exact ⟨_,v',rfl,HS.out⟩
end Go.Proofs.YtpphoeimakjjdaaGreatDoor
/-
  WALKS: the document's layer 11: Decode. (Written by wip/gen_rdec.py.)
-/
namespace Go.Proofs.YtpphoeimakjjdaaGreatDoor
set_option maxRecDepth 100000
set_option maxHeartbeats 8000000
open Go.RowKit

structure TDS (w W:World) (p:Nat) (v:Value) (s:RS) (X:Nat) (R:Array Value):Prop where
 rr:TkM W p v s.1 s.2
 ov:∀ k,k∈ob v→k<w.heap.size
 pw:w.heap.size<p
 px:p<X
 bx:W.heap[X]?=some (.cells R 42 (0,0))
 bz:W.heap[w.heap.size]?=some (.cells zeroR 42 (0,0))
 md:Mod [] w W
section
variable {w W W':World} {p X:Nat} {v v':Value} {s s':RS} {R:Array Value}
theorem TDS.step (h:TDS w W p v s X R) (hr:TkM W' p v' s'.1 s'.2) (ho:∀ k,k∈ob v'→k∈ob v) (hm:Mod [p] W W'):TDS w W' p v' s' X R :=
 ⟨hr,fun k hk=>h.ov k (ho k hk),h.pw,h.px,hm.at_ h.bx (by have:=h.px;simp;omega),hm.at_ h.bz (by have:=h.pw;simp;omega),h.md.trans hm (by simp) (fun x hx hlt=>by have:=h.pw;simp at hx;omega)⟩
theorem num_tds {n:Int} (h:TDS w W p v s X R) (he:nxt s=(n,s')) :
 Calls Tryz.prog 134 #[.pointer (some ⟨p,0,none⟩)] W fun e W'=>e=.returned (.int .i64 n)∧∃ v',TDS w W' p v' s' X R:=by
 refine (tkNum_any h.rr).mono ?_
 rintro e W' ⟨rfl,v',h1,h2,h3⟩
 unfold nxt at he
 simp only [Prod.mk.injEq] at he
 obtain ⟨rfl,rfl⟩:=he
 exact ⟨rfl,v',h.step h1 h2 h3⟩
theorem TDS.quiet (h:TDS w W p v s X R) (m:Mod [] W W'):TDS w W' p v s X R:=⟨h.rr.quiet m,h.ov,h.pw,h.px,m.at_ h.bx (by simp),m.at_ h.bz (by simp),h.md.then m⟩
theorem txt_tds {t:ByteArray} (h:TDS w W p v s X R) (he:txt 188 s=(t,s')) :
 Calls Tryz.prog 135 #[.agg #[v,.int .i64 s.2],.int .i64 188] W fun e W'=>∃ v',e=.returned (.tuple #[.string t,.agg #[v',.int .i64 s'.2]])∧TDS w W' p v s X R∧RdY W' v' s'.1∧∀ k,k∈ob v'→k∈ob v:=by
 obtain ⟨q,c,rfl⟩:=h.rr.rd.len
 obtain ⟨⟨a,b,e0⟩,hr⟩:∃ x,rdText 188 s.1 s.2=x:=⟨_,rfl⟩
 unfold txt at he
 rw [hr] at he
 simp only [Prod.mk.injEq] at he
 obtain ⟨rfl,rfl⟩:=he
 refine (rreadText_any h.rr.rd s.2 188 (by decide) hr).mono ?_
 rintro e W' ⟨q',c',rfl,h1,h2,h3⟩
 exact ⟨_,rfl,h.quiet h3,h1,h2⟩
theorem TDS.took {l':B8} {x':Int} (h:TDS w W p v s X R) (hr:RdY W v' l') (ho:∀ k,k∈ob v'→k∈ob v):TDS w ((W.setCell ⟨p,0,none⟩ v').setCell ⟨p,1,none⟩ (.int .i64 x')) p v' (l',x') X R:=by
 have hm:Mod [p] W ((W.setCell ⟨p,0,none⟩ v').setCell ⟨p,1,none⟩ (.int .i64 x')):=((Mod.refl _ _).setCell (fun _=>by simp) _).setCell (fun _=>by simp) _
 have hap:p ∉ ob v':=fun e=>h.rr.apart (ho p e)
 exact h.step ⟨blk_set (blk_set h.rr.blk 0 v') 1 _,hr.mod hm (fun k hk e=>by simp at e;rw [e] at hk;exact hap hk),hap⟩ ho hm
theorem ctr_tds {st:List Int} (h:TDS w W p v s X R) (he:countersS s=(st,s')) :
 Calls Tryz.prog 136 #[.pointer (some ⟨p,0,none⟩)] W fun e W'=>∃ q c,e=.returned (.slice q st.length c)∧W'.ownsRow W.heap.size 3 1 (.slice q st.length c) st.length (st.map (Value.int .i64))∧∃ v',TDS w W' p v' s' X R:=by
 have hX:=lt_of_block h.bx
 refine (tkCounters_any h.rr (fun k hk=>by have:=h.ov k hk;have:=h.px;have:=h.pw;omega)).mono ?_
 rintro e W' ⟨u,v',rfl,h0,h1,h2,h3⟩
 rw [show ((s.1,s.2):RS)=s from rfl,he] at h0 h1
 obtain ⟨q,c,rfl⟩:=(rdN_of_row h0).len
 exact ⟨q,c,rfl,h0,v',h.step h1 h2 h3⟩
theorem TDS.box (h:TDS w W p v s X R):(∀ o,W.cell? ⟨X,o,none⟩=R[o]?)∧(∀ o,W.frozen? ⟨X,o,none⟩=false):=⟨fun o=>blk_cell h.bx o,fun o=>blk_free h.bx o⟩
theorem TDS.set (h:TDS w W p v s X R) (i:Nat) (x:Value):TDS w (W.setCell ⟨X,i,none⟩ x) p v s X (R.setIfInBounds i x):=by
 have hm:Mod [X] W (W.setCell ⟨X,i,none⟩ x):=(Mod.refl _ _).setCell (fun _=>by simp) _
 have hX:=h.px
 have hp:=h.pw
 refine ⟨h.rr.mod hm (by simp;omega) (fun k hk e=>by have:=h.ov k hk;simp at e;omega),h.ov,h.pw,h.px,blk_set h.bx i x,hm.at_ h.bz (by simp;omega),h.md.trans hm (by simp) (fun y hy hlt=>by simp at hy;omega)⟩
end
theorem rdec_loose {b:B8} {r:Rcd} (h:looseB 188 b=r):decB b=if mayB r=true∧encB r=b then some r else none:=by
 rw [← dec_doc]
 unfold decM
 rw [h]
theorem rdec_bad {b:B8} {r:Rcd} (h:looseB 188 b=r) (hb:mayB r=false∨encB r≠b):decB b=none:=by
 rw [rdec_loose h,if_neg (fun x=>by rcases hb with hb | hb <;> simp_all)]
theorem rdec_good {b:B8} {r:Rcd} (h:looseB 188 b=r) (h1:mayB r=true) (h2:encB r=b):decB b=some r:=by
 rw [rdec_loose h,if_pos ⟨h1,h2⟩]
theorem rdec_long {b:B8} (h:188<b.length):decB b=none:=by
 cases hd:decB b with
 | none=>rfl
 | some r =>
   obtain ⟨h1,rfl⟩:=decB_iff.1 hd
   have:=(enc_len h1).2
   omega
def RDMid (w:World) (b:B8) (X:Nat) (wx:World):Prop :=
 ∃ (r:Rcd) (p1:Option Addr) (n1 c1:Nat) (p2:Option Addr) (n2 c2:Nat),looseB 188 b=r∧wx.heap[X]?=some (.cells (cellsR r (.slice p1 n1 c1) (.slice p2 n2 c2)).toArray 42 (0,0))∧RdN wx (.slice p1 n1 c1) r.grant.stamp∧RdN wx (.slice p2 n2 c2) r.stamp∧r.grant.path.size≤9223372036854775806∧wx.heap[w.heap.size]?=some (.cells zeroR 42 (0,0))∧Mod [] w wx∧(∀ k,k∈ob (.slice p1 n1 c1)→k ∉ [w.heap.size])∧∀ k,k∈ob (.slice p2 n2 c2)→k ∉ [w.heap.size]
theorem rdecode_any {w:World} {u:Value} {b:B8} (hu:RdY w u b) (hob:∀ k,k∈ob u→k<w.heap.size) :
 Calls Tryz.prog 95 #[u] w fun e w'=>DecTo w b e w':=by
 have hmx:b.length≤9223372036854775807:=hu.1
 obtain ⟨W0,hW0⟩:∃ W0,W0=w.alloc (.cells zeroR 42 (0,0)):=⟨_,rfl⟩
 have hz0:W0.heap[w.heap.size]?=some (.cells zeroR 42 (0,0)):=by rw [hW0];exact heap_alloc_new w _
 have hm0:Mod [] w W0:=by rw [hW0];exact (Mod.refl _ _).alloc _
 have hsz0:W0.heap.size=w.heap.size+1:=by rw [hW0];simp
 obtain ⟨⟨kd,s0⟩,hE0⟩:∃ t,nxt (b,0)=t:=⟨_,rfl⟩
 obtain ⟨q0,c0,rfl⟩:=hu.len
 have HU:=Hj2 hu hob
 have HE0:=hide hE0
 unfold zeroR at hW0
 by_cases hl:188<b.length
 · have hl':decide (188<(b.length:Int))=true:=by simp;omega
   have HN:=hide (rdec_long hl)
   unfold zeroR at hz0
   have Z0:=blk_cell hz0;have ZF:=blk_free hz0;have ZL:=lt_of_block hz0
   have HZ:=Hj2 hz0 hm0
   clear hz0 hm0 hsz0 hu hl hob
   go_enter Tryz.func95,Tryz.ntmps95
   go_upto_region 1 with fail
   rw [← hW0]
   clear hW0
   go_wp2_with fail
   have q:=stL_all HZ.out.1 [.int .i64 0,.int .i64 0,.int .i64 0,.string ⟨#[]⟩,.int .i64 0,.slice none 0 0,.int .i64 0,.int .i64 0,.slice none 0 0,.int .i64 0,.int .i64 0,.int .i64 0] rfl
   have qm:=stL_mod (S:=[w.heap.size]) (w0:=W0) (r:=w.heap.size) (fun _=>by simp) [.int .i64 0,.int .i64 0,.int .i64 0,.string ⟨#[]⟩,.int .i64 0,.slice none 0 0,.int .i64 0,.int .i64 0,.slice none 0 0,.int .i64 0,.int .i64 0,.int .i64 0] 0 _ (Mod.refl _ _)
   exact bodyPost_ret (v:=.tuple #[.agg zeroR,.int .i64 43]) (res_cell2 Tryz.results95 _ _ rfl q Tryz.isAgg42 Tryz.sizeOf42 rfl) rfl (DecTo.bad HN.out HZ.out.2 qm)
 have hl':decide (188<(b.length:Int))=false:=by simp;omega
 obtain ⟨W1,hW1⟩:∃ x,x=(W0.alloc (.cells #[.slice q0 b.length c0,.int .i64 0] 191 (0,0))).alloc (.cells #[.int .i64 0,.int .i64 0,.int .i64 0,.string ⟨#[]⟩,.int .i64 0,.slice none 0 0,.int .i64 0,.int .i64 0,.slice none 0 0,.int .i64 0,.int .i64 0,.int .i64 0] 42 (0,0)):=⟨_,rfl⟩
 have hds0:TDS w W1 (w.heap.size+1) (.slice q0 b.length c0) (b,0) (w.heap.size+1+1) #[.int .i64 0,.int .i64 0,.int .i64 0,.string ⟨#[]⟩,.int .i64 0,.slice none 0 0,.int .i64 0,.int .i64 0,.slice none 0 0,.int .i64 0,.int .i64 0,.int .i64 0]:=by
  have m2:Mod [] W0 W1:=by rw [hW1];exact ((Mod.refl _ _).alloc _).alloc _
  have a1:=blk_alloc (heap_alloc_new W0 (.cells #[.slice q0 b.length c0,.int .i64 0] 191 (0,0))) (.cells #[.int .i64 0,.int .i64 0,.int .i64 0,.string ⟨#[]⟩,.int .i64 0,.slice none 0 0,.int .i64 0,.int .i64 0,.slice none 0 0,.int .i64 0,.int .i64 0,.int .i64 0] 42 (0,0))
  rw [← hW1,hsz0] at a1
  have a2:=heap_alloc_new (W0.alloc (.cells #[.slice q0 b.length c0,.int .i64 0] 191 (0,0))) (.cells #[.int .i64 0,.int .i64 0,.int .i64 0,.string ⟨#[]⟩,.int .i64 0,.slice none 0 0,.int .i64 0,.int .i64 0,.slice none 0 0,.int .i64 0,.int .i64 0,.int .i64 0] 42 (0,0))
  rw [← hW1,show (W0.alloc (.cells #[.slice q0 b.length c0,.int .i64 0] 191 (0,0))).heap.size=w.heap.size+1+1 by simp [hsz0]] at a2
  exact ⟨⟨a1,hu.mod (hm0.then m2) (by simp),fun e=>by have:=hob _ e;omega⟩,hob,Nat.lt_succ_self _,Nat.lt_succ_self _,a2,m2.at_ hz0 (by simp),hm0.then m2⟩
 have hnum:=num_tds hds0 hE0
 have CX:=hds0.box.1;have FX:=hds0.box.2
 have HXW0:w.heap.size<w.heap.size+1+1:=by omega
 have HL:Hid (b.length≤188):=hide (by omega)
 clear hz0 hm0 hu hob hds0 hl
 go_enter Tryz.func95,Tryz.ntmps95
 go_upto_region 1 with fail
 rw [← hW0]
 clear hW0
 go_upto_region 5 with fail
 rw [← hW1]
 clear hW1 hsz0
 obtain ⟨p,hp⟩:∃ p,w.heap.size+1=p:=⟨_,rfl⟩
 rw [hp] at hnum CX FX HXW0 ⊢
 obtain ⟨X,hX⟩:∃ X,p+1=X:=⟨_,rfl⟩
 rw [hX] at hnum CX FX HXW0 ⊢
 have HXW:=hide HXW0
 clear hp hX HXW0
 go_upto_region 6 with (go_at_call 134;refine hnum.mono ?_;rintro e w2 ⟨rfl,v2,h2⟩;clear hnum CX FX;have CX:=h2.box.1;have FX:=h2.box.2;have hds1:=hide h2;clear h2)
 obtain ⟨W3,hW3⟩:∃ W3,W3=w2.setCell ⟨X,0,none⟩ (.int .i64 kd):=⟨_,rfl⟩
 rw [← hW3]
 have hds:Hid (TDS w W3 p v2 s0 X #[.int .i64 kd,.int .i64 0,.int .i64 0,.string ⟨#[]⟩,.int .i64 0,.slice none 0 0,.int .i64 0,.int .i64 0,.slice none 0 0,.int .i64 0,.int .i64 0,.int .i64 0]):=by rw [hW3];exact hide (hds1.out.set 0 (.int .i64 kd))
 clear CX FX
 have CX:=hds.out.box.1
 have FX:=hds.out.box.2
 clear hW3 hds1
 go_upto_block 0 with fail
 go_cut [] (fun wx=>RDMid w b X wx)
 case first =>
  have hkd:kd=1∨kd=2∨kd=3∨kd=4∨kd=5∨kd=6∨kd=7∨(¬ kd=1∧¬ kd=2∧¬ kd=3∧¬ kd=4∧¬ kd=5∧¬ kd=6∧¬ kd=7):=by omega
  rcases hkd with rfl | rfl | rfl | rfl | rfl | rfl | rfl | hkd
  -- kind 1
  · skip
    have t1:=hide trivial
    have t2:=hide trivial
    have t9:=hide trivial
    obtain ⟨⟨n1,s1⟩,hE1⟩:∃ t,nxt s0=t:=⟨_,rfl⟩
    obtain ⟨⟨n2,s2⟩,hE2⟩:∃ t,nxt s1=t:=⟨_,rfl⟩
    have HLO:Hid (looseB 188 b=(⟨1,Grt.zero,0,[],n1,n2,0⟩:Rcd)):=by
     show looseB 188 b=_
     unfold looseB looseR
     rw [hE0]
     simp [hE1,hE2,Rcd.zero]
    have HE1:=hide hE1
    have HE2:=hide hE2
    clear hE1 hE2
    go_wp2_with (first
     | (have tk:=t1;go_at_call 134;refine (num_tds hds.out HE1.out).mono ?_;rintro e W2 ⟨rfl,v2,h2⟩;clear tk;clear t1;have hds2:Hid (TDS w W2 p v2 s1 X #[.int .i64 1,.int .i64 0,.int .i64 0,.string ⟨#[]⟩,.int .i64 0,.slice none 0 0,.int .i64 0,.int .i64 0,.slice none 0 0,.int .i64 0,.int .i64 0,.int .i64 0]):=h2;clear hds CX FX h2;have hds:=hds2;clear hds2;have CX:=hds.out.box.1;have FX:=hds.out.box.2)
     | (have tk:=t2;go_at_call 134;refine (num_tds (hds.out.set 9 (.int .i64 n1)) HE2.out).mono ?_;rintro e W2 ⟨rfl,v2,h2⟩;clear tk;clear t2;have hds2:Hid (TDS w W2 p v2 s2 X #[.int .i64 1,.int .i64 0,.int .i64 0,.string ⟨#[]⟩,.int .i64 0,.slice none 0 0,.int .i64 0,.int .i64 0,.slice none 0 0,.int .i64 n1,.int .i64 0,.int .i64 0]):=h2;clear hds CX FX h2;have hds:=hds2;clear hds2;have CX:=hds.out.box.1;have FX:=hds.out.box.2)
     | fail)
    go_meet
    case rel =>
     have hd5:=(hds.out.set 10 (.int .i64 n2))
     exact ⟨(⟨1,Grt.zero,0,[],n1,n2,0⟩:Rcd),none,0,0,none,0,0,HLO.out,hd5.bx,rdN_nil _,rdN_nil _,(by show ByteArray.empty.size≤_;decide),hd5.bz,hd5.md,(by simp [ob,Value.ownBlock]),(by simp [ob,Value.ownBlock])⟩
  -- kind 2
  · skip
    have t1:=hide trivial
    have t9:=hide trivial
    obtain ⟨⟨n1,s1⟩,hE1⟩:∃ t,nxt s0=t:=⟨_,rfl⟩
    have HLO:Hid (looseB 188 b=(⟨2,Grt.zero,0,[],0,0,n1⟩:Rcd)):=by
     show looseB 188 b=_
     unfold looseB looseR
     rw [hE0]
     simp [hE1,Rcd.zero]
    have HE1:=hide hE1
    clear hE1
    go_wp2_with (first
     | (have tk:=t1;go_at_call 134;refine (num_tds hds.out HE1.out).mono ?_;rintro e W2 ⟨rfl,v2,h2⟩;clear tk;clear t1;have hds2:Hid (TDS w W2 p v2 s1 X #[.int .i64 2,.int .i64 0,.int .i64 0,.string ⟨#[]⟩,.int .i64 0,.slice none 0 0,.int .i64 0,.int .i64 0,.slice none 0 0,.int .i64 0,.int .i64 0,.int .i64 0]):=h2;clear hds CX FX h2;have hds:=hds2;clear hds2;have CX:=hds.out.box.1;have FX:=hds.out.box.2)
     | fail)
    go_meet
    case rel =>
     have hd5:=(hds.out.set 11 (.int .i64 n1))
     exact ⟨(⟨2,Grt.zero,0,[],0,0,n1⟩:Rcd),none,0,0,none,0,0,HLO.out,hd5.bx,rdN_nil _,rdN_nil _,(by show ByteArray.empty.size≤_;decide),hd5.bz,hd5.md,(by simp [ob,Value.ownBlock]),(by simp [ob,Value.ownBlock])⟩
  -- kind 3
  · skip
    have t1:=hide trivial
    have t2:=hide trivial
    have t3:=hide trivial
    have t4:=hide trivial
    have t5:=hide trivial
    have t6:=hide trivial
    have t9:=hide trivial
    obtain ⟨⟨n1,s1⟩,hE1⟩:∃ t,nxt s0=t:=⟨_,rfl⟩
    obtain ⟨⟨n2,s2⟩,hE2⟩:∃ t,nxt s1=t:=⟨_,rfl⟩
    obtain ⟨⟨pt,s3⟩,hE3⟩:∃ t,txt 188 s2=t:=⟨_,rfl⟩
    obtain ⟨⟨n4,s4⟩,hE4⟩:∃ t,nxt s3=t:=⟨_,rfl⟩
    obtain ⟨⟨n5,s5⟩,hE5⟩:∃ t,nxt s4=t:=⟨_,rfl⟩
    obtain ⟨⟨st,s6⟩,hE6⟩:∃ t,countersS s5=t:=⟨_,rfl⟩
    have HLO:Hid (looseB 188 b=(⟨3,⟨n1,n2,pt,n4,st,n5⟩,0,[],0,0,0⟩:Rcd)):=by
     show looseB 188 b=_
     unfold looseB looseR
     rw [hE0]
     simp [looseG,hE1,hE2,hE3,hE4,hE5,hE6,Rcd.zero]
    have hpt:pt.size≤9223372036854775806:=by
     have l0:=nxt_left (b,0)
     have l1:=nxt_left s0
     have l2:=nxt_left s1
     have l3:=txt_size 188 s2
     have l4:=HL.out
     rw [hE0] at l0
     rw [hE1] at l1
     rw [hE2] at l2
     rw [hE3] at l3
     dsimp only at l0 l1 l2 l3
     omega
    have HE1:=hide hE1
    have HE2:=hide hE2
    have HE3:=hide hE3
    have HE4:=hide hE4
    have HE5:=hide hE5
    have HE6:=hide hE6
    clear hE1 hE2 hE3 hE4 hE5 hE6
    go_upto_region 16 with (first
     | (have tk:=t1;go_at_call 134;refine (num_tds hds.out HE1.out).mono ?_;rintro e W2 ⟨rfl,v2,h2⟩;clear tk;clear t1;have hds2:Hid (TDS w W2 p v2 s1 X #[.int .i64 3,.int .i64 0,.int .i64 0,.string ⟨#[]⟩,.int .i64 0,.slice none 0 0,.int .i64 0,.int .i64 0,.slice none 0 0,.int .i64 0,.int .i64 0,.int .i64 0]):=h2;clear hds CX FX h2;have hds:=hds2;clear hds2;have CX:=hds.out.box.1;have FX:=hds.out.box.2)
     | (have tk:=t2;go_at_call 134;refine (num_tds (hds.out.set 1 (.int .i64 n1)) HE2.out).mono ?_;rintro e W2 ⟨rfl,v2,h2⟩;clear tk;clear t2;have hds2:Hid (TDS w W2 p v2 s2 X #[.int .i64 3,.int .i64 n1,.int .i64 0,.string ⟨#[]⟩,.int .i64 0,.slice none 0 0,.int .i64 0,.int .i64 0,.slice none 0 0,.int .i64 0,.int .i64 0,.int .i64 0]):=h2;clear hds CX FX h2;have hds:=hds2;clear hds2;have CX:=hds.out.box.1;have FX:=hds.out.box.2)
     | fail)
    obtain ⟨W4,hW4⟩:∃ x,x=W2.setCell ⟨X,2,none⟩ (.int .i64 n2):=⟨_,rfl⟩
    rw [← hW4]
    have hd4:Hid (TDS w W4 p v2 s2 X #[.int .i64 3,.int .i64 n1,.int .i64 n2,.string ⟨#[]⟩,.int .i64 0,.slice none 0 0,.int .i64 0,.int .i64 0,.slice none 0 0,.int .i64 0,.int .i64 0,.int .i64 0]):=by rw [hW4];exact hide (hds.out.set 2 (.int .i64 n2))
    clear hW4 CX FX hds
    have CP:=blk_cell hd4.out.rr.blk
    go_upto_region 17 with (go_at_call 135;refine (txt_tds hd4.out HE3.out).mono ?_;rintro e W5 ⟨v5,rfl,h5,hr5,ho5⟩;obtain ⟨q5,c5,rfl⟩:=hr5.len;have H5:=Hj3 h5 hr5 ho5;clear h5 hr5 ho5 CP)
    obtain ⟨W6,hW6⟩:∃ x,x=W5.alloc (.cells #[(.slice q5 s3.1.length c5),.int .i64 s3.2] 189 (0,0)):=⟨_,rfl⟩
    rw [← hW6]
    have h6:TDS w W6 p v2 s2 X #[.int .i64 3,.int .i64 n1,.int .i64 n2,.string ⟨#[]⟩,.int .i64 0,.slice none 0 0,.int .i64 0,.int .i64 0,.slice none 0 0,.int .i64 0,.int .i64 0,.int .i64 0]:=by rw [hW6];exact H5.out.1.quiet ((Mod.refl _ _).alloc _)
    have hb6:W6.heap[W5.heap.size]?=some (.cells #[(.slice q5 s3.1.length c5),.int .i64 s3.2] 189 (0,0)):=by rw [hW6];exact heap_alloc_new _ _
    have hr6:RdY W6 (.slice q5 s3.1.length c5) s3.1:=by rw [hW6];exact H5.out.2.1.mod ((Mod.refl [] W5).alloc _) (by simp)
    have CP:=blk_cell h6.rr.blk;have FP:=blk_free h6.rr.blk;have LP:=lt_of_block h6.rr.blk;have CN:=blk_cell hb6
    have H6:=Hj2 h6 hr6
    clear hW6 h6 hb6 hr6
    go_upto_region 18 with fail
    obtain ⟨W7,hW7⟩:∃ x,x=(W6.setCell ⟨p,0,none⟩ (.slice q5 s3.1.length c5)).setCell ⟨p,1,none⟩ (.int .i64 s3.2):=⟨_,rfl⟩
    rw [← hW7]
    have hds:Hid (TDS w W7 p (.slice q5 s3.1.length c5) s3 X #[.int .i64 3,.int .i64 n1,.int .i64 n2,.string ⟨#[]⟩,.int .i64 0,.slice none 0 0,.int .i64 0,.int .i64 0,.slice none 0 0,.int .i64 0,.int .i64 0,.int .i64 0]):=by rw [hW7];exact hide (H6.out.1.took H6.out.2 H5.out.2.2)
    clear hW7 CP FP LP CN
    have CX:=hds.out.box.1;have FX:=hds.out.box.2
    go_wp2_with (first
     | (have tk:=t4;go_at_call 134;refine (num_tds (hds.out.set 3 (.string pt)) HE4.out).mono ?_;rintro e W2 ⟨rfl,v2,h2⟩;clear tk;clear t4;have hds2:Hid (TDS w W2 p v2 s4 X #[.int .i64 3,.int .i64 n1,.int .i64 n2,.string pt,.int .i64 0,.slice none 0 0,.int .i64 0,.int .i64 0,.slice none 0 0,.int .i64 0,.int .i64 0,.int .i64 0]):=h2;clear hds CX FX h2;have hds:=hds2;clear hds2;have CX:=hds.out.box.1;have FX:=hds.out.box.2)
     | (have tk:=t5;go_at_call 134;refine (num_tds (hds.out.set 4 (.int .i64 n4)) HE5.out).mono ?_;rintro e W2 ⟨rfl,v2,h2⟩;clear tk;clear t5;have hds2:Hid (TDS w W2 p v2 s5 X #[.int .i64 3,.int .i64 n1,.int .i64 n2,.string pt,.int .i64 n4,.slice none 0 0,.int .i64 0,.int .i64 0,.slice none 0 0,.int .i64 0,.int .i64 0,.int .i64 0]):=h2;clear hds CX FX h2;have hds:=hds2;clear hds2;have CX:=hds.out.box.1;have FX:=hds.out.box.2)
     | (have tk:=t6;go_at_call 136;have HXP:=hide (lt_of_block ((hds.out.set 6 (.int .i64 n5))).bx);refine (ctr_tds (hds.out.set 6 (.int .i64 n5)) HE6.out).mono ?_;rintro e W2 ⟨qs,cs,rfl,hown,v2,h2⟩;clear tk;have HOW:=hide hown;clear hown;clear t6;have hds2:Hid (TDS w W2 p v2 s6 X #[.int .i64 3,.int .i64 n1,.int .i64 n2,.string pt,.int .i64 n4,.slice none 0 0,.int .i64 n5,.int .i64 0,.slice none 0 0,.int .i64 0,.int .i64 0,.int .i64 0]):=h2;clear hds CX FX h2;have hds:=hds2;clear hds2;have CX:=hds.out.box.1;have FX:=hds.out.box.2)
     | fail)
    go_meet
    case rel =>
     have hd5:=(hds.out.set 5 (.slice qs st.length cs))
     exact ⟨(⟨3,⟨n1,n2,pt,n4,st,n5⟩,0,[],0,0,0⟩:Rcd),qs,st.length,cs,none,0,0,HLO.out,hd5.bx,(rdN_of_row HOW.out).mod (S:=[X]) ((Mod.refl _ _).setCell (fun _=>by simp) _) (fun k hk e=>by have:=(ob_of_row HOW.out k hk).1;have:=HXP.out;have:=HXW.out;simp at e;omega),rdN_nil _,(hpt),hd5.bz,hd5.md,(fun k hk e=>by have:=(ob_of_row HOW.out k hk).1;have:=HXP.out;have:=HXW.out;simp at e;omega),(by simp [ob,Value.ownBlock])⟩
  -- kind 4
  · skip
    have t1:=hide trivial
    have t2:=hide trivial
    have t3:=hide trivial
    have t4:=hide trivial
    have t5:=hide trivial
    have t6:=hide trivial
    have t9:=hide trivial
    obtain ⟨⟨n1,s1⟩,hE1⟩:∃ t,nxt s0=t:=⟨_,rfl⟩
    obtain ⟨⟨n2,s2⟩,hE2⟩:∃ t,nxt s1=t:=⟨_,rfl⟩
    obtain ⟨⟨pt,s3⟩,hE3⟩:∃ t,txt 188 s2=t:=⟨_,rfl⟩
    obtain ⟨⟨n4,s4⟩,hE4⟩:∃ t,nxt s3=t:=⟨_,rfl⟩
    obtain ⟨⟨n5,s5⟩,hE5⟩:∃ t,nxt s4=t:=⟨_,rfl⟩
    obtain ⟨⟨st,s6⟩,hE6⟩:∃ t,countersS s5=t:=⟨_,rfl⟩
    have HLO:Hid (looseB 188 b=(⟨4,⟨n1,n2,pt,n4,st,n5⟩,0,[],0,0,0⟩:Rcd)):=by
     show looseB 188 b=_
     unfold looseB looseR
     rw [hE0]
     simp [looseG,hE1,hE2,hE3,hE4,hE5,hE6,Rcd.zero]
    have hpt:pt.size≤9223372036854775806:=by
     have l0:=nxt_left (b,0)
     have l1:=nxt_left s0
     have l2:=nxt_left s1
     have l3:=txt_size 188 s2
     have l4:=HL.out
     rw [hE0] at l0
     rw [hE1] at l1
     rw [hE2] at l2
     rw [hE3] at l3
     dsimp only at l0 l1 l2 l3
     omega
    have HE1:=hide hE1
    have HE2:=hide hE2
    have HE3:=hide hE3
    have HE4:=hide hE4
    have HE5:=hide hE5
    have HE6:=hide hE6
    clear hE1 hE2 hE3 hE4 hE5 hE6
    go_upto_region 16 with (first
     | (have tk:=t1;go_at_call 134;refine (num_tds hds.out HE1.out).mono ?_;rintro e W2 ⟨rfl,v2,h2⟩;clear tk;clear t1;have hds2:Hid (TDS w W2 p v2 s1 X #[.int .i64 4,.int .i64 0,.int .i64 0,.string ⟨#[]⟩,.int .i64 0,.slice none 0 0,.int .i64 0,.int .i64 0,.slice none 0 0,.int .i64 0,.int .i64 0,.int .i64 0]):=h2;clear hds CX FX h2;have hds:=hds2;clear hds2;have CX:=hds.out.box.1;have FX:=hds.out.box.2)
     | (have tk:=t2;go_at_call 134;refine (num_tds (hds.out.set 1 (.int .i64 n1)) HE2.out).mono ?_;rintro e W2 ⟨rfl,v2,h2⟩;clear tk;clear t2;have hds2:Hid (TDS w W2 p v2 s2 X #[.int .i64 4,.int .i64 n1,.int .i64 0,.string ⟨#[]⟩,.int .i64 0,.slice none 0 0,.int .i64 0,.int .i64 0,.slice none 0 0,.int .i64 0,.int .i64 0,.int .i64 0]):=h2;clear hds CX FX h2;have hds:=hds2;clear hds2;have CX:=hds.out.box.1;have FX:=hds.out.box.2)
     | fail)
    obtain ⟨W4,hW4⟩:∃ x,x=W2.setCell ⟨X,2,none⟩ (.int .i64 n2):=⟨_,rfl⟩
    rw [← hW4]
    have hd4:Hid (TDS w W4 p v2 s2 X #[.int .i64 4,.int .i64 n1,.int .i64 n2,.string ⟨#[]⟩,.int .i64 0,.slice none 0 0,.int .i64 0,.int .i64 0,.slice none 0 0,.int .i64 0,.int .i64 0,.int .i64 0]):=by rw [hW4];exact hide (hds.out.set 2 (.int .i64 n2))
    clear hW4 CX FX hds
    have CP:=blk_cell hd4.out.rr.blk
    go_upto_region 17 with (go_at_call 135;refine (txt_tds hd4.out HE3.out).mono ?_;rintro e W5 ⟨v5,rfl,h5,hr5,ho5⟩;obtain ⟨q5,c5,rfl⟩:=hr5.len;have H5:=Hj3 h5 hr5 ho5;clear h5 hr5 ho5 CP)
    obtain ⟨W6,hW6⟩:∃ x,x=W5.alloc (.cells #[(.slice q5 s3.1.length c5),.int .i64 s3.2] 189 (0,0)):=⟨_,rfl⟩
    rw [← hW6]
    have h6:TDS w W6 p v2 s2 X #[.int .i64 4,.int .i64 n1,.int .i64 n2,.string ⟨#[]⟩,.int .i64 0,.slice none 0 0,.int .i64 0,.int .i64 0,.slice none 0 0,.int .i64 0,.int .i64 0,.int .i64 0]:=by rw [hW6];exact H5.out.1.quiet ((Mod.refl _ _).alloc _)
    have hb6:W6.heap[W5.heap.size]?=some (.cells #[(.slice q5 s3.1.length c5),.int .i64 s3.2] 189 (0,0)):=by rw [hW6];exact heap_alloc_new _ _
    have hr6:RdY W6 (.slice q5 s3.1.length c5) s3.1:=by rw [hW6];exact H5.out.2.1.mod ((Mod.refl [] W5).alloc _) (by simp)
    have CP:=blk_cell h6.rr.blk;have FP:=blk_free h6.rr.blk;have LP:=lt_of_block h6.rr.blk;have CN:=blk_cell hb6
    have H6:=Hj2 h6 hr6
    clear hW6 h6 hb6 hr6
    go_upto_region 18 with fail
    obtain ⟨W7,hW7⟩:∃ x,x=(W6.setCell ⟨p,0,none⟩ (.slice q5 s3.1.length c5)).setCell ⟨p,1,none⟩ (.int .i64 s3.2):=⟨_,rfl⟩
    rw [← hW7]
    have hds:Hid (TDS w W7 p (.slice q5 s3.1.length c5) s3 X #[.int .i64 4,.int .i64 n1,.int .i64 n2,.string ⟨#[]⟩,.int .i64 0,.slice none 0 0,.int .i64 0,.int .i64 0,.slice none 0 0,.int .i64 0,.int .i64 0,.int .i64 0]):=by rw [hW7];exact hide (H6.out.1.took H6.out.2 H5.out.2.2)
    clear hW7 CP FP LP CN
    have CX:=hds.out.box.1;have FX:=hds.out.box.2
    go_wp2_with (first
     | (have tk:=t4;go_at_call 134;refine (num_tds (hds.out.set 3 (.string pt)) HE4.out).mono ?_;rintro e W2 ⟨rfl,v2,h2⟩;clear tk;clear t4;have hds2:Hid (TDS w W2 p v2 s4 X #[.int .i64 4,.int .i64 n1,.int .i64 n2,.string pt,.int .i64 0,.slice none 0 0,.int .i64 0,.int .i64 0,.slice none 0 0,.int .i64 0,.int .i64 0,.int .i64 0]):=h2;clear hds CX FX h2;have hds:=hds2;clear hds2;have CX:=hds.out.box.1;have FX:=hds.out.box.2)
     | (have tk:=t5;go_at_call 134;refine (num_tds (hds.out.set 4 (.int .i64 n4)) HE5.out).mono ?_;rintro e W2 ⟨rfl,v2,h2⟩;clear tk;clear t5;have hds2:Hid (TDS w W2 p v2 s5 X #[.int .i64 4,.int .i64 n1,.int .i64 n2,.string pt,.int .i64 n4,.slice none 0 0,.int .i64 0,.int .i64 0,.slice none 0 0,.int .i64 0,.int .i64 0,.int .i64 0]):=h2;clear hds CX FX h2;have hds:=hds2;clear hds2;have CX:=hds.out.box.1;have FX:=hds.out.box.2)
     | (have tk:=t6;go_at_call 136;have HXP:=hide (lt_of_block ((hds.out.set 6 (.int .i64 n5))).bx);refine (ctr_tds (hds.out.set 6 (.int .i64 n5)) HE6.out).mono ?_;rintro e W2 ⟨qs,cs,rfl,hown,v2,h2⟩;clear tk;have HOW:=hide hown;clear hown;clear t6;have hds2:Hid (TDS w W2 p v2 s6 X #[.int .i64 4,.int .i64 n1,.int .i64 n2,.string pt,.int .i64 n4,.slice none 0 0,.int .i64 n5,.int .i64 0,.slice none 0 0,.int .i64 0,.int .i64 0,.int .i64 0]):=h2;clear hds CX FX h2;have hds:=hds2;clear hds2;have CX:=hds.out.box.1;have FX:=hds.out.box.2)
     | fail)
    go_meet
    case rel =>
     have hd5:=(hds.out.set 5 (.slice qs st.length cs))
     exact ⟨(⟨4,⟨n1,n2,pt,n4,st,n5⟩,0,[],0,0,0⟩:Rcd),qs,st.length,cs,none,0,0,HLO.out,hd5.bx,(rdN_of_row HOW.out).mod (S:=[X]) ((Mod.refl _ _).setCell (fun _=>by simp) _) (fun k hk e=>by have:=(ob_of_row HOW.out k hk).1;have:=HXP.out;have:=HXW.out;simp at e;omega),rdN_nil _,(hpt),hd5.bz,hd5.md,(fun k hk e=>by have:=(ob_of_row HOW.out k hk).1;have:=HXP.out;have:=HXW.out;simp at e;omega),(by simp [ob,Value.ownBlock])⟩
  -- kind 5
  · skip
    have t1:=hide trivial
    have t2:=hide trivial
    have t9:=hide trivial
    obtain ⟨⟨n1,s1⟩,hE1⟩:∃ t,nxt s0=t:=⟨_,rfl⟩
    obtain ⟨⟨st,s2⟩,hE2⟩:∃ t,countersS s1=t:=⟨_,rfl⟩
    have HLO:Hid (looseB 188 b=(⟨5,Grt.zero,n1,st,0,0,0⟩:Rcd)):=by
     show looseB 188 b=_
     unfold looseB looseR
     rw [hE0]
     simp [hE1,hE2,Rcd.zero]
    have HE1:=hide hE1
    have HE2:=hide hE2
    clear hE1 hE2
    go_wp2_with (first
     | (have tk:=t1;go_at_call 134;refine (num_tds hds.out HE1.out).mono ?_;rintro e W2 ⟨rfl,v2,h2⟩;clear tk;clear t1;have hds2:Hid (TDS w W2 p v2 s1 X #[.int .i64 5,.int .i64 0,.int .i64 0,.string ⟨#[]⟩,.int .i64 0,.slice none 0 0,.int .i64 0,.int .i64 0,.slice none 0 0,.int .i64 0,.int .i64 0,.int .i64 0]):=h2;clear hds CX FX h2;have hds:=hds2;clear hds2;have CX:=hds.out.box.1;have FX:=hds.out.box.2)
     | (have tk:=t2;go_at_call 136;have HXP:=hide (lt_of_block ((hds.out.set 7 (.int .i64 n1))).bx);refine (ctr_tds (hds.out.set 7 (.int .i64 n1)) HE2.out).mono ?_;rintro e W2 ⟨qs,cs,rfl,hown,v2,h2⟩;clear tk;have HOW:=hide hown;clear hown;clear t2;have hds2:Hid (TDS w W2 p v2 s2 X #[.int .i64 5,.int .i64 0,.int .i64 0,.string ⟨#[]⟩,.int .i64 0,.slice none 0 0,.int .i64 0,.int .i64 n1,.slice none 0 0,.int .i64 0,.int .i64 0,.int .i64 0]):=h2;clear hds CX FX h2;have hds:=hds2;clear hds2;have CX:=hds.out.box.1;have FX:=hds.out.box.2)
     | fail)
    go_meet
    case rel =>
     have hd5:=(hds.out.set 8 (.slice qs st.length cs))
     exact ⟨(⟨5,Grt.zero,n1,st,0,0,0⟩:Rcd),none,0,0,qs,st.length,cs,HLO.out,hd5.bx,rdN_nil _,(rdN_of_row HOW.out).mod (S:=[X]) ((Mod.refl _ _).setCell (fun _=>by simp) _) (fun k hk e=>by have:=(ob_of_row HOW.out k hk).1;have:=HXP.out;have:=HXW.out;simp at e;omega),(by show ByteArray.empty.size≤_;decide),hd5.bz,hd5.md,(by simp [ob,Value.ownBlock]),(fun k hk e=>by have:=(ob_of_row HOW.out k hk).1;have:=HXP.out;have:=HXW.out;simp at e;omega)⟩
  -- kind 6
  · skip
    have t1:=hide trivial
    have t9:=hide trivial
    obtain ⟨⟨n1,s1⟩,hE1⟩:∃ t,nxt s0=t:=⟨_,rfl⟩
    have HLO:Hid (looseB 188 b=(⟨6,Grt.zero,n1,[],0,0,0⟩:Rcd)):=by
     show looseB 188 b=_
     unfold looseB looseR
     rw [hE0]
     simp [hE1,Rcd.zero]
    have HE1:=hide hE1
    clear hE1
    go_wp2_with (first
     | (have tk:=t1;go_at_call 134;refine (num_tds hds.out HE1.out).mono ?_;rintro e W2 ⟨rfl,v2,h2⟩;clear tk;clear t1;have hds2:Hid (TDS w W2 p v2 s1 X #[.int .i64 6,.int .i64 0,.int .i64 0,.string ⟨#[]⟩,.int .i64 0,.slice none 0 0,.int .i64 0,.int .i64 0,.slice none 0 0,.int .i64 0,.int .i64 0,.int .i64 0]):=h2;clear hds CX FX h2;have hds:=hds2;clear hds2;have CX:=hds.out.box.1;have FX:=hds.out.box.2)
     | fail)
    go_meet
    case rel =>
     have hd5:=(hds.out.set 7 (.int .i64 n1))
     exact ⟨(⟨6,Grt.zero,n1,[],0,0,0⟩:Rcd),none,0,0,none,0,0,HLO.out,hd5.bx,rdN_nil _,rdN_nil _,(by show ByteArray.empty.size≤_;decide),hd5.bz,hd5.md,(by simp [ob,Value.ownBlock]),(by simp [ob,Value.ownBlock])⟩
  -- kind 7
  · skip
    have t9:=hide trivial
    have HLO:Hid (looseB 188 b=(⟨7,Grt.zero,0,[],0,0,0⟩:Rcd)):=by
     show looseB 188 b=_
     unfold looseB looseR
     rw [hE0]
     simp [Rcd.zero]
    go_wp2_with fail
    go_meet
    case rel =>
     have hd5:=hds.out
     exact ⟨(⟨7,Grt.zero,0,[],0,0,0⟩:Rcd),none,0,0,none,0,0,HLO.out,hd5.bx,rdN_nil _,rdN_nil _,(by show ByteArray.empty.size≤_;decide),hd5.bz,hd5.md,(by simp [ob,Value.ownBlock]),(by simp [ob,Value.ownBlock])⟩
  -- kind o
  · skip
    have t9:=hide trivial
    have HLO:Hid (looseB 188 b=(⟨kd,Grt.zero,0,[],0,0,0⟩:Rcd)):=by
     show looseB 188 b=_
     unfold looseB looseR
     rw [hE0]
     rw [if_neg hkd.1,if_neg hkd.2.1,if_neg (by omega),if_neg hkd.2.2.2.2.1,if_neg hkd.2.2.2.2.2.1]
     rfl
    have n1:(kd==1)=false:=by simp;omega
    have n2:(kd==2)=false:=by simp;omega
    have n3:(kd==3)=false:=by simp;omega
    have n4:(kd==4)=false:=by simp;omega
    have n5:(kd==5)=false:=by simp;omega
    have n6:(kd==6)=false:=by simp;omega
    clear hkd
    go_wp2_with fail
    go_meet
    case rel =>
     have hd5:=hds.out
     exact ⟨(⟨kd,Grt.zero,0,[],0,0,0⟩:Rcd),none,0,0,none,0,0,HLO.out,hd5.bx,rdN_nil _,rdN_nil _,(by show ByteArray.empty.size≤_;decide),hd5.bz,hd5.md,(by simp [ob,Value.ownBlock]),(by simp [ob,Value.ownBlock])⟩
 case rest =>
 obtain ⟨⟨kd,⟨gi,gh,gp,gm,gs,gt⟩,ri,rs,rn,rb,rl⟩,p1,n1,c1,p2,n2,c2,hlo,hbx,hr1,hr2,hpa,hbz,hmd,hob⟩:=hcut
 have HOB:=hide hob
 clear hob
 obtain ⟨W5,rfl⟩:∃ x:World,x=wc:=⟨_,rfl⟩
 have henc:=rencode_any hr1 hr2 hpa
 obtain ⟨M,hM⟩:∃ M,mayB ⟨kd,⟨gi,gh,gp,gm,gs,gt⟩,ri,rs,rn,rb,rl⟩=M:=⟨_,rfl⟩
 obtain ⟨EB,hEB⟩:∃ EB,encB ⟨kd,⟨gi,gh,gp,gm,gs,gt⟩,ri,rs,rn,rb,rl⟩=EB:=⟨_,rfl⟩
 obtain ⟨S1,hS1⟩:∃ S1,(⟨EB.toArray⟩:ByteArray)=S1:=⟨_,rfl⟩
 obtain ⟨S2,hS2⟩:∃ S2,(⟨b.toArray⟩:ByteArray)=S2:=⟨_,rfl⟩
 rw [hM,hEB] at henc
 unfold aggR cellsR at henc
 simp only at henc
 have K5:=blk_cell hbx
 unfold cellsR at K5
 simp only at K5
 have HR:=Hj6 hr1 hr2 hbx hbz hmd hlo
 have HS:=Hj2 hS1 hS2
 have HE:=Hj2 hM hEB
 clear hr1 hr2 hpa hbz hmd hlo hbx hM hEB hds CX FX
 cases M with
 | false =>
   clear hS1 hS2
   go_wp2_with (first
    | (go_at_call 68;refine henc.mono ?_;intro e W6 hq;obtain ⟨rfl,hm6⟩:=hq.f rfl;have hz6:=hm6.at_ HR.out.2.2.2.1 (by simp);unfold zeroR at hz6;have Z0:=blk_cell hz6;have ZF:=blk_free hz6;have H6:=Hj2 hz6 (HR.out.2.2.2.2.1.then hm6);clear hq hm6 hz6 henc K5)
    | fail)
   obtain ⟨hz6,hm6⟩:=H6.out
   have q:=stL_all hz6 [.int .i64 0,.int .i64 0,.int .i64 0,.string ⟨#[]⟩,.int .i64 0,.slice none 0 0,.int .i64 0,.int .i64 0,.slice none 0 0,.int .i64 0,.int .i64 0,.int .i64 0] rfl
   have qm:=stL_mod (S:=[w.heap.size]) (w0:=W6) (r:=w.heap.size) (fun _=>by simp) [.int .i64 0,.int .i64 0,.int .i64 0,.string ⟨#[]⟩,.int .i64 0,.slice none 0 0,.int .i64 0,.int .i64 0,.slice none 0 0,.int .i64 0,.int .i64 0,.int .i64 0] 0 _ (Mod.refl _ _)
   exact bodyPost_ret (v:=.tuple #[.agg zeroR,.int .i64 43]) (res_cell2 Tryz.results95 _ _ rfl q Tryz.isAgg42 Tryz.sizeOf42 rfl) rfl (DecTo.bad (rdec_bad HR.out.2.2.2.2.2 (.inl HE.out.1)) hm6 qm)
 | true =>
   by_cases hb:EB=b
   · have hcm:(S1.toList==S2.toList)=true:=by rw [← hS1,← hS2,hb];simp
     have HB:=hide hb
     clear hS1 hS2 hb
     go_wp2_with (first
      | (go_at_call 68;refine henc.mono ?_;intro e W6 hq;obtain ⟨p6,c6,rfl,hrow6,hm6⟩:=hq.t rfl;have hX6:=hm6.at_ HR.out.2.2.1 (by simp);unfold cellsR at hX6;have RX:=blk_cell hX6
         have hz6:=hm6.at_ HR.out.2.2.2.1 (by simp);unfold zeroR at hz6;have Z0:=blk_cell hz6;have ZF:=blk_free hz6
         have st1:=hrow6.rd.str;rw [HS.out.1] at st1;have st2:=(HU.out.1.mod (S:=[]) (HR.out.2.2.2.2.1.then hm6) (by simp)).str;rw [HS.out.2] at st2
         have HR6:=Hj2 (HR.out.1.mod hm6 (by simp)) (HR.out.2.1.mod hm6 (by simp))
         have H6:=Hj2 hz6 (HR.out.2.2.2.2.1.then hm6);clear hq hm6 hz6 hX6 hrow6 henc K5)
      | fail)
     obtain ⟨hz6,hm6⟩:=H6.out
     have q:=stL_all hz6 [.int .i64 kd,.int .i64 gi,.int .i64 gh,.string gp,.int .i64 gm,.slice p1 n1 c1,.int .i64 gt,.int .i64 ri,.slice p2 n2 c2,.int .i64 rn,.int .i64 rb,.int .i64 rl] rfl
     have qm:=stL_mod (S:=[w.heap.size]) (w0:=W6) (r:=w.heap.size) (fun _=>by simp) [.int .i64 kd,.int .i64 gi,.int .i64 gh,.string gp,.int .i64 gm,.slice p1 n1 c1,.int .i64 gt,.int .i64 ri,.slice p2 n2 c2,.int .i64 rn,.int .i64 rb,.int .i64 rl] 0 _ (Mod.refl _ _)
     exact bodyPost_ret (v:=.tuple #[aggR ⟨kd,⟨gi,gh,gp,gm,gs,gt⟩,ri,rs,rn,rb,rl⟩ (.slice p1 n1 c1) (.slice p2 n2 c2),.int .i64 0]) (res_cell2 Tryz.results95 _ _ rfl q Tryz.isAgg42 Tryz.sizeOf42 rfl) rfl (DecTo.good (rdec_good HR.out.2.2.2.2.2 HE.out.1 (HE.out.2.trans HB.out)) hm6 qm (HR6.out.1.mod qm HOB.out.1) (HR6.out.2.mod qm HOB.out.2))
   · have hcm:(S1.toList==S2.toList)=false:=by
      rw [beq_eq_false_iff_ne,← hS1,← hS2]
      intro e
      rw [Lib.toList_data,Lib.toList_data] at e
      exact hb (by simpa using e)
     have HB:=hide (fun e=>hb (HE.out.2.symm.trans e))
     clear hS1 hS2 hb
     go_wp2_with (first
      | (go_at_call 68;refine henc.mono ?_;intro e W6 hq;obtain ⟨p6,c6,rfl,hrow6,hm6⟩:=hq.t rfl;have hX6:=hm6.at_ HR.out.2.2.1 (by simp);unfold cellsR at hX6;have RX:=blk_cell hX6
         have hz6:=hm6.at_ HR.out.2.2.2.1 (by simp);unfold zeroR at hz6;have Z0:=blk_cell hz6;have ZF:=blk_free hz6
         have st1:=hrow6.rd.str;rw [HS.out.1] at st1;have st2:=(HU.out.1.mod (S:=[]) (HR.out.2.2.2.2.1.then hm6) (by simp)).str;rw [HS.out.2] at st2
         have HR6:=Hj2 (HR.out.1.mod hm6 (by simp)) (HR.out.2.1.mod hm6 (by simp))
         have H6:=Hj2 hz6 (HR.out.2.2.2.2.1.then hm6);clear hq hm6 hz6 hX6 hrow6 henc K5)
      | fail)
     obtain ⟨hz6,hm6⟩:=H6.out
     have q:=stL_all hz6 [.int .i64 0,.int .i64 0,.int .i64 0,.string ⟨#[]⟩,.int .i64 0,.slice none 0 0,.int .i64 0,.int .i64 0,.slice none 0 0,.int .i64 0,.int .i64 0,.int .i64 0] rfl
     have qm:=stL_mod (S:=[w.heap.size]) (w0:=W6) (r:=w.heap.size) (fun _=>by simp) [.int .i64 0,.int .i64 0,.int .i64 0,.string ⟨#[]⟩,.int .i64 0,.slice none 0 0,.int .i64 0,.int .i64 0,.slice none 0 0,.int .i64 0,.int .i64 0,.int .i64 0] 0 _ (Mod.refl _ _)
     exact bodyPost_ret (v:=.tuple #[.agg zeroR,.int .i64 43]) (res_cell2 Tryz.results95 _ _ rfl q Tryz.isAgg42 Tryz.sizeOf42 rfl) rfl (DecTo.bad (rdec_bad HR.out.2.2.2.2.2 (.inr HB.out)) hm6 qm)
end Go.Proofs.YtpphoeimakjjdaaGreatDoor
/-
  WALKS: the document's layer 11: Dump.
-/
namespace Go.Proofs.YtpphoeimakjjdaaGreatDoor
set_option maxRecDepth 100000
set_option maxHeartbeats 4000000
open Go.RowKit

def RDmpRel (W1:World) (base:Nat) (BX:Obj) (pre:List Rcd) (lv:List (Grt × Value)) (u i:Value) (wr:World):Prop :=
 ∃ (k:Nat) (sl:List (Rcd × Value)),i=.int .i64 (k:Int)∧k≤lv.length∧sl.map Prod.fst=pre++(lv.take k).map (fun p=>recK p.1)∧DmM wr base u sl∧Mod [] W1 wr∧wr.heap[W1.heap.size]?=some BX
theorem rdump_any {w:World} {base:Nat} {gv:Value} {b:Bk} {lv:List (Grt × Value)} (h:BkM w base gv b lv) (hv:validB b=true) :
 Calls Tryz.prog 66 #[aggB b gv] w fun e w'=>∃ v lr,e=.returned v∧lr.map Prod.fst=dumpB b∧DmM w' w.heap.size v lr∧Mod [] w w':=by
 have hsm:=valid_small hv h.eq
 have hval:=fun (W:World) (m:Mod [] w W)=>rvalid_any (b:=b) ⟨h.gr.mod m (by simp),h.eq⟩ (fun p hp=>by have:=(hsm.2 p hp).2;omega)
 rw [hv] at hval
 have hdp:=dump_pre b
 obtain ⟨nx,bo,lo,bg⟩:=b
 have heq:bg=lv.map Prod.fst:=h.eq
 have hlo:lo=0∨legalT lo:=(valid_iff.1 hv).2.1
 obtain ⟨q0,c0,rfl,hmx⟩:=h.gr.shape
 have hmx':lv.length≤9223372036854775807:=hmx
 obtain ⟨W0,hW0⟩:∃ W0,W0=w.alloc (.cells #[.int .i64 nx,.int .i64 bo,.int .i64 lo,.slice q0 lv.length c0] 34 (0,0)):=⟨_,rfl⟩
 have hb0:W0.heap[w.heap.size]?=some (.cells #[.int .i64 nx,.int .i64 bo,.int .i64 lo,.slice q0 lv.length c0] 34 (0,0)):=by rw [hW0];exact heap_alloc_new w _
 have hm0:Mod [] w W0:=by rw [hW0];exact (Mod.refl _ _).alloc _
 have hy:=hval W0 hm0
 have B0:=blk_cell hb0
 obtain ⟨D,hD⟩:∃ D,dumpB ⟨nx,bo,lo,bg⟩=D:=⟨_,rfl⟩
 rw [hD] at hdp ⊢
 obtain ⟨PR,hPR⟩:∃ PR,preB ⟨nx,bo,lo,bg⟩=PR:=⟨_,rfl⟩
 rw [hPR] at hdp
 have HH:=Hj5 h heq hsm hb0 hm0
 have HP:=Hj2 hdp hPR
 clear h heq hsm hb0 hm0 hval hdp hPR hD hmx hv
 unfold aggB at hy ⊢
 simp only at hy ⊢
 go_enter Tryz.func66,Tryz.ntmps66
 go_upto_region 1 with fail
 rw [← hW0]
 clear hW0
 go_upto_region 3 with (go_at_call 88;refine hy.mono ?_;rintro e w1 ⟨rfl,hm1⟩
                        have hb1:=hm1.at_ HH.out.2.2.2.1 (by simp)
                        have B1:=blk_cell hb1
                        have H1:=Hj2 hb1 (HH.out.2.2.2.2.then hm1)
                        clear hb1 hm1 B0 hy)
 go_upto_region 4 with fail
 obtain ⟨W2,hW2⟩:∃ W2,W2=w1.alloc (.cells #[.int .i64 1,.int .i64 0,.int .i64 0,.string ⟨#[]⟩,.int .i64 0,.slice none 0 0,.int .i64 0,.int .i64 0,.slice none 0 0,.int .i64 nx,.int .i64 bo,.int .i64 0] 42 (0,0)):=⟨_,rfl⟩
 rw [← hW2]
 have g2:Gr w1 W2:=by rw [hW2];exact (Gr.refl w1).alloc _
 have hk2:W2.heap[w1.heap.size]?=some (.cells (encP (recC nx bo,.slice none 0 0)).toArray 42 (0,0)):=by rw [hW2];exact heap_alloc_new w1 _
 have hd2:DmM W2 (w.heap.size+1) (.slice (some ⟨w1.heap.size,0,none⟩) 1 1) [(recC nx bo,.slice none 0 0)]:=DmM.one hk2 (lt_of_block H1.out.1) (World.ownsRow_nil _ _ _ _) (by simp [ob,Value.ownBlock]) rfl
 have hb2:=(g2.mod []).at_ H1.out.1 (by simp)
 have B2:=blk_cell hb2
 have hm2:=H1.out.2.gr g2
 clear hW2 g2 hk2 B1
 have H2:=Hj3 hd2 hb2 hm2
 clear hd2 hb2 hm2
 go_upto_if 16 with fail
 go_cut [3] (fun s3 wx=>∃ sl p3 c3,s3=.slice p3 sl.length c3∧DmM wx (w.heap.size+1) (.slice p3 sl.length c3) sl∧sl.map Prod.fst=PR∧Mod [] w wx∧wx.heap[w.heap.size]?=some (.cells #[.int .i64 nx,.int .i64 bo,.int .i64 lo,.slice q0 lv.length c0] 34 (0,0)))
 case first =>
  by_cases hl:0<lo
  · have hl2:(lo != 0)=true:=by simp;omega
    go_wp2_with (
     at_builtin
     obtain ⟨W3,hW3⟩:∃ W3,W3=W2.alloc (.cells #[.int .i64 2,.int .i64 0,.int .i64 0,.string ⟨#[]⟩,.int .i64 0,.slice none 0 0,.int .i64 0,.int .i64 0,.slice none 0 0,.int .i64 0,.int .i64 0,.int .i64 lo] 42 (0,0)):=⟨_,rfl⟩
     try rw [← hW3]
     have g3:Gr W2 W3:=by rw [hW3];exact (Gr.refl W2).alloc _
     have hk3:W3.heap[W2.heap.size]?=some (.cells (encP (recL lo,.slice none 0 0)).toArray 42 (0,0)):=by rw [hW3];exact heap_alloc_new W2 _
     have hs2:w.heap.size+1≤W2.heap.size:=lt_of_block H2.out.2.1
     have hs3:=g3.size
     refine wpList_app_dm (r:=recL lo) (sv:=.slice none 0 0) (sl:=[(recC nx bo,.slice none 0 0)]) (base:=w.heap.size+1) W3 rfl _ _ rfl rfl (H2.out.1.gr g3) (by simp) (by omega) (k:=W2.heap.size) rfl hk3 (World.ownsRow_nil _ _ _ _) (by simp [ob,Value.ownBlock]) rfl ?_
     rintro u' w4 hd4 hm4 ⟨p4,c4,rfl⟩
     have H4:=Hj3 hd4 g3 hm4
     clear hd4 hm4 g3 hk3 hW3 hs2 hs3)
    go_meet
    case rel =>
     obtain ⟨hd4,g3,hm4⟩:=H4.out
     have hob:=(ob_of_row H2.out.1.row)
     refine ⟨[(recC nx bo,.slice none 0 0)]++[(recL lo,.slice none 0 0)],_,_,rfl,hd4,?_,(H2.out.2.2.gr g3).trans hm4 (by simp) (fun x hx hlt=>by have:=hob x hx;omega),hm4.at_ ((g3.mod []).at_ H2.out.2.1 (by simp)) (fun e=>by have h1:=(hob _ e).1;omega)⟩
     rw [← HP.out.2]
     simp [preB,hl]
  · have hl2:(lo != 0)=false:=by rcases hlo with h | h <;> simp <;> unfold legalT at * <;> omega
    clear B2
    go_wp2_with fail
    go_meet
    case rel =>
     refine ⟨[(recC nx bo,.slice none 0 0)],_,_,rfl,H2.out.1,?_,H2.out.2.2,H2.out.2.1⟩
     rw [← HP.out.2]
     simp [preB,show ¬ 0<lo from by omega]
 case rest =>
 obtain ⟨sl0,p3,c3,rfl,hd3,hmap3,hm3,hb3⟩:=hcut
 have B3:=blk_cell hb3
 have hl0:sl0.length≤2:=by
  have:=congrArg List.length hmap3
  rw [← HP.out.2] at this
  simp only [List.length_map,preB] at this
  split at this <;> simp at this <;> omega
 have H3:=Hj5 hd3 hmap3 hm3 hb3 hl0
 clear hd3 hmap3 hm3 hb3 hl0 B2 H2
 go_wp2_with fail
 go_loopw [3,4] (fun u i wr=>RDmpRel w (w.heap.size+1) (.cells #[.int .i64 nx,.int .i64 bo,.int .i64 lo,.slice q0 lv.length c0] 34 (0,0)) PR lv u i wr) (fun _ i _=>lv.length - (intOf i).toNat)
 case atStart=>exact ⟨0,sl0,rfl,Nat.zero_le _,by rw [H3.out.2.1];simp,H3.out.1,H3.out.2.2.1,H3.out.2.2.2.1⟩
 case round =>
  obtain ⟨k,sl,rfl,hk,hmap,hgm,hm,hbxr⟩:=hrel
  have BR:=blk_cell hbxr
  have hsl:sl.length=sl0.length+k:=by
   have h1:=congrArg List.length hmap
   have h2:=congrArg List.length H3.out.2.1
   simp at h1 h2
   omega
  have hl0:=H3.out.2.2.2.2
  have hlv:=HH.out.2.2.1.1
  by_cases hlt:k<lv.length
  · obtain ⟨bb,rfl,hbb,hb1,hc,hf,hrd⟩:=(HH.out.1.gr.mod hm (by simp)).at_ k hlt
    have hls:=(HH.out.2.2.1.2 _ (show lv.getD k default∈lv by simp [hlt])).1
    have htk:(lv.take (k+1)).map (fun p=>recK p.1)=(lv.take k).map (fun p=>recK p.1)++[recK (lv.getD k default).1]:=by rw [List.take_add_one,List.map_append];simp [hlt]
    generalize lv.getD k default=pr at hc hrd hls htk
    obtain ⟨⟨id,ho,pa,mo,st,te⟩,sv⟩:=pr
    simp only at hrd hls htk
    have c0:=hc 0 (by decide)
    have c1:=hc 1 (by decide)
    have c2:=hc 2 (by decide)
    have c3:=hc 3 (by decide)
    have c4:=hc 4 (by decide)
    have c5:=hc 5 (by decide)
    simp [encG,cellsG] at c0 c1 c2 c3 c4 c5
    have ht:=copyG_any (w:=wr) (g:=⟨id,ho,pa,mo,st,te⟩) hrd (by show st.length * 8≤_;omega)
    obtain ⟨qs,cs,rfl⟩:=hrd.len
    unfold aggG cellsG NewG at ht
    simp only at ht
    have HM:=Hj5 hm hgm htk hmap hsl
    have hszr:=hm.size
    have hszw:w.heap.size+1≤wr.heap.size:=lt_of_block hbxr
    have HBR:=hide hbxr
    clear hc hrd hls htk hm hgm hmap hsl hbxr
    go_wp2_with fail
    refine ht.mono ?_
    rintro e w2 ⟨v',rfl,hr2,hm2⟩
    have hgro:=HM.out.2.1.row
    have hap:∀ k,k∈ob v'→k ∉ ob u3:=fun k hk hk2=>by
     have h1:=(ob_of_row hr2 k hk).1
     have h2:=(ob_of_row hgro k hk2).2
     omega
    have hsz2:=hm2.size
    have hst0:=World.ownsRow.mono hr2 (show w.heap.size+1≤_ by omega)
    have hgm0:=HM.out.2.1.mod hm2 (by simp)
    obtain ⟨p',c',hv'⟩:=(rdN_of_row hr2).len
    subst hv'
    obtain ⟨W3,hW3⟩:∃ W3,W3=w2.alloc (.cells #[.int .i64 3,.int .i64 id,.int .i64 ho,.string pa,.int .i64 mo,.slice p' st.length c',.int .i64 te,.int .i64 0,.slice none 0 0,.int .i64 0,.int .i64 0,.int .i64 0] 42 (0,0)):=⟨_,rfl⟩
    have hk3:W3.heap[w2.heap.size]?=some (.cells (encP (recK ⟨id,ho,pa,mo,st,te⟩,.slice p' st.length c')).toArray 42 (0,0)):=by rw [hW3];exact heap_alloc_new w2 _
    have g3:Gr w2 W3:=by rw [hW3];exact (Gr.refl w2).alloc _
    have hgm2:=hgm0.gr g3
    have hst3:=(g3.mod []).row hst0 (by simp)
    have hsz3:w2.heap.size<W3.heap.size:=lt_of_block hk3
    have hslk:=HM.out.2.2.2.2
    have HN:=Hj3 hm2 hgro g3
    have HG2:=Hj4 hgm2 hst3 hap hk3
    clear ht c0 c1 c2 c3 c4 c5 hr2 hm2 hgro hst0 hgm0 hgm2 hst3 hap hk3 g3 BR
    simp only [aggG,cellsG]
    go_wp2_with (
     at_builtin
     try rw [← hW3]
     refine wpList_app_dm (r:=recK ⟨id,ho,pa,mo,st,te⟩) (sv:=.slice p' st.length c') (sl:=sl) (base:=w.heap.size+1) W3 rfl _ _ rfl rfl HG2.out.1 (by omega) (by omega) (k:=w2.heap.size) rfl HG2.out.2.2.2 HG2.out.2.1 HG2.out.2.2.1 rfl ?_
     rintro u' w3 hgm3 hm3 ⟨p5,c5,rfl⟩)
    go_roundw
    case rel =>
     refine ⟨k+1,sl++[(recK ⟨id,ho,pa,mo,st,te⟩,.slice p' st.length c')],by go_num,by omega,?_,(by rw [← hslk];exact hgm3),?_,hm3.at_ ((HN.out.2.2.mod []).at_ (HN.out.1.at_ HBR.out (by simp)) (by simp)) (fun e=>by have:=(ob_of_row HN.out.2.1 _ e).1;omega)⟩
     · rw [HM.out.2.2.1,List.map_append,HM.out.2.2.2.1,List.append_assoc];rfl
     · refine ((HM.out.1.then HN.out.1).gr HN.out.2.2).trans hm3 (by simp) (fun x hx hlt=>?_)
       have:=(ob_of_row HN.out.2.1 x hx).1
       omega
    case measure=>simp [intOf];omega
  · obtain rfl:k=lv.length:=by omega
    obtain ⟨p4,c4,hu,_⟩:=hgm.shape
    subst hu
    have HE:=Hj3 hm hgm hmap
    clear hm hgm hmap hsl hbxr
    go_wp2_with fail
    go_ret
    refine ⟨_,sl,rfl,?_,HE.out.2.1.base (Nat.le_succ _),HE.out.1⟩
    rw [HE.out.2.2,List.take_length,HP.out.1,HH.out.2.1,List.map_map]
    rfl
end Go.Proofs.YtpphoeimakjjdaaGreatDoor
