/-
  BookW6 LedRc LedRf4 Enc Enc2 Ctr: see the remarks below.
-/
import Derived.Test.YtpphoeimakjjdaaGreatDoorMLedRf10
import Derived.Test.YtpphoeimakjjdaaGreatDoorMBookD
import Derived.LoopTactic
import Derived.Test.YtpphoeimakjjdaaGreatDoorMOctR
/-
  WALKS: layer 11: may it be a record?
-/
namespace Go.Proofs.YtpphoeimakjjdaaGreatDoor
set_option maxRecDepth 100000
set_option maxHeartbeats 4000000
open Go.RowKit

def cellsR (r:Rcd) (sv tv:Value):List Value:=[.int .i64 r.kind,.int .i64 r.grant.id,.int .i64 r.grant.holder,.string r.grant.path,.int .i64 r.grant.mode,sv,.int .i64 r.grant.term,.int .i64 r.id,tv,.int .i64 r.next,.int .i64 r.boots,.int .i64 r.longest]
def aggR (r:Rcd) (sv tv:Value):Value:=.agg (cellsR r sv tv).toArray
theorem rdN_nil (w:World):RdN w (.slice none 0 0) []:=⟨Nat.zero_le _,.inl ⟨none,0,rfl,rfl⟩⟩
theorem bare_dec (nx bo lo:Int):decide (nx=0∧bo=0∧lo=0)=((nx==0)&&((bo==0)&&(lo==0))):=by
 rw [Bool.eq_iff_iff];simp
theorem noId_dec (id:Int) (s:List Int):decide (id=0∧s=[])=((id==0)&&decide (s.length=0)):=by
 rw [Bool.eq_iff_iff];simp
theorem mayRec_any {w:World} {r:Rcd} {sv tv:Value} (hg:RdN w sv r.grant.stamp) (hs:RdN w tv r.stamp) (hp:r.grant.path.size≤9223372036854775807) :
 Calls Tryz.prog 80 #[aggR r sv tv] w fun e w'=>e=.returned (.bool (mayB r))∧Mod [] w w':=by
 obtain ⟨kd,⟨gi,gh,gp,gm,gs,gt⟩,ri,rs,nx,bo,lo⟩:=r
 simp only at hg hs hp
 unfold aggR cellsR
 simp only
 obtain ⟨q2,c2,rfl⟩:=hs.len
 obtain ⟨q1,c1,rfl⟩:=hg.len
 -- what the callees answer
 have k1:=fun {W:World} (g:Gr w W)=>sameGrant_any (x:=⟨gi,gh,gp,gm,gs,gt⟩) (y:=Grt.zero) (hg.gr g) (rdN_nil W)
 have k2:=fun {W:World} (m:Mod [] w W)=>mayGrant_any (g:=⟨gi,gh,gp,gm,gs,gt⟩) (hg.mod m (by simp)) hp
 have k3:=fun {W:World} (m:Mod [] w W)=>newest_any (hg.mod m (by simp))
 have k4:=fun {W:World} (m:Mod [] w W)=>stamped_any (hs.mod m (by simp))
 have k5:=fun (W:World)=>counter_any ri W
 have k6:=fun (W:World)=>heads_any nx bo W
 have k7:∀ W:World,Calls Tryz.prog 115 #[.int .i64 lo] W fun e w'=>e=.returned (.bool (decide (legalT lo)))∧w'=W:=fun W=>legal_any lo W
 have hm63:rs.length≤9223372036854775807:=hs.1
 obtain ⟨R,hR⟩:∃ R,mayB ⟨kd,⟨gi,gh,gp,gm,gs,gt⟩,ri,rs,nx,bo,lo⟩=R:=⟨_,rfl⟩
 rw [hR]
 have r1:=may1 (r:=⟨kd,⟨gi,gh,gp,gm,gs,gt⟩,ri,rs,nx,bo,lo⟩)
 have r2:=may2 (r:=⟨kd,⟨gi,gh,gp,gm,gs,gt⟩,ri,rs,nx,bo,lo⟩)
 have r3:=may3 (r:=⟨kd,⟨gi,gh,gp,gm,gs,gt⟩,ri,rs,nx,bo,lo⟩)
 have r4:=may4 (r:=⟨kd,⟨gi,gh,gp,gm,gs,gt⟩,ri,rs,nx,bo,lo⟩)
 have r5:=may5 (r:=⟨kd,⟨gi,gh,gp,gm,gs,gt⟩,ri,rs,nx,bo,lo⟩)
 have r6:=may6 (r:=⟨kd,⟨gi,gh,gp,gm,gs,gt⟩,ri,rs,nx,bo,lo⟩)
 have r7:=may7 (r:=⟨kd,⟨gi,gh,gp,gm,gs,gt⟩,ri,rs,nx,bo,lo⟩)
 have r8:(kd<1∨7<kd)→R=false:=fun h=>by
  cases hb:R with
  | false=>rfl
  | true =>
    rw [hb] at hR
    have:=may_kind hR
    simp only at this
    omega
 have e6:decide (rs=[])=decide (rs.length=0):=by rw [Bool.eq_iff_iff];simp
 simp only [hR,bareB,noGrant,noId,e6] at r1 r2 r3 r4 r5 r6 r7
 generalize grantB ⟨gi,gh,gp,gm,gs,gt⟩=GB at k2 r3 r4
 generalize decide ((⟨gi,gh,gp,gm,gs,gt⟩:Grt)=Grt.zero)=NG at k1 r1 r2 r5 r6 r7
 generalize lastI gs=LG at k3 r4
 generalize stmB rs=SB at k4 r5
 generalize decide (countOk ri)=CI at k5 r5 r6
 generalize headsB nx bo=HB at k6 r1
 generalize decide (legalT lo)=LT at k7 r2
 obtain ⟨BR,hBR⟩:∃ BR,decide (nx=0∧bo=0∧lo=0)=BR:=⟨_,rfl⟩
 obtain ⟨NI,hNI⟩:∃ NI,decide (ri=0∧rs=[])=NI:=⟨_,rfl⟩
 rw [hBR] at r3 r4 r5 r6 r7
 rw [hNI] at r1 r2 r3 r4 r7
 rw [bare_dec] at hBR
 rw [noId_dec] at hNI
 generalize rs.length=n at hm63 hNI k4 r6
 have HR:=Hj8 r1 r2 r3 r4 r5 r6 r7 r8
 have HBR:=hide hBR
 have HNI:=hide hNI
 clear r1 r2 r3 r4 r5 r6 r7 r8 hBR hNI hR e6 hg hs hp
 obtain ⟨W0,hW0⟩:∃ W0,W0=w.alloc (.cells #[.int .i64 kd,.int .i64 gi,.int .i64 gh,.string gp,.int .i64 gm,.slice q1 gs.length c1,.int .i64 gt,.int .i64 ri,.slice q2 n c2,.int .i64 nx,.int .i64 bo,.int .i64 lo] 42 (0,0)):=⟨_,rfl⟩
 have hb0:W0.heap[w.heap.size]?=some (.cells #[.int .i64 kd,.int .i64 gi,.int .i64 gh,.string gp,.int .i64 gm,.slice q1 gs.length c1,.int .i64 gt,.int .i64 ri,.slice q2 n c2,.int .i64 nx,.int .i64 bo,.int .i64 lo] 42 (0,0)):=by rw [hW0];exact heap_alloc_new w _
 have hgr:Gr w W0:=by rw [hW0];exact (Gr.refl w).alloc _
 have k1:=k1 hgr
 unfold aggG cellsG Grt.zero at k1
 simp only at k1
 have HW:=Hj2 hb0 hgr
 have g1:W0.cell? ⟨w.heap.size,1,none⟩=some (.int .i64 gi):=blk_cell hb0 1
 have g2:W0.cell? ⟨w.heap.size,2,none⟩=some (.int .i64 gh):=blk_cell hb0 2
 have g3:W0.cell? ⟨w.heap.size,3,none⟩=some (.string gp):=blk_cell hb0 3
 have g4:W0.cell? ⟨w.heap.size,4,none⟩=some (.int .i64 gm):=blk_cell hb0 4
 have g5:W0.cell? ⟨w.heap.size,5,none⟩=some (.slice q1 gs.length c1):=blk_cell hb0 5
 have g6:W0.cell? ⟨w.heap.size,6,none⟩=some (.int .i64 gt):=blk_cell hb0 6
 have a1:W0.cell? ⟨w.heap.size,9,none⟩=some (.int .i64 nx):=blk_cell hb0 9
 have a2:W0.cell? ⟨w.heap.size,10,none⟩=some (.int .i64 bo):=blk_cell hb0 10
 have a3:W0.cell? ⟨w.heap.size,11,none⟩=some (.int .i64 lo):=blk_cell hb0 11
 clear hb0 hgr
 go_enter Tryz.func80,Tryz.ntmps80
 go_upto_region 1 with fail
 rw [← hW0]
 clear hW0
 go_cut [3] (fun s3 wx=>s3=.bool BR∧wx=W0)
 case first =>
  clear k1 k2 k3 k4 k5 k6 k7 g1 g2 g3 g4 g5 g6 HNI HR HW
  have hx:=HBR.out
  clear HBR
  cases h1:(nx==0) <;> cases h2:(bo==0) <;> cases h3:(lo==0) <;> rw [h1,h2,h3] at hx <;> have HX:=hide hx <;> clear hx
  all_goals
   go_wp2_with fail
   go_meet
   case rel=>exact ⟨by rw [← HX.out];rfl,rfl⟩
 case rest =>
 obtain ⟨rfl,rfl⟩:=hcut
 go_upto_region 3 with (go_at_call 118;refine k1.mono ?_;rintro e w1 ⟨rfl,hm1⟩
                        have hb1:=hm1.at_ HW.out.1 (by simp)
                        have a4:w1.cell? ⟨w.heap.size,7,none⟩=some (.int .i64 ri):=blk_cell hb1 7
                        have a5:w1.cell? ⟨w.heap.size,8,none⟩=some (.slice q2 n c2):=blk_cell hb1 8
                        have HW1:=Hj2 hb1 ((HW.out.2.mod []).then hm1)
                        clear hb1 hm1 a1 a2 a3 g1 g2 g3 g4 g5 g6)
 go_cut [5] (fun s5 wx=>s5=.bool NI∧wx=w1)
 case first =>
  clear k1 k2 k3 k4 k5 k6 k7 HR HW HW1
  have hx:=HNI.out
  have hdn:decide (n=0)=((n:Int)==0):=by rw [Bool.eq_iff_iff];simp
  rw [hdn] at hx
  clear HNI hdn
  cases h1:(ri==0) <;> cases h2:((n:Int)==0) <;> rw [h1,h2] at hx <;> have HX:=hide hx <;> clear hx
  all_goals
   go_wp2_with fail
   go_meet
   case rel=>exact ⟨by rw [← HX.out];rfl,rfl⟩
 case rest =>
 obtain ⟨rfl,rfl⟩:=hcut
 obtain ⟨X,rfl⟩:∃ X:World,X=wc:=⟨_,rfl⟩
 have hb:=HW1.out.1
 have b0:X.cell? ⟨w.heap.size,0,none⟩=some (.int .i64 kd):=blk_cell hb 0
 have b1:X.cell? ⟨w.heap.size,1,none⟩=some (.int .i64 gi):=blk_cell hb 1
 have b2:X.cell? ⟨w.heap.size,2,none⟩=some (.int .i64 gh):=blk_cell hb 2
 have b3:X.cell? ⟨w.heap.size,3,none⟩=some (.string gp):=blk_cell hb 3
 have b4:X.cell? ⟨w.heap.size,4,none⟩=some (.int .i64 gm):=blk_cell hb 4
 have b5:X.cell? ⟨w.heap.size,5,none⟩=some (.slice q1 gs.length c1):=blk_cell hb 5
 have b6:X.cell? ⟨w.heap.size,6,none⟩=some (.int .i64 gt):=blk_cell hb 6
 have b7:X.cell? ⟨w.heap.size,7,none⟩=some (.int .i64 ri):=blk_cell hb 7
 have b8:X.cell? ⟨w.heap.size,8,none⟩=some (.slice q2 n c2):=blk_cell hb 8
 have b9:X.cell? ⟨w.heap.size,9,none⟩=some (.int .i64 nx):=blk_cell hb 9
 have b10:X.cell? ⟨w.heap.size,10,none⟩=some (.int .i64 bo):=blk_cell hb 10
 have b11:X.cell? ⟨w.heap.size,11,none⟩=some (.int .i64 lo):=blk_cell hb 11
 clear hb k1 HBR HNI HW
 unfold aggG cellsG at k2
 simp only at k2
 have hkd:kd=1∨kd=2∨kd=4∨kd=3∨kd=5∨kd=6∨kd=7∨(kd<1∨7<kd):=by omega
 rcases hkd with rfl | rfl | rfl | rfl | rfl | rfl | rfl | hkd
 · have hr:=HR.out.1 rfl
   clear HR k2 k3 k4 k5 k7
   have hd:decide (lo=0)=(lo==0):=by rw [Bool.eq_iff_iff];simp
   rw [hd] at hr
   clear hd
   cases HB <;> cases h1:(lo==0) <;> cases NG <;> rw [h1] at hr <;> have HX:=hide hr <;> clear hr
   all_goals
    go_wp2_with (first | (go_at_call 114;refine (k6 _).mono ?_;rintro e w2 ⟨rfl,rfl⟩) | fail)
    go_ret
    exact ⟨by rw [HX.out];rfl,HW1.out.2⟩
 · have hr:=HR.out.2.1 rfl
   clear HR k2 k3 k4 k5 k6
   have hd:decide (nx=0∧bo=0)=((nx==0)&&(bo==0)):=by rw [Bool.eq_iff_iff];simp
   rw [hd] at hr
   clear hd
   cases LT <;> cases h1:(nx==0) <;> cases h2:(bo==0) <;> cases NG <;> rw [h1,h2] at hr <;> have HX:=hide hr <;> clear hr
   all_goals
    go_wp2_with (first | (go_at_call 115;refine (k7 _).mono ?_;rintro e w2 ⟨rfl,rfl⟩) | fail)
    go_ret
    exact ⟨by rw [HX.out];rfl,HW1.out.2⟩
 · have hr:=HR.out.2.2.2.1 rfl
   clear HR k4 k5 k6 k7
   by_cases hL:LG=gi
   · have hb:(LG != gi)=false:=by simpa using hL
     rw [decide_eq_true hL] at hr
     have HX:=hide hr
     clear hr hL
     go_wp2_with fail
     go_quiet ((first | (go_at_call 117;exact Calls.quiet_of_same (k3 HW1.out.2)) | (go_at_call 117;exact Calls.quiet_of_same (k3 (HW1.out.2.drewN _)))))
     go_wp2_with (first | (go_at_call 116;refine (k2 (HW1.out.2.drewN _)).mono ?_;rintro e w2 ⟨rfl,hm2⟩) | (go_at_call 116;refine (k2 HW1.out.2.drew).mono ?_;rintro e w2 ⟨rfl,hm2⟩) | fail)
     all_goals
      go_ret
      exact ⟨by rw [HX.out];simp [*],(HW1.out.2.drewN _).then hm2⟩
   · have hb:(LG != gi)=true:=by rw [bne_iff_ne];exact hL
     rw [decide_eq_false hL] at hr
     have HX:=hide hr
     clear hr hL k2
     go_wp2_with fail
     go_quiet ((first | (go_at_call 117;exact Calls.quiet_of_same (k3 HW1.out.2)) | (go_at_call 117;exact Calls.quiet_of_same (k3 (HW1.out.2.drewN _)))))
     go_wp2_with fail
     go_ret
     exact ⟨by rw [HX.out];rfl,HW1.out.2.drewN _⟩
 · have hr:=HR.out.2.2.1 rfl
   clear HR k3 k4 k5 k6 k7
   have HX:=hide hr
   clear hr
   go_wp2_with (first | (go_at_call 116;refine (k2 HW1.out.2).mono ?_;rintro e w2 ⟨rfl,hm2⟩) | fail)
   all_goals
    go_ret
    exact ⟨by rw [HX.out];simp [*],HW1.out.2.then hm2⟩
 · have hr:=HR.out.2.2.2.2.1 rfl
   clear HR k2 k3 k6 k7
   cases CI <;> cases SB <;> cases BR <;> have HX:=hide hr <;> clear hr
   all_goals
    go_wp2_with (first | (go_at_call 119;refine (k5 _).mono ?_;rintro e w2 ⟨rfl,rfl⟩) | (go_at_call 120;refine (k4 HW1.out.2).mono ?_;rintro e w2 ⟨rfl,rfl⟩) | fail)
    go_ret
    exact ⟨by rw [HX.out];rfl,HW1.out.2⟩
 · have hr:=HR.out.2.2.2.2.2.1 rfl
   clear HR k2 k3 k4 k6 k7
   have hd:decide (n=0)=((n:Int)==0):=by rw [Bool.eq_iff_iff];simp
   rw [hd] at hr
   clear hd
   cases CI <;> cases h1:((n:Int)==0) <;> cases BR <;> rw [h1] at hr <;> have HX:=hide hr <;> clear hr
   all_goals
    go_wp2_with (first | (go_at_call 119;refine (k5 _).mono ?_;rintro e w2 ⟨rfl,rfl⟩) | fail)
    go_ret
    exact ⟨by rw [HX.out];rfl,HW1.out.2⟩
 · have hr:=HR.out.2.2.2.2.2.2.1 rfl
   clear HR k2 k3 k4 k5 k6 k7
   cases BR <;> cases NG <;> have HX:=hide hr <;> clear hr
   all_goals
    go_wp2_with fail
    go_ret
    exact ⟨by rw [HX.out];rfl,HW1.out.2⟩
 · have hr:=HR.out.2.2.2.2.2.2.2 hkd
   have n1:(kd==1)=false:=by simp;omega
   have n2:(kd==2)=false:=by simp;omega
   have n3:(kd==3)=false:=by simp;omega
   have n4:(kd==4)=false:=by simp;omega
   have n5:(kd==5)=false:=by simp;omega
   have n6:(kd==6)=false:=by simp;omega
   have n7:(kd==7)=false:=by simp;omega
   have HX:=hide hr
   clear hr HR hkd k2 k3 k4 k5 k6 k7
   go_wp2_with fail
   go_ret
   exact ⟨by rw [HX.out];rfl,HW1.out.2⟩
end Go.Proofs.YtpphoeimakjjdaaGreatDoor
/-
  WALKS: the document's copies of stamps and grants; a record with lists of its own.
-/
namespace Go.Proofs.YtpphoeimakjjdaaGreatDoor
set_option maxRecDepth 100000
set_option maxHeartbeats 2000000
open Go.RowKit

section
variable {P:Program}
theorem wpList_append_big {ops:Array Oper} {rest:List Oper} {o:Oper} {a:Act} {Q:Exit→Act→World→Prop} (w:World) (hgd:o.guard=none) (s x:Operand) (t:TypeId)
 (ho:o.op=.call { callee:=.builtin .append,args:=#[s,x],argTypes:=#[t,t] })
 (base:Nat) (e:TypeId) (i:TypeInfo) (ht:P.underlying t=some (.slice e)) (hi:P.info? e=some i) (hz:i.zero=some (.int .i64 0)) (hsize:i.size=1) (hby:i.bytes=8)
 {b0 c0:Nat} (hs:a.eval s=.slice (some ⟨b0,0,none⟩) 0 c0) (hown:w.ownsRow base e 1 (.slice (some ⟨b0,0,none⟩) 0 c0) 0 []) (hbase:base≤w.heap.size) {v:Value} {m:List Int} (hx:a.eval x=v) (hv:RdN w v m) (hsm:m.length * 8≤140737488355328)
 (h:∀ v' w',w'.ownsRow base e 1 v' m.length (m.map (Value.int .i64))→Mod [b0] w w'→wpList P ops Q rest (a.put o.dst v') w'):wpList P ops Q (o::rest) a w:=by
 by_cases hm:m=[]
 · subst hm
   obtain ⟨p,c,rfl⟩:=hv.len
   have src:Src P i.size t (.slice p 0 c) 0 [] w:=by
    cases p with
    | none=>exact Src.ofNil w ht c
    | some ad=>exact Src.ofSlice w ht ad 0 c [] (by simp) (fun _ _ h=>by simp at h) (fun _ h=>by cases h)
   have hr:=run_append_nothing w t t o.type e i ht hi (some ⟨b0,0,none⟩) 0 c0 (Nat.zero_le _) _ src
   refine wpList_plain hgd fun K hK=>?_
   unfold Oper.wp execOp
   simp only [List.length_nil] at hx
   simp only [ho,resolve,invoke,builtin,Sem.run_bind,Sem.run_pure,Result.andThen_ok,List.map_toArray,List.map_cons,List.map_nil,hs,hx,hr]
   exact hK _ _ (h _ _ hown (Mod.refl _ _))
 · have hpos:0<m.length:=List.length_pos_iff.2 hm
   rcases hv.2 with ⟨p,c,_,rfl⟩ | ⟨b,off,cap,rfl,hb,hc⟩
   · exact absurd rfl hm
   · refine wpList_append_lies w hgd s x t ho base e i (.int .i64 0) 1 8 ht hi hz hsize hby rfl (by decide) _ 0 [] hs hown ⟨b,off,none⟩ m.length cap (m.map (Value.int .i64)) hx (by simp) ?_ (by simp [Value.oneCell']) hpos (by unfold maxLen;omega) (by omega) hbase ?_
     · intro j u hu
       obtain ⟨hj,rfl⟩:=List.getElem?_eq_some_iff.1 hu
       rw [List.length_map] at hj
       have:=hc j hj
       rw [Addr.add_lit,this]
       simp [hj]
     · intro g cap' w' hown hg hat
       simp only [Nat.zero_add,List.nil_append] at hown ⊢
       exact h _ _ hown ((Mod.refl [b0] w).grown hg (fun k e _=>by simp [Value.ownBlock] at e;simp [e]))
end
def BCopyRel (w:World) (a:List Int) (u i:Value) (wr:World):Prop:=∃ k:Nat,k≤a.length∧i=.int .i64 k∧wr.ownsRow w.heap.size 3 1 u k ((a.take k).map (Value.int .i64))∧Mod [] w wr
theorem bcopy_any {w:World} {u:Value} {a:List Int} (hu:RdN w u a) (hs:a.length * 8≤140737488355328) :
 Calls Tryz.prog 58 #[u] w fun e w'=>NewI w a e w':=by
 obtain ⟨i0,hi0,hz0,hs0,hb0⟩:=info_parts info_int
 have h1:a.length≤9223372036854775807:=hu.1
 obtain ⟨p,c,rfl⟩:=hu.len
 go_enter Tryz.func58,Tryz.ntmps58
 go_wp2_with fail
 go_loopw [3,4] (fun u i wr=>BCopyRel w a u i wr) (fun _ i _=>a.length - (intOf i).toNat)
 case atStart=>exact ⟨0,Nat.zero_le _,rfl,World.ownsRow_nil _ _ _ _,Mod.refl _ _⟩
 case round =>
  obtain ⟨k,hk,rfl,hown,hm⟩:=hrel
  have hwr:w.heap.size≤wr.heap.size:=hm.size
  by_cases hlt:k<a.length
  · obtain ⟨b,o,rfl,hb,c1⟩:=(hu.mod hm (by simp)).at_ k hlt
    have hnx:(a.take k).map (Value.int .i64)++[.int .i64 (a.getD k 0)]=(a.take (k+1)).map (Value.int .i64):=by
     rw [List.take_succ_eq_append_getElem hlt,List.map_append,List.map_singleton]
     have e:a.getD k 0=a[k]:=by simp [hlt]
     rw [e]
    have HN:=hide hnx
    clear hnx
    generalize a.getD k 0=x at c1 HN
    have i1:(0:Int)≤(k:Int):=by omega
    have i2:(k:Int)<(a.length:Int):=by omega
    clear hu
    go_wp2_with (at_builtin;refine wpList_append_own _ rfl _ _ 38 rfl w.heap.size 3 i0 _ 1 8 Tryz.underlying38 hi0 hz0 hs0 hb0 rfl (by decide) _ _ _ rfl (hown.alloc _) ⟨wr.heap.size,0,none⟩ 1 1 [.int .i64 x] rfl rfl (World.news_of_block (cs:=#[.int .i64 x]) (t:=3) (fr:=(0,0)) (heap_alloc_new wr _)) (by simp [Value.oneCell']) (by unfold maxLen;omega) (by omega) (by simp;omega) ?_;intro u' w1 ho hg _)
    have hm1:=(hm.alloc _).grown hg (fun q e hq=>absurd hq (by have:=(hown.lt q e).1;omega))
    rw [HN.out] at ho
    clear hown hg c1
    go_wp2_with fail
    go_roundw
    case rel=>exact ⟨k+1,by omega,by go_num,ho,hm1⟩
    case measure=>simp [intOf];omega
  · obtain rfl:k=a.length:=by omega
    rw [List.take_length] at hown
    have hv:∃ p c,u3=.slice p a.length c:=(rdN_of_row hown).len
    obtain ⟨p',c',rfl⟩:=hv
    clear hu
    go_wp2_with fail
    go_ret
    exact ⟨_,rfl,hown,hm⟩
theorem copyG_any {w:World} {g:Grt} {v:Value} (hv:RdN w v g.stamp) (hs:g.stamp.length * 8≤140737488355328) :
 Calls Tryz.prog 46 #[aggG g v] w fun e w'=>NewG w g e w':=by
 obtain ⟨id,ho,pa,mo,st,te⟩:=g
 simp only at hv hs
 unfold aggG cellsG NewG
 simp only
 have g2:=((Gr.refl w).alloc (.cells #[.int .i64 id,.int .i64 ho,.string pa,.int .i64 mo,v,.int .i64 te] 40)).alloc (.cells #[.int .i64 0,.int .i64 0,.string { data:=#[] },.int .i64 0,.slice none 0 0,.int .i64 0] 40)
 have b1:=blk_alloc (heap_alloc_new w (.cells #[.int .i64 id,.int .i64 ho,.string pa,.int .i64 mo,v,.int .i64 te] 40)) (.cells #[.int .i64 0,.int .i64 0,.string { data:=#[] },.int .i64 0,.slice none 0 0,.int .i64 0] 40)
 have b2:=heap_alloc_new (w.alloc (.cells #[.int .i64 id,.int .i64 ho,.string pa,.int .i64 mo,v,.int .i64 te] 40)) (.cells #[.int .i64 0,.int .i64 0,.string { data:=#[] },.int .i64 0,.slice none 0 0,.int .i64 0] 40)
 have hv2:=hv.gr g2
 have e2:(w.alloc (.cells #[.int .i64 id,.int .i64 ho,.string pa,.int .i64 mo,v,.int .i64 te] 40)).heap.size=w.heap.size+1:=by simp
 rw [e2] at b2
 have B:=Hj3 b1 b2 g2
 have hcl:=bcopy_any hv2 hs
 clear b1 b2 hv g2 hv2
 go_enter Tryz.func46,Tryz.ntmps46
 go_wp2_with fail
 refine hcl.mono ?_
 rintro e w2 ⟨v',rfl,ho,hm⟩
 obtain ⟨b1,b2,g2⟩:=B.out
 have c1:=hm.at_ b1 (by simp)
 have c2:=hm.at_ b2 (by simp)
 have hm0:=(g2.mod []).then hm
 have ho':w2.ownsRow w.heap.size 3 1 v' st.length (st.map (Value.int .i64)):=row_base ho g2.size
 have ho2:∀ k,k∈ob v'→w.heap.size+1<k:=fun k hk=>by have:=(ob_of_row ho k hk).1;simp at this;omega
 have HO2:=hide ho2
 obtain ⟨p',c',hv'⟩:=(rdN_of_row ho').len
 subst hv'
 have C:=Hj2 c1 c2
 have C1:=blk_cell c1
 have C2:=blk_cell c2
 have F1:=blk_free c1
 have F2:=blk_free c2
 have hb2:w.heap.size+1<w2.heap.size:=lt_of_block c2
 clear B b1 b2 e2 hcl hm ho g2 ho2 c1 c2
 go_wp2_with fail
 have q:=stL_all (blk_other C.out.2 (a:=⟨w.heap.size,4,none⟩) (by simp) (.slice p' st.length c')) [.int .i64 id,.int .i64 ho,.string pa,.int .i64 mo,.slice p' st.length c',.int .i64 te] rfl
 have qm:=stL_mod (S:=[w.heap.size,w.heap.size+1]) (w0:=w2) (r:=w.heap.size+1) (fun _=>by simp) [.int .i64 id,.int .i64 ho,.string pa,.int .i64 mo,.slice p' st.length c',.int .i64 te] 0 _ ((Mod.refl [w.heap.size,w.heap.size+1] w2).setCell (p:=⟨w.heap.size,4,none⟩) (fun _=>by simp) (.slice p' st.length c'))
 refine bodyPost_ret (v:=.agg #[.int .i64 id,.int .i64 ho,.string pa,.int .i64 mo,.slice p' st.length c',.int .i64 te]) (res_cell1 Tryz.results46 _ _ rfl q Tryz.isAgg40 Tryz.sizeOf40) rfl ⟨_,rfl,?_,?_⟩
 · exact qm.row ho' (fun k hk=>by have:=HO2.out k (by simpa [ob] using hk);simp;omega)
 · exact hm0.trans qm (by simp) (fun x hx hlt=>by simp at hx;omega)
theorem mod_fresh0 {W W' W2:World} {S:List Nat} (m:Mod [] W W') (m2:Mod S W' W2) (hS:∀ k,k∈S→W.heap.size≤k):Mod [] W W2:=m.trans m2 (fun _ x _=>x) (fun x hx hlt=>absurd (hS x hx) (by omega))
def NewR (w:World) (r:Rcd) (e:Ending) (w':World):Prop:=∃ p1 n1 c1 p2 n2 c2,e=.returned (aggR r (.slice p1 n1 c1) (.slice p2 n2 c2))∧w'.ownsRow w.heap.size 3 1 (.slice p1 n1 c1) r.grant.stamp.length (r.grant.stamp.map (Value.int .i64))∧w'.ownsRow w.heap.size 3 1 (.slice p2 n2 c2) r.stamp.length (r.stamp.map (Value.int .i64))∧(∀ k,k∈ob (.slice p1 n1 c1)→k ∉ ob (.slice p2 n2 c2))∧Mod [] w w'
theorem ownRec_any {w:World} {r:Rcd} {sv tv:Value} (hs:RdN w sv r.grant.stamp) (ht:RdN w tv r.stamp) (h1:r.grant.stamp.length * 8≤140737488355328) (h2:r.stamp.length * 8≤140737488355328) :
 Calls Tryz.prog 15 #[aggR r sv tv] w fun e w'=>NewR w r e w':=by
 obtain ⟨i0,hi0,hz0,hs0,hb0⟩:=info_parts info_int
 obtain ⟨kd,⟨gi,gh,gp,gm,gs,gt⟩,ri,rs,rn,rb,rl⟩:=r
 simp only at hs ht h1 h2
 obtain ⟨q1,d1,hsv⟩:=hs.len
 obtain ⟨q2,d2,htv⟩:=ht.len
 obtain ⟨m1,hm1⟩:∃ n,gs.length=n:=⟨_,rfl⟩
 obtain ⟨m2,hm2⟩:∃ n,rs.length=n:=⟨_,rfl⟩
 rw [hm1] at hsv
 rw [hm2] at htv
 subst hsv htv
 obtain ⟨W1,hW1⟩:∃ W1,W1=(w.alloc (.cells #[.int .i64 kd,.int .i64 gi,.int .i64 gh,.string gp,.int .i64 gm,.slice q1 m1 d1,.int .i64 gt,.int .i64 ri,.slice q2 m2 d2,.int .i64 rn,.int .i64 rb,.int .i64 rl] 42 (0,0))).alloc (.cells #[.int .i64 0,.int .i64 0,.int .i64 0,.string { data:=#[] },.int .i64 0,.slice none 0 0,.int .i64 0,.int .i64 0,.slice none 0 0,.int .i64 0,.int .i64 0,.int .i64 0] 42 (0,0)):=⟨_,rfl⟩
 have ma:Mod [] w W1:=by rw [hW1];exact ((Mod.refl _ _).alloc _).alloc _
 have ba:W1.heap[w.heap.size]?=some (.cells #[.int .i64 kd,.int .i64 gi,.int .i64 gh,.string gp,.int .i64 gm,.slice q1 m1 d1,.int .i64 gt,.int .i64 ri,.slice q2 m2 d2,.int .i64 rn,.int .i64 rb,.int .i64 rl] 42 (0,0)):=by rw [hW1];exact blk_alloc (heap_alloc_new w _) _
 have bz:W1.heap[w.heap.size+1]?=some (.cells #[.int .i64 0,.int .i64 0,.int .i64 0,.string { data:=#[] },.int .i64 0,.slice none 0 0,.int .i64 0,.int .i64 0,.slice none 0 0,.int .i64 0,.int .i64 0,.int .i64 0] 42 (0,0)):=by
  rw [hW1]
  have:=heap_alloc_new (w.alloc (.cells #[.int .i64 kd,.int .i64 gi,.int .i64 gh,.string gp,.int .i64 gm,.slice q1 m1 d1,.int .i64 gt,.int .i64 ri,.slice q2 m2 d2,.int .i64 rn,.int .i64 rb,.int .i64 rl] 42 (0,0))) (.cells #[.int .i64 0,.int .i64 0,.int .i64 0,.string { data:=#[] },.int .i64 0,.slice none 0 0,.int .i64 0,.int .i64 0,.slice none 0 0,.int .i64 0,.int .i64 0,.int .i64 0] 42 (0,0))
  simpa using this
 have hz1:W1.heap.size=w.heap.size+2:=by rw [hW1];simp
 have hcg:=copyG_any (w:=W1) (g:=⟨gi,gh,gp,gm,gs,gt⟩) (v:=.slice q1 m1 d1) (hs.mod ma (by simp)) h1
 unfold aggG cellsG at hcg
 simp only at hcg
 have A:=blk_cell ba
 have HB:=Hj4 ba bz ma hz1
 have HT:=Hj3 ht hm2 hm1
 clear ba bz ma hz1 hs ht hm1 hm2
 unfold aggR cellsR
 simp only
 go_enter Tryz.func15,Tryz.ntmps15
 go_upto_region 1 with fail
 rw [← hW1]
 clear hW1
 go_upto_region 2 with (
  go_at_call 46
  refine hcg.mono ?_
  rintro e w2 ⟨v2,rfl,hr2,hm2⟩
  obtain ⟨p1,c1,hv2⟩:=(rdN_of_row hr2).len
  simp only at hv2
  rw [HT.out.2.2] at hv2
  subst hv2
  simp only [aggG,cellsG]
  have ba2:=hm2.at_ HB.out.1 (by simp)
  have A2:=blk_cell ba2
  have F2:=blk_free ba2
  have H2:=Hj3 hr2 hm2 ba2
  clear hr2 hm2 ba2 A hcg)
 obtain ⟨W3,hW3⟩:∃ W3,W3=((((((w2.setCell ⟨w.heap.size,1,none⟩ (.int .i64 gi)).setCell ⟨w.heap.size,2,none⟩ (.int .i64 gh)).setCell ⟨w.heap.size,3,none⟩ (.string gp)).setCell ⟨w.heap.size,4,none⟩ (.int .i64 gm)).setCell ⟨w.heap.size,5,none⟩ (.slice p1 m1 c1)).setCell ⟨w.heap.size,6,none⟩ (.int .i64 gt)):=⟨_,rfl⟩
 rw [← hW3]
 clear A2 F2
 have ba3:W3.heap[w.heap.size]?=some (.cells #[.int .i64 kd,.int .i64 gi,.int .i64 gh,.string gp,.int .i64 gm,.slice p1 m1 c1,.int .i64 gt,.int .i64 ri,.slice q2 m2 d2,.int .i64 rn,.int .i64 rb,.int .i64 rl] 42 (0,0)):=by
  rw [hW3];exact blk_set (blk_set (blk_set (blk_set (blk_set (blk_set H2.out.2.2 1 _) 2 _) 3 _) 4 _) 5 _) 6 _
 have hs3:Mod [w.heap.size] w2 W3:=by rw [hW3];exact (((((((Mod.refl _ _).setCell (fun _=>by simp) _).setCell (fun _=>by simp) _).setCell (fun _=>by simp) _).setCell (fun _=>by simp) _).setCell (fun _=>by simp) _).setCell (fun _=>by simp) _)
 have hm13:Mod [] w W3:=mod_fresh0 (HB.out.2.2.1.then H2.out.2.1) hs3 (by simp)
 have hr3:=hs3.row H2.out.1 (fun x hx e=>by have:=(ob_of_row H2.out.1 x (by simpa [ob] using hx)).1;have:=HB.out.2.2.2;simp at e;omega)
 have hz2:=H2.out.2.1.size
 have hz3:=hs3.size
 have A3:=blk_cell ba3
 have hlt3:w.heap.size<W3.heap.size:=lt_of_block ba3
 obtain ⟨W4,hW4⟩:∃ W4,W4=W3.alloc (.cells #[] 3 (0,0)):=⟨_,rfl⟩
 have hm34:Mod [] W3 W4:=by rw [hW4];exact (Mod.refl _ _).alloc _
 have hown4:W4.ownsRow W3.heap.size 3 1 (.slice (some ⟨W3.heap.size,0,none⟩) 0 0) 0 []:=by rw [hW4];exact World.ownsRow_made W3 #[] 0 (Nat.le_refl _) (Nat.zero_le _) rfl
 have hrt:RdN W4 (.slice q2 m2 d2) rs:=HT.out.1.mod (hm13.then hm34) (by simp)
 have hz4:W4.heap.size=W3.heap.size+1:=by rw [hW4];simp
 have HB2:=Hj3 ba3 (HB.out.2.1) hr3
 have HM:=Hj6 hm13 hm34 hz2 hz3 hz4 hs3
 clear ba3 hs3 hm13 hr3 hz2 hz3 hm34 hW3
 go_wp2_with (
  at_builtin
  rw [← hW4]
  refine wpList_append_big W4 rfl _ _ 38 rfl W3.heap.size 3 i0 Tryz.underlying38 hi0 hz0 hs0 hb0 rfl hown4 (by have:=HM.out.2.2.2.2.1;omega) rfl hrt h2 ?_
  intro v5 w5 ho5 hm5
  obtain ⟨p2,c2,hv5⟩:=(rdN_of_row ho5).len
  rw [HT.out.2.1] at hv5
  subst hv5
  have ba5:=hm5.at_ (HM.out.2.1.at_ HB2.out.1 (by simp)) (by have:=HM.out.1.size;have:=HM.out.2.2.1;have:=HM.out.2.2.2.1;have:=HB.out.2.2.2;simp;omega)
  have A5:=blk_cell ba5
  have F5:=blk_free ba5
  have bz5:=hm5.at_ (HM.out.2.1.at_ (HM.out.2.2.2.2.2.at_ (H2.out.2.1.at_ HB2.out.2.1 (by simp)) (by simp)) (by simp)) (by have:=HM.out.2.2.1;have:=HM.out.2.2.2.1;have:=HB.out.2.2.2;simp;omega)
  have Z5:=blk_cell bz5
  have G5:=blk_free bz5
  have H5:=Hj4 ho5 hm5 ba5 bz5
  clear ho5 hm5 ba5 bz5 A3 hown4 hrt)
 obtain ⟨ho5,hm5,ba5,bz5⟩:=H5.out
 obtain ⟨hm13,hm34,hz2,hz3,hz4,hs3⟩:=HM.out
 obtain ⟨ba3,bz1,hr3⟩:=HB2.out
 have hz1:=HB.out.2.2.2
 have q':=stL_all (blk_other bz5 (a:=⟨w.heap.size,8,none⟩) (by simp) (.slice p2 m2 c2)) [.int .i64 kd,.int .i64 gi,.int .i64 gh,.string gp,.int .i64 gm,.slice p1 m1 c1,.int .i64 gt,.int .i64 ri,.slice p2 m2 c2,.int .i64 rn,.int .i64 rb,.int .i64 rl] rfl
 have qm:=stL_mod (S:=[w.heap.size,w.heap.size+1]) (w0:=w5) (r:=w.heap.size+1) (fun _=>by simp) [.int .i64 kd,.int .i64 gi,.int .i64 gh,.string gp,.int .i64 gm,.slice p1 m1 c1,.int .i64 gt,.int .i64 ri,.slice p2 m2 c2,.int .i64 rn,.int .i64 rb,.int .i64 rl] 0 _ ((Mod.refl [w.heap.size,w.heap.size+1] w5).setCell (p:=⟨w.heap.size,8,none⟩) (fun _=>by simp) (.slice p2 m2 c2))
 have hob1:∀ k,k∈ob (.slice p1 m1 c1)→w.heap.size+2≤k∧k<W3.heap.size:=fun k hk=>by
  have h:=ob_of_row hr3 k hk
  omega
 have hob2:∀ k,k∈ob (.slice p2 m2 c2)→W3.heap.size≤k:=fun k hk=>(ob_of_row ho5 k hk).1
 refine bodyPost_ret (v:=.agg #[.int .i64 kd,.int .i64 gi,.int .i64 gh,.string gp,.int .i64 gm,.slice p1 m1 c1,.int .i64 gt,.int .i64 ri,.slice p2 m2 c2,.int .i64 rn,.int .i64 rb,.int .i64 rl]) (res_cell1 Tryz.results15 _ _ rfl q' Tryz.isAgg42 Tryz.sizeOf42) rfl ⟨p1,m1,c1,p2,m2,c2,rfl,?_,?_,fun k h1 h2=>?_,?_⟩
 · refine World.ownsRow.mono (qm.row (hm5.row (hm34.row hr3 (by simp)) (fun k hk e=>?_)) (fun k hk e=>?_)) (by omega)
   · have:=hob1 k (by simpa [ob] using hk);simp at e;omega
   · have:=hob1 k (by simpa [ob] using hk);simp at e;omega
 · refine World.ownsRow.mono (qm.row ho5 (fun k hk e=>?_)) (by omega)
   have:=hob2 k (by simpa [ob] using hk);simp at e;omega
 · have:=hob1 k h1;have:=hob2 k h2;omega
 · exact ((hm13.then hm34).trans hm5 (fun _ x _=>x) (fun x hx hlt=>by simp at hx;omega)).trans qm (fun _ x _=>x) (fun x hx hlt=>by simp at hx;omega)
end Go.Proofs.YtpphoeimakjjdaaGreatDoor
/-
  WALKS: the document's layer 11: New, Find, without.
-/
namespace Go.Proofs.YtpphoeimakjjdaaGreatDoor
set_option maxRecDepth 100000
set_option maxHeartbeats 4000000
open Go.RowKit Go.Shelf

theorem rnew_any (w:World):Calls Tryz.prog 14 #[] w fun e w'=>e=.returned (aggB Bk.new (.slice none 0 0))∧Mod [] w w':=by
 go_enter Tryz.func14,Tryz.ntmps14
 go_wp2_with fail
 refine bodyPost_ret (v:=aggB Bk.new (.slice none 0 0)) (res_cell1 Tryz.results14 _ _ rfl (heap_alloc_new w _) Tryz.isAgg34 Tryz.sizeOf34) rfl ⟨rfl,(Mod.refl _ _).alloc _⟩
def FindTo (lv:List (Grt × Value)) (id:Int) (e:Ending):Prop :=
 (∃ k:Nat,k<lv.length∧(lv.getD k default).1.id=id∧(∀ j,j<k→(lv.getD j default).1.id≠id)∧e=.returned (.int .i64 (k:Int)))∨((∀ j,j<lv.length→(lv.getD j default).1.id≠id)∧e=.returned (.int .i64 (-1)))
theorem rfind_any {w:World} {base n c:Nat} {q:Option Addr} {lv:List (Grt × Value)} (h:GrM w base (.slice q n c) lv) (id:Int) :
 Calls Tryz.prog 57 #[.slice q n c,.int .i64 id] w fun e w'=>FindTo lv id e∧w'=w:=by
 obtain ⟨q',c',hv,hx⟩:=h.shape
 simp only [Value.slice.injEq] at hv
 obtain ⟨rfl,rfl,rfl⟩:=hv
 have hx':lv.length≤9223372036854775807:=hx
 go_enter Tryz.func57,Tryz.ntmps57
 go_upto_region 2 with fail
 go_loopw [5] (fun i wr=>∃ k:Nat,i=.int .i64 (k:Int)∧k≤lv.length∧Hid (∀ j,j<k→(lv.getD j default).1.id≠id)∧wr=w) (fun i _=>lv.length - (intOf i).toNat)
 case atStart=>exact ⟨0,rfl,Nat.zero_le _,hide (fun j hj=>absurd hj (by omega)),rfl⟩
 case round =>
  obtain ⟨k,rfl,hk,HK,hwr⟩:=hrel
  rw [hwr]
  clear hwr
  by_cases hlt:k<lv.length
  · have hki:(k:Int)<(lv.length:Int):=by omega
    have hk0:(0:Int)≤(k:Int):=by omega
    obtain ⟨gb,rfl,hgb,-,hc,-,-⟩:=h.at_ k hlt
    obtain ⟨pr,hpr⟩:∃ p,lv.getD k default=p:=⟨_,rfl⟩
    rw [hpr] at hc
    obtain ⟨⟨x,ho,pa,mo,st,te⟩,sv⟩:=pr
    have c0:=hc 0 (by decide)
    simp [encG,cellsG] at c0
    have HX:Hid ((lv.getD k default).1.id=x):=hide (by rw [hpr])
    clear hc hpr
    by_cases hi:x=id
    · subst hi
      go_wp2_with fail
      go_ret
      exact ⟨.inl ⟨k,hlt,HX.out,HK.out,rfl⟩,rfl⟩
    · have hib:(x==id)=false:=by simpa using hi
      have HI:=hide hi
      clear hi
      go_wp2_with fail
      go_roundw
      case rel=>exact ⟨k+1,by go_num,by omega,hide (fun j hj=>by
       by_cases e:j=k
       · subst e;rw [HX.out];exact HI.out
       · exact HK.out j (by omega)),by simp⟩
      case measure=>simp [intOf];omega
  · obtain rfl:k=lv.length:=by omega
    go_wp2_with fail
    go_ret
    exact ⟨.inr ⟨HK.out,rfl⟩,rfl⟩
def WoRel (w:World) (base:Nat) (lv:List (Grt × Value)) (id:Int) (u i:Value) (wr:World):Prop :=
 ∃ (k:Nat) (sl:List (Grt × Value)),i=.int .i64 (k:Int)∧k≤lv.length∧sl.map Prod.fst=((lv.take k).map Prod.fst).filter (fun g=>decide (g.id≠id))∧sl.length≤k∧GrM wr base u sl∧(∀ x,x∈ob u→w.heap.size≤x)∧Mod [] w wr
theorem rwithout_any {w:World} {base n c:Nat} {q:Option Addr} {lv:List (Grt × Value)} (h:GrM w base (.slice q n c) lv) (hn:lv.length≤1000) (_hbase:base≤w.heap.size) (id:Int) :
 Calls Tryz.prog 59 #[.slice q n c,.int .i64 id] w fun e w'=>∃ u sl,e=.returned u∧sl.map Prod.fst=(lv.map Prod.fst).filter (fun g=>decide (g.id≠id))∧GrM w' base u sl∧(∀ x,x∈ob u→w.heap.size≤x)∧Mod [] w w':=by
 obtain ⟨q',c',hv,hx⟩:=h.shape
 simp only [Value.slice.injEq] at hv
 obtain ⟨rfl,rfl,rfl⟩:=hv
 have HH:=hide h
 clear h hx
 go_enter Tryz.func59,Tryz.ntmps59
 go_upto_region 3 with fail
 go_loopw [5,6] (fun u i wr=>WoRel w base lv id u i wr) (fun _ i _=>lv.length - (intOf i).toNat)
 case atStart=>exact ⟨0,[],rfl,Nat.zero_le _,rfl,Nat.zero_le _,GrM.nil _ _,fun x hx=>by simp [ob,Value.ownBlock] at hx,Mod.refl _ _⟩
 case round =>
  obtain ⟨k,sl,rfl,hk,hmap,hsl,hgm,hob,hm⟩:=hrel
  by_cases hlt:k<lv.length
  · have hki:(k:Int)<(lv.length:Int):=by omega
    have hk0:(0:Int)≤(k:Int):=by omega
    obtain ⟨gb,rfl,hgb,hgb2,hc,-,hrd⟩:=(HH.out.mod hm (by simp)).at_ k hlt
    have hst:=(HH.out.mod hm (by simp)).st _ (show lv.getD k default∈lv by simp [hlt])
    have htk:(lv.take (k+1)).map Prod.fst=(lv.take k).map Prod.fst++[(lv.getD k default).1]:=by rw [List.take_add_one,List.map_append];simp [hlt]
    have hso:=fun y hy=>(ob_of_row (HH.out.st _ (show lv.getD k default∈lv by simp [hlt])).1 y hy).2
    generalize lv.getD k default=pr at hc hst htk hrd hso
    obtain ⟨⟨x,ho,pa,mo,st,te⟩,sv⟩:=pr
    simp only at hst htk hrd hso
    obtain ⟨qs,cs,hsv⟩:=hrd.len
    obtain ⟨ns,hns⟩:∃ n,st.length=n:=⟨_,rfl⟩
    rw [hns] at hsv
    subst hsv
    have c0:=hc 0 (by decide)
    have c1:=hc 1 (by decide)
    have c2:=hc 2 (by decide)
    have c3:=hc 3 (by decide)
    have c4:=hc 4 (by decide)
    have c5:=hc 5 (by decide)
    simp [encG,cellsG] at c0 c1 c2 c3 c4 c5
    by_cases hi:x=id
    · have hib:(x != id)=false:=by simpa using hi
      have HE:=Hj6 hmap hgm hob hm htk hi
      clear hmap hgm hob hm htk hi hc hst hrd hso
      go_wp2_with fail
      go_roundw
      case rel =>
       obtain ⟨hmap,hgm,hob,hm,htk,hi⟩:=HE.out
       refine ⟨k+1,sl,by go_num,by omega,?_,by omega,hgm,hob,hm⟩
       rw [htk,List.filter_append,hmap]
       simp [hi]
      case measure=>simp [intOf];omega
    · have hib:(x != id)=true:=by simpa using hi
      obtain ⟨W4,hW4⟩:∃ W4,W4=wr.alloc (.cells #[.int .i64 x,.int .i64 ho,.string pa,.int .i64 mo,.slice qs ns cs,.int .i64 te] 40 (0,0)):=⟨_,rfl⟩
      have hk4:W4.heap[wr.heap.size]?=some (.cells (cellsG ⟨x,ho,pa,mo,st,te⟩ (.slice qs ns cs)).toArray 40 (0,0)):=by rw [hW4];exact heap_alloc_new wr _
      have hm4:Mod [] wr W4:=by rw [hW4];exact (Mod.refl _ _).alloc _
      have hst4:=hm4.row hst.1 (by simp)
      have hap:∀ y,y∈ob (.slice qs ns cs)→y ∉ ob u5:=fun y h1 h2=>by have:=hso y h1;have:=hob y h2;omega
      have HG:=Hj4 (hgm.mod hm4 (by simp)) hst4 hap hk4
      have HE:=Hj6 hmap hob hm htk hi hm4
      have hz:=hm.size
      have hz4:=hm4.size
      clear hmap hgm hob hm htk hi hc hst hrd hso hk4 hm4 hst4 hap
      go_wp2_with (
       at_builtin
       rw [← hW4]
       refine wpList_app_gr (g:=⟨x,ho,pa,mo,st,te⟩) (sv:=.slice qs ns cs) (sl:=sl) (base:=base) W4 rfl _ _ rfl rfl HG.out.1 (by omega) (by omega) (k:=wr.heap.size) rfl HG.out.2.2.2 HG.out.2.1 HG.out.2.2.1 ?_
       rintro u' w5 hgm5 hm5 ⟨p5,c5',hu5⟩ hob5
       subst hu5
       have H5:=Hj3 hgm5 hm5 hob5
       clear hgm5 hm5 hob5)
      go_roundw
      case rel =>
       obtain ⟨hmap,hob,hm,htk,hi,hm4⟩:=HE.out
       obtain ⟨hgm5,hm5,hob5⟩:=H5.out
       refine ⟨k+1,sl++[(⟨x,ho,pa,mo,st,te⟩,.slice qs ns cs)],by go_num,by omega,?_,by simp;omega,hgm5,fun y hy=>?_,?_⟩
       · rw [htk,List.filter_append,List.map_append,hmap]
         simp [hi]
       · rcases hob5 y hy with e | e
         · exact hob y e
         · omega
       · exact (hm.then hm4).trans hm5 (fun _ z _=>z) (fun y hy hlt=>absurd (hob y hy) (by omega))
      case measure=>simp [intOf];omega
  · obtain rfl:k=lv.length:=by omega
    have HE:=Hj4 hmap hgm hob hm
    clear hmap hgm hob hm hsl
    go_wp2_with fail
    go_ret
    exact ⟨_,sl,rfl,by have:=HE.out.1;rw [List.take_length] at this;exact this,HE.out.2.1,HE.out.2.2.1,HE.out.2.2.2⟩
end Go.Proofs.YtpphoeimakjjdaaGreatDoor
/-
  WALKS: layer 11: lay, Encode.
-/
namespace Go.Proofs.YtpphoeimakjjdaaGreatDoor
set_option maxRecDepth 100000
set_option maxHeartbeats 1000000
open Go.RowKit

structure ES (w W:World) (p:Nat) (v:Value) (d:B8) (K:List (Nat × Obj)):Prop where
 wr:WrM W p v d
 nw:w.heap.size≤p∧∀ k,k∈ob v→w.heap.size≤k
 md:Mod [] w W
 kp:∀ q,q∈K→W.heap[q.1]?=some q.2∧q.1≠p∧q.1 ∉ ob v
theorem ES.step {w W W':World} {p:Nat} {v:Value} {d d2:B8} {K:List (Nat × Obj)} {e:Ending} (h:ES w W p v d K) (t:WrTo W p v d2 e W'):e=.returned (.tuple #[])∧∃ v',ES w W' p v' d2 K∧(∀ k,k∈ob v'→k∈ob v∨W.heap.size≤k)∧Mod (p::ob v) W W':=by
 obtain ⟨he,v',h1,h2,h3⟩:=t
 have hsz:=h.md.size
 refine ⟨he,v',⟨h1,⟨h.nw.1,fun k hk=>?_⟩,h.md.trans h3 (by simp) (fun x hx hlt=>?_),fun q hq=>?_⟩,h2,h3⟩
 · rcases h2 k hk with h4 | h4
   · exact h.nw.2 k h4
   · omega
 · rcases List.mem_cons.1 hx with rfl | hx
   · have:=h.nw.1;omega
   · have:=h.nw.2 x hx;omega
 · obtain ⟨k1,k2,k3⟩:=h.kp q hq
   refine ⟨h3.at_ k1 (by simp [k2,k3]),k2,fun hk=>?_⟩
   rcases h2 _ hk with h4 | h4
   · exact k3 h4
   · have:=lt_of_block k1;omega
theorem ES.alloc {w W:World} {p:Nat} {v:Value} {d:B8} {K:List (Nat × Obj)} (h:ES w W p v d K) (o:Obj):ES w (W.alloc o) p v d ((W.heap.size,o)::K):=by
 have g:Gr W (W.alloc o):=(Gr.refl W).alloc o
 refine ⟨⟨(g.mod []).at_ h.wr.blk (by simp),(g.mod []).row h.wr.row (by simp),h.wr.apart⟩,h.nw,h.md.gr g,fun q hq=>?_⟩
 rcases List.mem_cons.1 hq with rfl | hq
 · exact ⟨heap_alloc_new W o,fun e=>by have:=lt_of_block h.wr.blk;simp only at e;omega,fun e=>by have:=(h.wr.row.lt _ (by simpa [ob] using e)).2;omega⟩
 · obtain ⟨k1,k2,k3⟩:=h.kp q hq
   exact ⟨(g.mod []).at_ k1 (by simp),k2,k3⟩
theorem ES.drewN {w W:World} {p:Nat} {v:Value} {d:B8} {K:List (Nat × Obj)} (h:ES w W p v d K) (n:Nat):ES w (W.drewN n) p v d K :=
 ⟨⟨(((Gr.refl W).drewN n).mod []).at_ h.wr.blk (by simp),(((Gr.refl W).drewN n).mod []).row h.wr.row (by simp),h.wr.apart⟩,h.nw,h.md.drewN n,fun q hq=>⟨(((Gr.refl W).drewN n).mod []).at_ (h.kp q hq).1 (by simp),(h.kp q hq).2⟩⟩
theorem ES.box {w W:World} {p:Nat} {v:Value} {d:B8} {K:List (Nat × Obj)} (h:ES w W p v d K) {k:Nat} {cs:Array Value} {T:TypeId} (hk:(k,Obj.cells cs T (0,0))∈K):(∀ o,W.cell? ⟨k,o,none⟩=cs[o]?)∧(∀ o,W.frozen? ⟨k,o,none⟩=false) :=
 ⟨fun o=>blk_cell (h.kp _ hk).1 o,fun o=>blk_free (h.kp _ hk).1 o⟩
def LayRel (w:World) (p:Nat) (d:B8) (l:List Int) (K:List (Nat × Obj)) (S:List Nat) (W0:World) (i:Value) (wr:World):Prop :=
 ∃ (k:Nat) (v:Value),i=.int .i64 (k:Int)∧k≤l.length∧ES w wr p v (d++numsB (l.take k)) K∧(∀ x,x∈ob v→x∈S∨W0.heap.size≤x)∧Mod (p::S) W0 wr
theorem numsB_snoc (l:List Int) (n:Int):numsB (l++[n])=numsB l++numB n:=by simp [numsB]
theorem numsB_le:∀ l:List Int,(numsB l).length≤10 * l.length
 | []=>by simp [numsB]
 | n::l=>by
   have a:=(numB_len n).2
   have b:=numsB_le l
   have e:numsB (n::l)=numB n++numsB l:=by simp [numsB]
   rw [e,List.length_append,List.length_cons]
   omega
theorem lay_any {w W:World} {p:Nat} {v:Value} {d:B8} {K:List (Nat × Obj)} (h:ES w W p v d K) {lv:Value} {l:List Int} (hl:∀ W',Mod (p::ob v) W W'→RdN W' lv l) (hs:d.length+10 * l.length≤1000000) (hm:∀ n,n∈l→n≤9223372036854775807) :
 Calls Tryz.prog 85 #[.pointer (some ⟨p,0,none⟩),lv] W fun e W'=>e=.returned (.tuple #[])∧∃ v',ES w W' p v' (d++numsB l) K:=by
 obtain ⟨q,c,rfl⟩:=(hl W (Mod.refl _ _)).len
 have hmx:=(hl W (Mod.refl _ _)).1
 have hmx':l.length≤9223372036854775807:=hmx
 have HL:=hide hl
 have HM:=hide hm
 clear hl hm hmx
 go_enter Tryz.func85,Tryz.ntmps85
 go_wp2_with fail
 go_loopw [8] (fun i wr=>LayRel w p d l K (ob v) W i wr) (fun i _=>l.length - (intOf i).toNat)
 case atStart=>exact ⟨0,v,rfl,Nat.zero_le _,by simpa [numsB] using h,fun x hx=>.inl hx,Mod.refl _ _⟩
 case round =>
  obtain ⟨k,v1,rfl,hk,he,ho,hmd⟩:=hrel
  by_cases hlt:k<l.length
  · obtain ⟨b,off,rfl,_,hc⟩:=(HL.out wr hmd).at_ k hlt
    have hle:=numsB_le (l.take k)
    have hn:=HM.out (l.getD k 0) (by simp [hlt])
    have htk:l.take (k+1)=l.take k++[l.getD k 0]:=by rw [List.take_add_one];simp [hlt]
    generalize l.getD k 0=n at hc hn htk
    have hnum:=num_any he.wr n hn (by rw [List.length_append];rw [List.length_take] at hle;omega)
    have HT:=Hj4 htk he ho hmd
    have hszr:=hmd.size
    clear hle hn htk he ho hmd
    go_wp2_with (go_at_call 84;refine hnum.mono ?_;rintro e w2 hto
                 obtain ⟨rfl,v2,he2,ho2,hm2⟩:=HT.out.2.1.step hto
                 have H2:=Hj3 he2 ho2 hm2
                 clear hnum hc hto he2 ho2 hm2)
    go_roundw
    case rel =>
     obtain ⟨he2,ho2,hm2⟩:=H2.out
     refine ⟨k+1,v2,by go_num,by omega,by rw [HT.out.1,numsB_snoc,← List.append_assoc];exact he2,fun x hx=>?_,HT.out.2.2.2.trans hm2 (fun x hx _=>hx) (fun x hx hlt2=>?_)⟩
     · rcases ho2 x hx with h1 | h1
       · exact HT.out.2.2.1 x h1
       · exact .inr (by omega)
     · rcases List.mem_cons.1 hx with rfl | hx
       · exact List.mem_cons_self
       · rcases HT.out.2.2.1 x hx with h1 | h1
         · exact List.mem_cons_of_mem _ h1
         · omega
    case measure=>simp [intOf];omega
  · obtain rfl:k=l.length:=by omega
    rw [List.take_length] at he
    have HE:=hide he
    clear he ho hmd
    go_wp2_with fail
    go_end0
    exact ⟨rfl,v1,HE.out⟩
theorem num_es {w W:World} {p:Nat} {v:Value} {d:B8} {K:List (Nat × Obj)} (h:ES w W p v d K) (n:Int) (hn:n≤9223372036854775807) (hs:d.length≤1000000) :
 Calls Tryz.prog 84 #[.pointer (some ⟨p,0,none⟩),.int .i64 n] W fun e W'=>e=.returned (.tuple #[])∧∃ v',ES w W' p v' (d++numB n) K:=by
 refine (num_any h.wr n hn hs).mono ?_
 intro e W' t
 obtain ⟨h1,v',h2,-,-⟩:=h.step t
 exact ⟨h1,v',h2⟩
theorem text_es {w W:World} {p:Nat} {v:Value} {d:B8} {K:List (Nat × Obj)} (h:ES w W p v d K) (s:ByteArray) (hn:s.size≤1000000) (hs:d.length≤1000000) :
 Calls Tryz.prog 86 #[.pointer (some ⟨p,0,none⟩),.string s] W fun e W'=>e=.returned (.tuple #[])∧∃ v',ES w W' p v' (d++textB s) K:=by
 refine (text_any h.wr s hn hs).mono ?_
 intro e W' t
 obtain ⟨h1,v',h2,-,-⟩:=h.step t
 exact ⟨h1,v',h2⟩
theorem es_row {w W:World} {p:Nat} {v:Value} {d:B8} {K:List (Nat × Obj)} (h:ES w W p v d K) {k:Nat} {l:List Int} (hk:(k,Obj.cells (l.map (Value.int .i64)).toArray 3 (0,0))∈K) (hl:l.length≤100000) :
 ∀ W',Mod (p::ob v) W W'→RdN W' (.slice (some ⟨k,0,none⟩) l.length l.length) l:=by
 intro W' m
 obtain ⟨k1,k2,k3⟩:=h.kp _ hk
 have hb:=m.at_ k1 (by simp [k2,k3])
 refine ⟨by unfold maxLen;omega,.inr ⟨k,0,l.length,rfl,lt_of_block hb,fun i hi=>?_⟩⟩
 rw [Nat.zero_add,blk_cell hb,List.getElem?_toArray]
 simp [hi]
theorem es_arg {w W:World} {p:Nat} {v:Value} {d:B8} {K:List (Nat × Obj)} (h:ES w W p v d K) {u:Value} {l:List Int} (hu:RdN w u l):∀ W',Mod (p::ob v) W W'→RdN W' u l :=
 fun W' m=>hu.mod (S:=[]) (h.md.trans m (by simp) (fun x hx hlt=>by
  rcases List.mem_cons.1 hx with rfl | hx
  · have:=h.nw.1;omega
  · have:=h.nw.2 x hx;omega)) (by simp)
end Go.Proofs.YtpphoeimakjjdaaGreatDoor
/-
  WALKS: layer 11: Encode. (Written by wip/gen_enc2.py.)
-/
namespace Go.Proofs.YtpphoeimakjjdaaGreatDoor
set_option maxRecDepth 100000
set_option maxHeartbeats 8000000
open Go.RowKit

theorem enc1 {r:Rcd} (h:r.kind=1):encB r=numB 1++numsB [r.next,r.boots]:=by unfold encB tailE;rw [if_pos h,h]
theorem enc2 {r:Rcd} (h:r.kind=2):encB r=numB 2++numB r.longest:=by unfold encB tailE;rw [if_neg (by omega),if_pos h,h]
theorem enc4 {r:Rcd} (h:r.kind=4∨r.kind=3):encB r=numB r.kind++grantE r.grant:=by unfold encB tailE;rw [if_neg (by omega),if_neg (by omega),if_pos h]
theorem enc5 {r:Rcd} (h:r.kind=5):encB r=numB 5++(numsB [r.id,(r.stamp.length:Int)]++numsB r.stamp):=by unfold encB tailE;rw [if_neg (by omega),if_neg (by omega),if_neg (by omega),if_pos h,h]
theorem enc6 {r:Rcd} (h:r.kind=6):encB r=numB 6++numB r.id:=by unfold encB tailE;rw [if_neg (by omega),if_neg (by omega),if_neg (by omega),if_neg (by omega),if_pos h,h]
theorem enc7 {r:Rcd} (h:r.kind=7):encB r=numB 7:=by unfold encB tailE;rw [if_neg (by omega),if_neg (by omega),if_neg (by omega),if_neg (by omega),if_neg (by omega),List.append_nil,h]
theorem may_end {r:Rcd} (h:mayB r=true) (h6:r.kind=6):countOk r.id:=by
 rw [may6 h6] at h
 simp only [Bool.and_eq_true,decide_eq_true_eq] at h
 exact h.1
structure E3 (w W:World) (p:Nat) (v:Value) (d:B8) (K:List (Nat × Obj)) (N:Nat):Prop where
 es:ES w W p v d K
 ln:d.length≤N
theorem ES.tail {w W:World} {p:Nat} {v:Value} {d:B8} {K:List (Nat × Obj)} {x:Nat × Obj} (h:ES w W p v d (x::K)):ES w W p v d K:=⟨h.wr,h.nw,h.md,fun q hq=>h.kp q (List.mem_cons_of_mem _ hq)⟩
theorem E3.alloc {w W:World} {p:Nat} {v:Value} {d:B8} {K:List (Nat × Obj)} {N:Nat} (h:E3 w W p v d K N) (o:Obj):E3 w (W.alloc o) p v d ((W.heap.size,o)::K) N:=⟨h.es.alloc o,h.ln⟩
theorem E3.eq {w W:World} {p:Nat} {v:Value} {d EB:B8} {K:List (Nat × Obj)} {N:Nat} (h:E3 w W p v d K N) (he:d=EB):E3 w W p v EB K N:=by subst he;exact h
theorem num_e3 {w W:World} {p:Nat} {v:Value} {d:B8} {K:List (Nat × Obj)} {N:Nat} (h:E3 w W p v d K N) (n:Int) (hn:n≤9223372036854775807) (hN:N≤1000000) :
 Calls Tryz.prog 84 #[.pointer (some ⟨p,0,none⟩),.int .i64 n] W fun e W'=>e=.returned (.tuple #[])∧∃ v',E3 w W' p v' (d++numB n) K (N+10):=by
 refine (num_es h.es n hn (Nat.le_trans h.ln hN)).mono ?_
 rintro e W' ⟨h1,v',h2⟩
 exact ⟨h1,v',h2,by have:=(numB_len n).2;have:=h.ln;rw [List.length_append];omega⟩
theorem text_e3 {w W:World} {p:Nat} {v:Value} {d:B8} {K:List (Nat × Obj)} {N:Nat} (h:E3 w W p v d K N) (s:ByteArray) (hn:s.size≤1000000) (hN:N≤1000000) :
 Calls Tryz.prog 86 #[.pointer (some ⟨p,0,none⟩),.string s] W fun e W'=>e=.returned (.tuple #[])∧∃ v',E3 w W' p v' (d++textB s) K (N+10+s.size):=by
 refine (text_es h.es s hn (Nat.le_trans h.ln hN)).mono ?_
 rintro e W' ⟨h1,v',h2⟩
 refine ⟨h1,v',h2,?_⟩
 have a:=(numB_len (s.size:Int)).2
 have b:=h.ln
 have c:s.data.toList.length=s.size:=by simp
 unfold textB
 rw [List.length_append,List.length_append]
 omega
theorem laya_e3 {w W:World} {p:Nat} {v:Value} {d:B8} {K:List (Nat × Obj)} {N:Nat} (h:E3 w W p v d K N) {lv:Value} {l:List Int} (hl:∀ W',Mod (p::ob v) W W'→RdN W' lv l) (hs:N+10 * l.length≤1000000) (hm:∀ n,n∈l→n≤9223372036854775807) :
 Calls Tryz.prog 85 #[.pointer (some ⟨p,0,none⟩),lv] W fun e W'=>e=.returned (.tuple #[])∧∃ v',E3 w W' p v' (d++numsB l) K (N+10 * l.length):=by
 refine (lay_any h.es hl (by have:=h.ln;omega) hm).mono ?_
 rintro e W' ⟨h1,v',h2⟩
 exact ⟨h1,v',h2,by have:=numsB_le l;have:=h.ln;rw [List.length_append];omega⟩
theorem layn_e3 {w W:World} {p:Nat} {v:Value} {d:B8} {K:List (Nat × Obj)} {N:Nat} (h:E3 w W p v d K N) (l:List Int) (hs:N+10 * l.length≤1000000) (hm:∀ n,n∈l→n≤9223372036854775807) :
 Calls Tryz.prog 85 #[.pointer (some ⟨p,0,none⟩),.slice (some ⟨W.heap.size,0,none⟩) l.length l.length] (W.alloc (.cells (l.map (Value.int .i64)).toArray 3 (0,0))) fun e W'=>e=.returned (.tuple #[])∧∃ v',E3 w W' p v' (d++numsB l) K (N+10 * l.length):=by
 refine (laya_e3 (h.alloc _) (es_row (h.alloc _).es List.mem_cons_self (by omega)) hs hm).mono ?_
 rintro e W' ⟨h1,v',h2⟩
 exact ⟨h1,v',h2.es.tail,h2.ln⟩
theorem lay2_e3 {w W:World} {p:Nat} {v:Value} {d:B8} {K:List (Nat × Obj)} {N:Nat} (h:E3 w W p v d K N) (a b:Int) (hs:N≤1000) (ha:a≤9223372036854775807) (hb:b≤9223372036854775807) :
 Calls Tryz.prog 85 #[.pointer (some ⟨p,0,none⟩),.slice (some ⟨W.heap.size,0,none⟩) 2 2] (W.alloc (.cells #[.int .i64 a,.int .i64 b] 3 (0,0))) fun e W'=>e=.returned (.tuple #[])∧∃ v',E3 w W' p v' (d++numsB [a,b]) K (N+20) :=
 layn_e3 h [a,b] (by simp only [List.length_cons,List.length_nil];omega) (by intro n hn;simp only [List.mem_cons,List.not_mem_nil,or_false] at hn;rcases hn with rfl | rfl <;> assumption)
theorem lay3_e3 {w W:World} {p:Nat} {v:Value} {d:B8} {K:List (Nat × Obj)} {N:Nat} (h:E3 w W p v d K N) (a b c:Int) (hs:N≤1000) (ha:a≤9223372036854775807) (hb:b≤9223372036854775807) (hc:c≤9223372036854775807) :
 Calls Tryz.prog 85 #[.pointer (some ⟨p,0,none⟩),.slice (some ⟨W.heap.size,0,none⟩) 3 3] (W.alloc (.cells #[.int .i64 a,.int .i64 b,.int .i64 c] 3 (0,0))) fun e W'=>e=.returned (.tuple #[])∧∃ v',E3 w W' p v' (d++numsB [a,b,c]) K (N+30) :=
 layn_e3 h [a,b,c] (by simp only [List.length_cons,List.length_nil];omega) (by intro n hn;simp only [List.mem_cons,List.not_mem_nil,or_false] at hn;rcases hn with rfl | rfl | rfl <;> assumption)
theorem E3.new {w w1:World} {k:Nat} {o:Obj} (hm:Mod [] w w1) (hb:w1.heap[k]?=some o):E3 w (w1.alloc (.cells #[.slice none 0 0] 135 (0,0))) w1.heap.size (.slice none 0 0) [] [(k,o)] 0:=by
 have g:Gr w1 (w1.alloc (.cells #[.slice none 0 0] 135 (0,0))):=(Gr.refl w1).alloc _
 refine ⟨⟨⟨heap_alloc_new w1 _,World.ownsRow_nil _ _ _ _,by simp [ob,Value.ownBlock]⟩,⟨hm.size,by simp [ob,Value.ownBlock]⟩,hm.gr g,fun q hq=>?_⟩,Nat.le_refl _⟩
 obtain rfl:q=(k,o):=by simpa using hq
 exact ⟨(g.mod []).at_ hb (by simp),fun e=>by have:=lt_of_block hb;simp only at e;omega,by simp [ob,Value.ownBlock]⟩
def EncQ (w:World) (M:Bool) (EB:B8) (e:Ending) (w':World):Prop :=
 (M=false∧e=.returned (.tuple #[.slice none 0 0,.int .i64 43])∧Mod [] w w') ∨
 (M=true∧∃ p c,e=.returned (.tuple #[.slice p EB.length c,.int .i64 0])∧RowY w' w.heap.size (.slice p EB.length c) EB∧Mod [] w w')
theorem EncQ.some {w W w':World} {EB D:B8} {p:Option Addr} {c:Nat} (he:D=EB) (hr:RowY w' W.heap.size (.slice p D.length c) D) (hm:Mod [] w W) (hm2:Mod [] W w'):EncQ w true EB (.returned (.tuple #[.slice p D.length c,.int .i64 0])) w':=by
 subst he
 exact .inr ⟨rfl,p,c,rfl,World.ownsRow.mono hr hm.size,hm.then hm2⟩
theorem encode_any {w:World} {r:Rcd} {sv tv:Value} (hg:RdN w sv r.grant.stamp) (hs:RdN w tv r.stamp) (hp:r.grant.path.size≤9223372036854775807) :
 Calls Tryz.prog 48 #[aggR r sv tv] w fun e w'=>EncQ w (mayB r) (encB r) e w':=by
 have hmay:=fun (W:World) (m:Mod [] w W)=>mayRec_any (r:=r) (hg.mod m (by simp)) (hs.mod m (by simp)) hp
 obtain ⟨M,hM⟩:∃ M,mayB r=M:=⟨_,rfl⟩
 rw [hM] at hmay ⊢
 obtain ⟨EB,hEB⟩:∃ EB,encB r=EB:=⟨_,rfl⟩
 rw [hEB]
 have hk:=fun h=>may_kind (r:=r) (hM.trans h)
 obtain ⟨kd,⟨gi,gh,gp,gm,gs,gt⟩,ri,rs,rn,rb,rl⟩:=r
 simp only at hg hs hp
 obtain ⟨q2,c2,rfl⟩:=hs.len
 obtain ⟨q1,c1,rfl⟩:=hg.len
 obtain ⟨W0,hW0⟩:∃ W0,W0=w.alloc (.cells #[.int .i64 kd,.int .i64 gi,.int .i64 gh,.string gp,.int .i64 gm,.slice q1 gs.length c1,.int .i64 gt,.int .i64 ri,.slice q2 rs.length c2,.int .i64 rn,.int .i64 rb,.int .i64 rl] 42 (0,0)):=⟨_,rfl⟩
 have hr0:W0.heap[w.heap.size]?=some (.cells #[.int .i64 kd,.int .i64 gi,.int .i64 gh,.string gp,.int .i64 gm,.slice q1 gs.length c1,.int .i64 gt,.int .i64 ri,.slice q2 rs.length c2,.int .i64 rn,.int .i64 rb,.int .i64 rl] 42 (0,0)):=by rw [hW0];exact heap_alloc_new w _
 have hm0:Mod [] w W0:=by rw [hW0];exact (Mod.refl _ _).alloc _
 have hy:=hmay W0 hm0
 have R0:=blk_cell hr0
 have HB:=Hj3 (And.intro hr0 hm0) hg hs
 have HE:=Hj2 hEB hM
 clear hmay hr0 hm0 hg hs hEB hM
 unfold aggR cellsR at hy ⊢
 simp only at hy ⊢
 cases M with
 | false =>
   go_enter Tryz.func48,Tryz.ntmps48
   go_upto_region 1 with fail
   rw [← hW0]
   clear hW0
   go_wp2_with (go_at_call 80;refine hy.mono ?_;rintro e w1 ⟨rfl,hm1⟩;have H1:=hide hm1;clear hm1 R0)
   go_ret2
   exact .inl ⟨rfl,rfl,HB.out.1.2.then H1.out⟩
 | true =>
 have hkd:kd=1∨kd=2∨kd=3∨kd=4∨kd=5∨kd=6∨kd=7:=by
  have:=hk rfl
  simp only at this
  omega
 have hkr:kd≤9223372036854775807:=by omega
 clear hk
 go_enter Tryz.func48,Tryz.ntmps48
 go_upto_region 1 with fail
 rw [← hW0]
 clear hW0
 go_upto_region 3 with (go_at_call 80;refine hy.mono ?_;rintro e w1 ⟨rfl,hm1⟩
                        have hws:=hide (E3.new (HB.out.1.2.then hm1) (hm1.at_ HB.out.1.1 (by simp)))
                        clear hm1 R0 hy)
 go_upto_region 4 with fail
 obtain ⟨W1,hW1⟩:∃ W1,w1.alloc (.cells #[.slice none 0 0] 135 (0,0))=W1:=⟨_,rfl⟩
 rw [hW1] at hws ⊢
 clear hW1
 have CR:=(hws.out.es.box (k:=w.heap.size) List.mem_cons_self).1
 go_upto_region 6 with (go_at_call 84;refine (num_e3 hws.out kd hkr (by omega)).mono ?_;rintro e W2 ⟨rfl,v2,h2⟩;clear hws CR;have hws:=hide h2;have CR:=(h2.es.box (k:=w.heap.size) List.mem_cons_self).1;clear h2)
 have hwg:=hws.out.alloc (.cells #[.int .i64 gi,.int .i64 gh,.string gp,.int .i64 gm,.slice q1 gs.length c1,.int .i64 gt] 40 (0,0))
 obtain ⟨W3,hW3⟩:∃ W3,W2.alloc (.cells #[.int .i64 gi,.int .i64 gh,.string gp,.int .i64 gm,.slice q1 gs.length c1,.int .i64 gt] 40 (0,0))=W3:=⟨_,rfl⟩
 rw [hW3] at hwg ⊢
 clear hW3 hws CR
 have hws:=hide hwg
 have CR:=(hwg.es.box (k:=w.heap.size) (List.mem_cons_of_mem _ List.mem_cons_self)).1
 have CG:=(hwg.es.box List.mem_cons_self).1
 clear hwg
 rcases hkd with rfl | rfl | rfl | rfl | rfl | rfl | rfl
 · skip
   have t1:=hide trivial
   have t9:=hide trivial
   have hf:=heads_iff.1 (may_heads HE.out.2 rfl)
   simp only at hf
   have hE:=HE.out.1
   rw [enc1 rfl] at hE
   have HEE:=hide hE
   clear hE
   go_wp2_with (first
    | (have tk:=t1;go_at_call 85;refine (lay2_e3 hws.out (rn) (rb) (by omega) (by omega) (by omega)).mono ?_;rintro e W2 ⟨rfl,v2,h2⟩;clear tk;clear hws CR CG;have hws:=hide h2;have CR:=(h2.es.box (k:=w.heap.size) (List.mem_cons_of_mem _ List.mem_cons_self)).1;have CG:=(h2.es.box List.mem_cons_self).1;clear h2 t1)
    | (have tk:=t9;go_at_call 87;have hws3:=hide (hws.out.eq (EB:=EB) (by rw [← HEE.out];first | done | rfl | (simp [grantE,numsB,textB];done)));refine (bytes_any hws3.out.es.wr (by have:=hws3.out.ln;omega)).mono ?_;rintro e W2 ⟨p2,c2',rfl,hrow,hmd⟩;clear tk t9 CR CG;have hws2:=Hj3 hrow hws3.out.es.md hmd;clear hrow hmd hws hws3)
    | fail)
   go_ret2
   obtain ⟨hrow,m1,m2⟩:=hws2.out
   exact EncQ.some rfl hrow m1 m2
 · skip
   have t1:=hide trivial
   have t9:=hide trivial
   have hf:=may_longest HE.out.2 rfl
   unfold legalT at hf
   simp only at hf
   have hE:=HE.out.1
   rw [enc2 rfl] at hE
   have HEE:=hide hE
   clear hE
   go_wp2_with (first
    | (have tk:=t1;go_at_call 84;refine (num_e3 hws.out rl (by omega) (by omega)).mono ?_;rintro e W2 ⟨rfl,v2,h2⟩;clear tk;clear hws CR CG;have hws:=hide h2;have CR:=(h2.es.box (k:=w.heap.size) (List.mem_cons_of_mem _ List.mem_cons_self)).1;have CG:=(h2.es.box List.mem_cons_self).1;clear h2 t1)
    | (have tk:=t9;go_at_call 87;have hws3:=hide (hws.out.eq (EB:=EB) (by rw [← HEE.out];first | done | rfl | (simp [grantE,numsB,textB];done)));refine (bytes_any hws3.out.es.wr (by have:=hws3.out.ln;omega)).mono ?_;rintro e W2 ⟨p2,c2',rfl,hrow,hmd⟩;clear tk t9 CR CG;have hws2:=Hj3 hrow hws3.out.es.md hmd;clear hrow hmd hws hws3)
    | fail)
   go_ret2
   obtain ⟨hrow,m1,m2⟩:=hws2.out
   exact EncQ.some rfl hrow m1 m2
 · skip
   have t1:=hide trivial
   have t2:=hide trivial
   have t3:=hide trivial
   have t4:=hide trivial
   have t9:=hide trivial
   have hf:=(may_grant HE.out.2 (.inr rfl)).1
   obtain ⟨hf1,hf2,hf3,hf4,hf5,hf6,hf7⟩:=grant_iff.1 hf
   have hst:=(stm_range hf5).1
   have hpl:gp.size≤27:=by have:=pathOk_len hf3;simpa using this
   unfold countOk at hf1
   unfold legalT at hf7
   simp only at hf1 hf2 hf4 hf5 hf6 hf7 hst
   clear hf hf3 hf6
   have hE:=HE.out.1
   rw [enc4 (.inr rfl)] at hE
   have HEE:=hide hE
   clear hE
   go_wp2_with (first
    | (have tk:=t1;go_at_call 85;refine (lay2_e3 hws.out (gi) (gh) (by omega) (by omega) (by omega)).mono ?_;rintro e W2 ⟨rfl,v2,h2⟩;clear tk;clear hws CR CG;have hws:=hide h2;have CR:=(h2.es.box (k:=w.heap.size) (List.mem_cons_of_mem _ List.mem_cons_self)).1;have CG:=(h2.es.box List.mem_cons_self).1;clear h2 t1)
    | (have tk:=t2;go_at_call 86;refine (text_e3 hws.out gp (by omega) (by omega)).mono ?_;rintro e W2 ⟨rfl,v2,h2⟩;clear tk;clear hws CR CG;have hws:=hide h2;have CR:=(h2.es.box (k:=w.heap.size) (List.mem_cons_of_mem _ List.mem_cons_self)).1;have CG:=(h2.es.box List.mem_cons_self).1;clear h2 t2)
    | (have tk:=t3;go_at_call 85;refine (lay3_e3 hws.out (gm) (gt) (gs.length:Int) (by omega) (by omega) (by omega) (by omega)).mono ?_;rintro e W2 ⟨rfl,v2,h2⟩;clear tk;clear hws CR CG;have hws:=hide h2;have CR:=(h2.es.box (k:=w.heap.size) (List.mem_cons_of_mem _ List.mem_cons_self)).1;have CG:=(h2.es.box List.mem_cons_self).1;clear h2 t3)
    | (have tk:=t4;go_at_call 85;refine (laya_e3 hws.out (es_arg hws.out.es HB.out.2.1) (by omega) (fun n hn=>by have:=(stm_range hf5).2 n hn;omega)).mono ?_;rintro e W2 ⟨rfl,v2,h2⟩;clear tk;clear hws CR CG;have hws:=hide h2;have CR:=(h2.es.box (k:=w.heap.size) (List.mem_cons_of_mem _ List.mem_cons_self)).1;have CG:=(h2.es.box List.mem_cons_self).1;clear h2 t4)
    | (have tk:=t9;go_at_call 87;have hws3:=hide (hws.out.eq (EB:=EB) (by rw [← HEE.out];first | done | rfl | (simp [grantE,numsB,textB];done)));refine (bytes_any hws3.out.es.wr (by have:=hws3.out.ln;omega)).mono ?_;rintro e W2 ⟨p2,c2',rfl,hrow,hmd⟩;clear tk t9 CR CG;have hws2:=Hj3 hrow hws3.out.es.md hmd;clear hrow hmd hws hws3)
    | fail)
   go_ret2
   obtain ⟨hrow,m1,m2⟩:=hws2.out
   exact EncQ.some rfl hrow m1 m2
 · skip
   have t1:=hide trivial
   have t2:=hide trivial
   have t3:=hide trivial
   have t4:=hide trivial
   have t9:=hide trivial
   have hf:=(may_grant HE.out.2 (.inl rfl)).1
   obtain ⟨hf1,hf2,hf3,hf4,hf5,hf6,hf7⟩:=grant_iff.1 hf
   have hst:=(stm_range hf5).1
   have hpl:gp.size≤27:=by have:=pathOk_len hf3;simpa using this
   unfold countOk at hf1
   unfold legalT at hf7
   simp only at hf1 hf2 hf4 hf5 hf6 hf7 hst
   clear hf hf3 hf6
   have hE:=HE.out.1
   rw [enc4 (.inl rfl)] at hE
   have HEE:=hide hE
   clear hE
   go_wp2_with (first
    | (have tk:=t1;go_at_call 85;refine (lay2_e3 hws.out (gi) (gh) (by omega) (by omega) (by omega)).mono ?_;rintro e W2 ⟨rfl,v2,h2⟩;clear tk;clear hws CR CG;have hws:=hide h2;have CR:=(h2.es.box (k:=w.heap.size) (List.mem_cons_of_mem _ List.mem_cons_self)).1;have CG:=(h2.es.box List.mem_cons_self).1;clear h2 t1)
    | (have tk:=t2;go_at_call 86;refine (text_e3 hws.out gp (by omega) (by omega)).mono ?_;rintro e W2 ⟨rfl,v2,h2⟩;clear tk;clear hws CR CG;have hws:=hide h2;have CR:=(h2.es.box (k:=w.heap.size) (List.mem_cons_of_mem _ List.mem_cons_self)).1;have CG:=(h2.es.box List.mem_cons_self).1;clear h2 t2)
    | (have tk:=t3;go_at_call 85;refine (lay3_e3 hws.out (gm) (gt) (gs.length:Int) (by omega) (by omega) (by omega) (by omega)).mono ?_;rintro e W2 ⟨rfl,v2,h2⟩;clear tk;clear hws CR CG;have hws:=hide h2;have CR:=(h2.es.box (k:=w.heap.size) (List.mem_cons_of_mem _ List.mem_cons_self)).1;have CG:=(h2.es.box List.mem_cons_self).1;clear h2 t3)
    | (have tk:=t4;go_at_call 85;refine (laya_e3 hws.out (es_arg hws.out.es HB.out.2.1) (by omega) (fun n hn=>by have:=(stm_range hf5).2 n hn;omega)).mono ?_;rintro e W2 ⟨rfl,v2,h2⟩;clear tk;clear hws CR CG;have hws:=hide h2;have CR:=(h2.es.box (k:=w.heap.size) (List.mem_cons_of_mem _ List.mem_cons_self)).1;have CG:=(h2.es.box List.mem_cons_self).1;clear h2 t4)
    | (have tk:=t9;go_at_call 87;have hws3:=hide (hws.out.eq (EB:=EB) (by rw [← HEE.out];first | done | rfl | (simp [grantE,numsB,textB];done)));refine (bytes_any hws3.out.es.wr (by have:=hws3.out.ln;omega)).mono ?_;rintro e W2 ⟨p2,c2',rfl,hrow,hmd⟩;clear tk t9 CR CG;have hws2:=Hj3 hrow hws3.out.es.md hmd;clear hrow hmd hws hws3)
    | fail)
   go_ret2
   obtain ⟨hrow,m1,m2⟩:=hws2.out
   exact EncQ.some rfl hrow m1 m2
 · skip
   have t1:=hide trivial
   have t2:=hide trivial
   have t9:=hide trivial
   have hf:=may_fresh HE.out.2 rfl
   have hst:=(stm_range hf.2).1
   have hid:=hf.1
   unfold countOk at hid
   simp only at hid hst hf
   have hE:=HE.out.1
   rw [enc5 rfl] at hE
   have HEE:=hide hE
   clear hE
   go_wp2_with (first
    | (have tk:=t1;go_at_call 85;refine (lay2_e3 hws.out (ri) (rs.length:Int) (by omega) (by omega) (by omega)).mono ?_;rintro e W2 ⟨rfl,v2,h2⟩;clear tk;clear hws CR CG;have hws:=hide h2;have CR:=(h2.es.box (k:=w.heap.size) (List.mem_cons_of_mem _ List.mem_cons_self)).1;have CG:=(h2.es.box List.mem_cons_self).1;clear h2 t1)
    | (have tk:=t2;go_at_call 85;refine (laya_e3 hws.out (es_arg hws.out.es HB.out.2.2) (by omega) (fun n hn=>by have:=(stm_range hf.2).2 n hn;omega)).mono ?_;rintro e W2 ⟨rfl,v2,h2⟩;clear tk;clear hws CR CG;have hws:=hide h2;have CR:=(h2.es.box (k:=w.heap.size) (List.mem_cons_of_mem _ List.mem_cons_self)).1;have CG:=(h2.es.box List.mem_cons_self).1;clear h2 t2)
    | (have tk:=t9;go_at_call 87;have hws3:=hide (hws.out.eq (EB:=EB) (by rw [← HEE.out];first | done | rfl | (simp [grantE,numsB,textB];done)));refine (bytes_any hws3.out.es.wr (by have:=hws3.out.ln;omega)).mono ?_;rintro e W2 ⟨p2,c2',rfl,hrow,hmd⟩;clear tk t9 CR CG;have hws2:=Hj3 hrow hws3.out.es.md hmd;clear hrow hmd hws hws3)
    | fail)
   go_ret2
   obtain ⟨hrow,m1,m2⟩:=hws2.out
   exact EncQ.some rfl hrow m1 m2
 · skip
   have t1:=hide trivial
   have t9:=hide trivial
   have hid:=may_end HE.out.2 rfl
   unfold countOk at hid
   simp only at hid
   have hE:=HE.out.1
   rw [enc6 rfl] at hE
   have HEE:=hide hE
   clear hE
   go_wp2_with (first
    | (have tk:=t1;go_at_call 84;refine (num_e3 hws.out ri (by omega) (by omega)).mono ?_;rintro e W2 ⟨rfl,v2,h2⟩;clear tk;clear hws CR CG;have hws:=hide h2;have CR:=(h2.es.box (k:=w.heap.size) (List.mem_cons_of_mem _ List.mem_cons_self)).1;have CG:=(h2.es.box List.mem_cons_self).1;clear h2 t1)
    | (have tk:=t9;go_at_call 87;have hws3:=hide (hws.out.eq (EB:=EB) (by rw [← HEE.out];first | done | rfl | (simp [grantE,numsB,textB];done)));refine (bytes_any hws3.out.es.wr (by have:=hws3.out.ln;omega)).mono ?_;rintro e W2 ⟨p2,c2',rfl,hrow,hmd⟩;clear tk t9 CR CG;have hws2:=Hj3 hrow hws3.out.es.md hmd;clear hrow hmd hws hws3)
    | fail)
   go_ret2
   obtain ⟨hrow,m1,m2⟩:=hws2.out
   exact EncQ.some rfl hrow m1 m2
 · skip
   have t9:=hide trivial
   have hE:=HE.out.1
   rw [enc7 rfl] at hE
   have HEE:=hide hE
   clear hE
   go_wp2_with (first
    | (have tk:=t9;go_at_call 87;have hws3:=hide (hws.out.eq (EB:=EB) (by rw [← HEE.out];first | done | rfl | (simp [grantE,numsB,textB];done)));refine (bytes_any hws3.out.es.wr (by have:=hws3.out.ln;omega)).mono ?_;rintro e W2 ⟨p2,c2',rfl,hrow,hmd⟩;clear tk t9 CR CG;have hws2:=Hj3 hrow hws3.out.es.md hmd;clear hrow hmd hws hws3)
    | fail)
   go_ret2
   obtain ⟨hrow,m1,m2⟩:=hws2.out
   exact EncQ.some rfl hrow m1 m2
end Go.Proofs.YtpphoeimakjjdaaGreatDoor
/-
  WALKS: layer 11: counters: a stamp taken up.
-/
namespace Go.Proofs.YtpphoeimakjjdaaGreatDoor
set_option maxRecDepth 100000
set_option maxHeartbeats 1000000
open Go.RowKit

theorem readK_snoc:∀ (k:Nat) (s:RS),readK (k+1) s=((readK k s).1++[(nxt (readK k s).2).1],(nxt (readK k s).2).2)
 | 0,s=>rfl
 | k+1,s=>by
   have ih:=readK_snoc k (nxt s).2
   conv=>lhs;rw [readK]
   rw [ih]
   rfl
theorem readK_len:∀ (k:Nat) (s:RS),(readK k s).1.length=k
 | 0,s=>rfl
 | k+1,s=>by simp [readK,readK_len k]
theorem nxt_ge (s:RS):0≤(nxt s).1∧(nxt s).1≤9223372036854775807:=by
 unfold nxt rdNum
 split
 · have:=(takeN_bound s.1).1
   simp only
   omega
 · exact ⟨Int.le_refl _,by show (0:Int)≤_;decide⟩
theorem wpList_app_int {ops:Array Oper} {rest:List Oper} {o:Oper} {a:Act} {Q:Exit→Act→World→Prop} (w:World) (hgd:o.guard=none) (s x:Operand)
 (ho:o.op=.call { callee:=.builtin .append,args:=#[s,x],argTypes:=#[38,38] })
 {base:Nat} {u:Value} {l:List Int} (hs:a.eval s=u) (h:w.ownsRow base 3 1 u l.length (l.map (Value.int .i64))) (hn:l.length≤1000000) (hbase:base≤w.heap.size) {k:Nat} (hx:a.eval x=.slice (some ⟨k,0,none⟩) 1 1) {n:Int}
 (hk:w.heap[k]?=some (.cells #[.int .i64 n] 3 (0,0)))
 (hK:∀ u' w',w'.ownsRow base 3 1 u' (l++[n]).length ((l++[n]).map (Value.int .i64))→Mod (ob u) w w'→(∃ p c,u'=.slice p (l.length+1) c)→(∀ k,k∈ob u'→k∈ob u∨w.heap.size≤k)→wpList Tryz.prog ops Q rest (a.put o.dst u') w'):wpList Tryz.prog ops Q (o::rest) a w:=by
 obtain ⟨i0,hi0,hz0,hs0,hb0⟩:=info_parts info_int
 refine wpList_append_lies w hgd s x 38 ho base 3 i0 _ 1 8 Tryz.underlying38 hi0 hz0 hs0 hb0 rfl (by decide) _ _ _ hs h ⟨k,0,none⟩ 1 1 [.int .i64 n] hx rfl (World.news_of_block (cs:=#[.int .i64 n]) (t:=3) (fr:=(0,0)) hk) (by simp [Value.oneCell']) (by decide) (by unfold maxLen;omega) (by omega) hbase ?_
 intro g' cap w' hr hg hat
 have hm:Mod (ob u) w w':=(Mod.refl (ob u) w).grown hg (fun k e _=>by simp [ob,e])
 refine hK _ _ (by simpa using hr) hm ⟨_,_,rfl⟩ (fun k hk=>?_)
 have:k=g':=by simpa [ob,Value.ownBlock] using hk
 subst this
 rcases hat with e | e
 · exact .inl (by simp [ob,e])
 · exact .inr (by omega)
def CtrTo (w:World) (p:Nat) (v:Value) (t:List Int × RS) (e:Ending) (w':World):Prop :=
 ∃ u v',e=.returned u∧w'.ownsRow w.heap.size 3 1 u t.1.length (t.1.map (Value.int .i64))∧RrM w' p v' t.2.1 t.2.2∧(∀ k,k∈ob v'→k∈ob v)∧Mod [p] w w'
def CtrRel (w:World) (p:Nat) (v:Value) (s:RS) (n:Nat) (u i:Value) (wr:World):Prop :=
 ∃ (k:Nat) (v':Value),i=.int .i64 (k:Int)∧k≤n∧wr.ownsRow w.heap.size 3 1 u (readK k s).1.length ((readK k s).1.map (Value.int .i64))∧RrM wr p v' (readK k s).2.1 (readK k s).2.2∧(∀ x,x∈ob v'→x∈ob v)∧Mod [p] w wr
theorem counters_any {w:World} {p:Nat} {v:Value} {l:B8} {x:Int} (h:RrM w p v l x) (hpv:∀ k,k∈ob v→k<w.heap.size) :
 Calls Tryz.prog 113 #[.pointer (some ⟨p,0,none⟩)] w fun e w'=>CtrTo w p v (countersS (l,x)) e w':=by
 have hpw:=lt_of_block h.blk
 have hn:=readNum_any h
 have hge:=nxt_ge (l,x)
 unfold countersS
 unfold nxt at hge ⊢
 simp only at hge ⊢
 generalize rdNum l x=t at hn hge ⊢
 obtain ⟨a,l1,x1⟩:=t
 simp only at hn hge ⊢
 obtain ⟨n,hN⟩:∃ n:Nat,(min a 5).toNat=n:=⟨_,rfl⟩
 have hN2:min a 5=(n:Int):=by omega
 have hN5:n≤5:=by omega
 rw [hN]
 have HH:=Hj2 h hpv
 clear h hpv hN
 go_enter Tryz.func113,Tryz.ntmps113
 go_wp2_with (go_at_call 111;refine hn.mono ?_;rintro e w1 ⟨rfl,v1,hr1,ho1,hm1⟩
              have H1:=Hj3 hr1 ho1 hm1
              clear hr1 ho1 hm1 hn)
 go_loopw [3,7] (fun u i wr=>CtrRel w p v (l1,x1) n u i wr) (fun _ i _=>n - (intOf i).toNat)
 case atStart=>exact ⟨0,v1,rfl,Nat.zero_le _,World.ownsRow_nil _ _ _ _,H1.out.1,H1.out.2.1,H1.out.2.2⟩
 case round =>
  obtain ⟨k,v',rfl,hk,hrow,hr,ho,hm⟩:=hrel
  by_cases hlt:k<n
  · have hkn:(k:Int)<(n:Int):=by omega
    have hnum:=readNum_any hr
    have hsn:=readK_snoc k (l1,x1)
    have hln:=readK_len k (l1,x1)
    have hnx:(nxt (readK k (l1,x1)).2)=((rdNum (readK k (l1,x1)).2.1 (readK k (l1,x1)).2.2).1,((rdNum (readK k (l1,x1)).2.1 (readK k (l1,x1)).2.2).2.1,(rdNum (readK k (l1,x1)).2.1 (readK k (l1,x1)).2.2).2.2)):=rfl
    rw [hnx] at hsn
    generalize rdNum (readK k (l1,x1)).2.1 (readK k (l1,x1)).2.2=t at hnum hsn
    obtain ⟨y,l2,x2⟩:=t
    simp only at hnum hsn
    have HS:=Hj5 hsn hln hrow ho hm
    clear hsn hln hrow ho hm hr hnx
    go_wp2_with (first
     | (go_at_call 111;refine hnum.mono ?_;rintro e w2 ⟨rfl,v2,hr2,ho2,hm2⟩
        obtain ⟨W3,hW3⟩:∃ W3,W3=w2.alloc (.cells #[.int .i64 y] 3 (0,0)):=⟨_,rfl⟩
        have hk3:W3.heap[w2.heap.size]?=some (.cells #[.int .i64 y] 3 (0,0)):=by rw [hW3];exact heap_alloc_new w2 _
        have g3:Gr w2 W3:=by rw [hW3];exact (Gr.refl w2).alloc _
        have H2:=Hj5 hr2 ho2 hm2 hk3 g3
        clear hr2 ho2 hm2 hk3 g3 hnum)
     | (at_builtin
        (try rw [← hW3])
        have hor:=HS.out.2.2.1
        have hszw:=HS.out.2.2.2.2.size
        have hszw2:=H2.out.2.2.1.size
        have hszw3:=H2.out.2.2.2.2.size
        have hou:∀ q,q∈ob u3→w.heap.size≤q:=fun q hq=>(ob_of_row hor q hq).1
        have h5:=H2.out.2.2.1.row hor (fun q hq e=>by have:=hou q (by simp [ob,hq]);simp at e;omega)
        have h6:=(H2.out.2.2.2.2.mod []).row h5 (by simp)
        refine wpList_app_int (n:=y) (base:=w.heap.size) W3 rfl _ _ rfl rfl h6 (by rw [HS.out.2.1];omega) (by omega) (k:=w2.heap.size) rfl H2.out.2.2.2.1 ?_
        rintro u' w3 hrow3 hm3 ⟨p3,c3,rfl⟩ -
        have H3:=Hj3 hrow3 hm3 hou
        clear hrow3 hm3 h5 h6 hor hou hszw hszw2 hszw3)
     | fail)
    go_roundw
    case rel =>
     obtain ⟨hr2,ho2,hm2,hk3,g3⟩:=H2.out
     obtain ⟨hrow3,hm3,hou⟩:=H3.out
     obtain ⟨hsn,hln,hrow,ho,hm⟩:=HS.out
     have hpv:=HH.out.2
     refine ⟨k+1,v2,by go_num,by omega,?_,?_,fun q hq=>ho q (ho2 q hq),?_⟩
     · rw [hsn];exact hrow3
     · rw [hsn]
       refine ⟨hm3.at_ ((g3.mod []).at_ hr2.blk (by simp)) (fun e=>by have:=hou _ e;omega),(hr2.rd.gr g3).mod hm3 (fun q hq e=>?_),hr2.apart⟩
       have h1:=hpv q (ho q (ho2 q hq))
       have h2:=hou q e
       omega
     · exact ((hm.then hm2).gr g3).trans hm3 (fun x hx _=>hx) (fun x hx hlt2=>by have:=hou x hx;omega)
    case measure=>simp [intOf];omega
  · obtain rfl:k=n:=by omega
    have hkn:¬ (k:Int)<(k:Int):=by omega
    obtain ⟨p3,c3,hu⟩:=(rdN_of_row hrow).len
    subst hu
    have HS:=Hj4 hrow hr ho hm
    clear hrow hr ho hm
    go_wp2_with fail
    go_ret
    exact ⟨_,v',rfl,HS.out⟩
theorem reader_any {w:World} {u:Value} {b:B8} (hu:RdY w u b) (hl:b.length≤1000000000) :
 Calls Tryz.prog 110 #[u] w fun e w'=>∃ p v,e=.returned (.pointer (some ⟨p,0,none⟩))∧RrM w' p v b 0∧w.heap.size≤p∧(∀ k,k∈ob v→w.heap.size≤k∧k<p)∧Mod [] w w':=by
 go_enter Tryz.func110,Tryz.ntmps110
 go_wp2_with (at_builtin;refine wpList_copy_y _ rfl _ _ rfl rfl rfl hu (by omega) ?_;intro p' c' w1 hr hm)
 go_ret
 have hb:=hr.blk
 have hs:=hm.size
 exact ⟨_,_,rfl,⟨heap_alloc_new _ _,hr.rd.gr ((Gr.refl w1).alloc _),fun h=>by have:=(hb _ h).2;omega⟩,hs,fun k hk=>hb k hk,hm.alloc _⟩
end Go.Proofs.YtpphoeimakjjdaaGreatDoor
