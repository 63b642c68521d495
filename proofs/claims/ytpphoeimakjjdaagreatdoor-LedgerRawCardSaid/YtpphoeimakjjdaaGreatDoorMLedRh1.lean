/-
  WALKS: the document's layer 12: parts, of, head.
-/
import Derived.Test.YtpphoeimakjjdaaGreatDoorMPart
import Derived.Test.YtpphoeimakjjdaaGreatDoorMLedC
namespace Go.Proofs.YtpphoeimakjjdaaGreatDoor
set_option maxRecDepth 100000
set_option maxHeartbeats 4000000
open Go.RowKit

theorem rparts_any (n:Nat) (hn:n≤1000000) (w:World):Calls Tryz.prog 69 #[.int .i64 (n:Int)] w fun e w'=>e=.returned (.int .i64 (widthN n:Int))∧w'=w:=by
 have hdiv:((n:Int)+47 - 1).tdiv 47=(((n+46) / 47:Nat):Int):=by
  rw [show (n:Int)+47 - 1=((n+46:Nat):Int) by omega]
  rfl
 obtain ⟨m,hm⟩:∃ m,(n+46) / 47=m:=⟨_,rfl⟩
 have hw:widthN n=max 1 m:=by unfold widthN;rw [hm]
 rw [hm] at hdiv
 have hmm:m≤1000000:=by omega
 rw [hw]
 have HW:=hide hm
 clear hw hm
 go_enter Tryz.func69,Tryz.ntmps69
 go_wp2_with fail
 all_goals
  go_ret
  refine ⟨congrArg (fun x=>Ending.returned (.int .i64 x)) ?_,rfl⟩
  simp only [Nat.max_def,Int.max_def]
  split <;> split <;> omega
theorem rof_any {w:World} {u:Value} {ls:List B8} (hu:RdA w u ls) (hl:49≤ls.length) (k:Nat) (hk:k≤1):Calls Tryz.prog 94 #[u,.int .i64 (k:Int)] w fun e w'=>∃ v,e=.returned v∧RdA w v (sideS ls k)∧w'=w:=by
 obtain ⟨q,c,rfl⟩:=hu.len
 have hcap:=hu.cap
 obtain ⟨n,hn⟩:∃ n,ls.length=n:=⟨_,rfl⟩
 have hc1:=fun j (hj:j≤n)=>hu.cut (k:=j) (by rw [hn];exact hj)
 have hc2:=fun j (hj:j+24≤n)=>((show RdA w (.slice (q.map fun x=>x.add j) (ls.drop j).length (c - j)) (ls.drop j) by rw [List.length_drop];exact hc1 j (by omega)).take (k:=24) (by rw [List.length_drop,hn];omega))
 rw [hn] at hl hcap ⊢
 have HC:=hide hc2
 clear hc1 hc2 hu hn
 rcases Nat.le_one_iff_eq_zero_or_eq_one.1 hk with rfl | rfl
 · have h1:¬ c=1:=by omega
   go_enter Tryz.func94,Tryz.ntmps94
   go_wp2_with fail
   go_ret
   exact ⟨_,rfl,HC.out 1 (by omega),rfl⟩
 · have h1:¬ c=25:=by omega
   go_enter Tryz.func94,Tryz.ntmps94
   go_wp2_with fail
   go_ret
   exact ⟨_,rfl,HC.out 25 (by omega),rfl⟩
def HeadTo (w:World) (o:Option (Nat × Nat)) (e:Ending) (w':World):Prop :=
 match o with
 | none=>e=.returned (.tuple #[.int .i64 0,.int .i64 0,.bool false])∧Mod [] w w'
 | some p=>e=.returned (.tuple #[.int .i64 (p.1:Int),.int .i64 (p.2:Int),.bool true])∧Mod [] w w'
theorem rhead_any {w:World} {u:Value} {b:B8} (hu:RdY w u b):Calls Tryz.prog 92 #[u] w fun e w'=>HeadTo w (headS b) e w':=by
 have hlook:=rlook_any hu
 clear hu
 cases hs:lookS b with
 | none =>
   have hn:headS b=none:=by unfold headS;rw [hs];rfl
   rw [hn]
   rw [hs] at hlook
   clear hn hs
   go_enter Tryz.func92,Tryz.ntmps92
   go_wp2_with (go_at_call 98;refine hlook.mono ?_;rintro e w1 ⟨rfl,m1⟩;have H1:=hide m1;clear m1)
   go_ret3
   exact ⟨rfl,H1.out.alloc _⟩
 | some p =>
   obtain ⟨pg,ps,pi,pp,pd⟩:=p
   have hfit:=look_fits hs
   rw [hs] at hlook
   simp only at hfit
   by_cases hN:pd.length=1
   · obtain ⟨c,rfl⟩:∃ c,pd=[c]:=List.length_eq_one_iff.1 hN
     obtain ⟨R,hR⟩:∃ R,headS b=R:=⟨_,rfl⟩
     have hh:R=if ps=0∧pp=1∧c.toNat≤1 then some (pg,c.toNat) else none:=by
      rw [← hR];unfold headS;rw [hs]
      simp only [Option.bind_some]
      by_cases h:ps=0∧pp=1∧c.toNat≤1
      · rw [if_pos h,if_pos ⟨h.1,h.2.1,rfl,h.2.2⟩];rfl
      · rw [if_neg h,if_neg (fun x=>h ⟨x.1,x.2.1,x.2.2.2⟩)]
     rw [hR]
     obtain ⟨t1,ht1⟩:∃ t,((ps:Int) != 0)=t:=⟨_,rfl⟩
     obtain ⟨t2,ht2⟩:∃ t,((pi:Int) != 0)=t:=⟨_,rfl⟩
     obtain ⟨t3,ht3⟩:∃ t,((pp:Int) != 1)=t:=⟨_,rfl⟩
     obtain ⟨cn,hcn⟩:∃ n,c.toNat=n:=⟨_,rfl⟩
     rw [hcn] at hh
     obtain ⟨t5,ht5⟩:∃ t,decide (1<(cn:Int))=t:=⟨_,rfl⟩
     have ht5':decide (1<cn)=t5:=by rw [← ht5];exact decide_eq_decide.2 (by omega)
     have hc256:cn<256:=by rw [← hcn];exact byte_lt c
     have hwc:IntKind.i64.wrap (cn:Int)=(cn:Int):=IntWalk.i64_in _ (by omega)
     have HT:=Hj7 ht1 ht2 ht3 ht5 hh hfit hcn
     clear hs hfit hN hh hR
     have hex:(t1=false∧t2=false∧t3=false∧t5=false)∨(t1=true∨(t1=false∧t2=true)∨(t1=false∧t2=false∧t3=true)∨(t1=false∧t2=false∧t3=false∧t5=true)):=by
      cases t1 <;> cases t2 <;> cases t3 <;> cases t5 <;> simp
     rcases hex with hgood | hbad
     · have hr:R=some (pg,cn):=by
        obtain ⟨a1,a2,a3,a5,a6,-⟩:=HT.out
        obtain ⟨rfl,rfl,rfl,rfl⟩:=hgood
        simp at a1 a3 a5
        rw [a6,if_pos ⟨by omega,by omega,by omega⟩]
       subst hr
       obtain ⟨rfl,rfl,rfl,rfl⟩:=hgood
       go_enter Tryz.func92,Tryz.ntmps92
       go_upto_region 2 with (go_at_call 98;refine hlook.mono ?_;rintro e w1 ⟨qp,cp,rfl,rp,m1⟩
                              obtain ⟨b1,o1,hq1,hb1,c1⟩:=rp.rd.at_ 0 (by simp)
                              obtain rfl:=hq1
                              have c2:w1.cell? ⟨b1,o1,none⟩=some (.int .u8 (cn:Int)):=by have h:=c1;rw [Nat.add_zero] at h;rw [h];simp [y8,HT.out.2.2.2.2.2.2]
                              have c3:∀ W,Mod [] w1 W→W.cell? ⟨b1,o1,none⟩=some (.int .u8 (cn:Int)):=fun W m=>m.kept c2 (by simp)
                              have HC3:=hide c3
                              have H1:=hide m1
                              clear m1 rp c1 c3)
       obtain ⟨W2,hW2⟩:∃ x,x=w1.alloc (.cells #[.int .i64 pg,.int .i64 ps,.int .i64 pi,.int .i64 pp,.slice (some ⟨b1,o1,none⟩) 1 cp] 118 (0,0)):=⟨_,rfl⟩
       rw [← hW2]
       have k2:W2.heap[w1.heap.size]?=some (.cells #[.int .i64 pg,.int .i64 ps,.int .i64 pi,.int .i64 pp,.slice (some ⟨b1,o1,none⟩) 1 cp] 118 (0,0)):=by rw [hW2];exact heap_alloc_new _ _
       have m2:Mod [] w1 W2:=by rw [hW2];exact (Mod.refl _ _).alloc _
       have C2:=blk_cell k2
       have D2:=HC3.out W2 m2
       have HM:=hide (H1.out.then m2)
       clear hW2 m2 c2
       go_upto_region 4 with fail
       have HCD:=hide (fun W (m:Mod [] W2 W)=>And.intro (blk_cell (m.at_ k2 (by simp))) (m.kept D2 (by simp)))
       have mv:Mod [] W2 W2.drew:=(Mod.refl _ _).drew
       clear C2 D2 k2
       refine pB 999 (fun W=>Mod [] W2 W) mv ?_
       refine pP 0 ?_
       refine pH 1 rfl (fun W h=>by have C:=(HCD.out W h).1;go_simp;try with_reducible rfl) ?_
       refine pP 2 ?_
       refine pH 3 rfl (fun W h=>by have C:=(HCD.out W h).1;go_simp;try with_reducible rfl) ?_
       refine pP 4 ?_
       refine pH 5 rfl (fun W h=>by have C:=(HCD.out W h).2;go_simp;try with_reducible rfl) ?_
       refine pP 6 ?_
       refine pP 7 ?_;refine pP 8 ?_;refine pP 9 ?_
       refine pE fun hT=>?_
       go_wp2_with fail
       go_ret3
       exact ⟨rfl,HM.out.then hT⟩
     · have hr:R=none:=by
        obtain ⟨a1,a2,a3,a5,a6,hf,-⟩:=HT.out
        rw [a6,if_neg]
        rintro ⟨b1,b2,b3⟩
        rcases hbad with h | ⟨-,h⟩ | ⟨-,-,h⟩ | ⟨-,-,-,h⟩
        all_goals subst_vars
        all_goals simp at *
        all_goals omega
       subst hr
       rcases hbad with rfl | ⟨rfl,rfl⟩ | ⟨rfl,rfl,rfl⟩ | ⟨rfl,rfl,rfl,rfl⟩
       all_goals
        go_enter Tryz.func92,Tryz.ntmps92
        go_upto_region 2 with (go_at_call 98;refine hlook.mono ?_;rintro e w1 ⟨qp,cp,rfl,rp,m1⟩
                               obtain ⟨b1,o1,hq1,hb1,c1⟩:=rp.rd.at_ 0 (by simp)
                               obtain rfl:=hq1
                               have c2:w1.cell? ⟨b1,o1,none⟩=some (.int .u8 (cn:Int)):=by have h:=c1;rw [Nat.add_zero] at h;rw [h];simp [y8,HT.out.2.2.2.2.2.2]
                               have c3:∀ W,Mod [] w1 W→W.cell? ⟨b1,o1,none⟩=some (.int .u8 (cn:Int)):=fun W m=>m.kept c2 (by simp)
                               have HC3:=hide c3
                               have H1:=hide m1
                               clear m1 rp c1 c3)
        obtain ⟨W2,hW2⟩:∃ x,x=w1.alloc (.cells #[.int .i64 pg,.int .i64 ps,.int .i64 pi,.int .i64 pp,.slice (some ⟨b1,o1,none⟩) 1 cp] 118 (0,0)):=⟨_,rfl⟩
        rw [← hW2]
        have k2:W2.heap[w1.heap.size]?=some (.cells #[.int .i64 pg,.int .i64 ps,.int .i64 pi,.int .i64 pp,.slice (some ⟨b1,o1,none⟩) 1 cp] 118 (0,0)):=by rw [hW2];exact heap_alloc_new _ _
        have m2:Mod [] w1 W2:=by rw [hW2];exact (Mod.refl _ _).alloc _
        have C2:=blk_cell k2
        have D2:=HC3.out W2 m2
        have HM:=hide (H1.out.then m2)
        clear hW2 m2 c2
        go_wp2_with fail
        go_ret3
        exact ⟨rfl,HM.out⟩
   · have hn:headS b=none:=by
      unfold headS
      rw [hs]
      simp only [Option.bind_some]
      rw [if_neg (fun x=>hN x.2.2.1)]
     rw [hn]
     obtain ⟨N,hNe⟩:∃ n,pd.length=n:=⟨_,rfl⟩
     have hN1:((N:Int) != 1)=true:=by simp;omega
     obtain ⟨t1,ht1⟩:∃ t,((ps:Int) != 0)=t:=⟨_,rfl⟩
     obtain ⟨t2,ht2⟩:∃ t,((pi:Int) != 0)=t:=⟨_,rfl⟩
     obtain ⟨t3,ht3⟩:∃ t,((pp:Int) != 1)=t:=⟨_,rfl⟩
     have HNE:=hide hNe
     have hex:t1=true∨(t1=false∧t2=true)∨(t1=false∧t2=false∧t3=true)∨(t1=false∧t2=false∧t3=false):=by
      cases t1 <;> cases t2 <;> cases t3 <;> simp
     clear hs hfit hN hn hNe
     rcases hex with rfl | ⟨rfl,rfl⟩ | ⟨rfl,rfl,rfl⟩ | ⟨rfl,rfl,rfl⟩
     all_goals
      go_enter Tryz.func92,Tryz.ntmps92
      go_wp2_with (go_at_call 98;refine hlook.mono ?_;rintro e w1 ⟨qp,cp,rfl,rp,m1⟩;simp only;rw [HNE.out];have H1:=hide m1;clear m1 rp)
      go_ret3
      exact ⟨rfl,H1.out.alloc _⟩
end Go.Proofs.YtpphoeimakjjdaaGreatDoor
