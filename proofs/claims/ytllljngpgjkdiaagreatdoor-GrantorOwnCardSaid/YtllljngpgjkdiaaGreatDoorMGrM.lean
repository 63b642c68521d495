/-
  BookW1 BookW2 GrM: see the remarks below.
-/
import Derived.Test.YtllljngpgjkdiaaGreatDoorMGtBr
import Derived.Test.YtllljngpgjkdiaaGreatDoorMTerm
import Derived.BigQuiet
import Derived.Test.YtllljngpgjkdiaaGreatDoorMResC
/-
  WALKS: layer 11: the small questions about grants and stamps.
-/
namespace Go.Proofs.YtllljngpgjkdiaaGreatDoor
open Go.RowKit

theorem counter_any (n:Int) (w:World) :
 Calls Tryz.prog 148 #[.int .i64 n] w fun e w'=>e=.returned (.bool (decide (countOk n)))∧w'=w:=by
 have hd:decide (countOk n)=(decide (1≤n)&&decide (n≤1099511627776)):=by unfold countOk;by_cases h1:1≤n <;> by_cases h2:n≤1099511627776 <;> simp [h1,h2]
 rw [hd]
 by_cases h1:1≤n
 · by_cases h2:n≤1099511627776
   all_goals
    go_enter Tryz.func148,Tryz.ntmps148
    go_wp2_with fail
    go_ret
    simp [h1,h2]
 · go_enter Tryz.func148,Tryz.ntmps148
   go_wp2_with fail
   go_ret
   simp
   omega
theorem newest_any {w:World} {v:Value} {s:List Int} (h:RdN w v s) :
 Calls Tryz.prog 146 #[v] w fun e w'=>e=.returned (.int .i64 (lastI s))∧w'=w:=by
 obtain ⟨q,c,rfl⟩:=h.len
 have hm:=h.1
 by_cases h0:s.length=0
 · have hs:s=[]:=List.length_eq_zero_iff.1 h0
   subst hs
   clear h h0
   go_enter Tryz.func146,Tryz.ntmps146
   go_wp2_with fail
   go_ret
   exact ⟨rfl,rfl⟩
 · obtain ⟨b,off,rfl,hb,hc⟩:=h.at_ (s.length - 1) (by omega)
   have hl:lastI s=s.getD (s.length - 1) 0:=rfl
   rw [hl]
   obtain ⟨k,hk⟩:∃ k,s.length=k+1:=⟨s.length - 1,by omega⟩
   rw [hk,Nat.add_sub_cancel] at hc ⊢
   rw [hk] at hm
   have hm':k+1≤9223372036854775807:=hm
   have hne:¬ ((((k+1:Nat):Int))=0):=by omega
   generalize s.getD k 0=x at hc ⊢
   clear h hl
   go_enter Tryz.func146,Tryz.ntmps146
   go_wp2_with fail
   go_ret
   exact ⟨rfl,rfl⟩
theorem heads_any (n b:Int) (w:World) :
 Calls Tryz.prog 144 #[.int .i64 n,.int .i64 b] w fun e w'=>e=.returned (.bool (headsB n b))∧w'=w:=by
 have hd:headsB n b=(decide (1≤n)&&(decide (n≤1099511627777)&&(decide (0≤b)&&decide (b≤1099511627776)))):=by
  unfold headsB
  by_cases h1:1≤n <;> by_cases h2:n≤1099511627777 <;> by_cases h3:0≤b <;> by_cases h4:b≤1099511627776 <;> simp [h1,h2,h3,h4]
 rw [hd]
 by_cases h1:1≤n
 · by_cases h2:n≤1099511627777
   · by_cases h3:0≤b
     · by_cases h4:b≤1099511627776
       all_goals
        go_enter Tryz.func144,Tryz.ntmps144
        go_wp2_with fail
        go_ret
        simp [h1,h2,h3,h4]
     · go_enter Tryz.func144,Tryz.ntmps144
       go_wp2_with fail
       go_ret
       refine ⟨?_,rfl⟩
       rw [decide_eq_false (show ¬ 0≤b by omega)]
       simp
   · go_enter Tryz.func144,Tryz.ntmps144
     go_wp2_with fail
     go_ret
     refine ⟨?_,rfl⟩
     rw [decide_eq_false (show ¬ n≤1099511627777 by omega)]
     simp
 · go_enter Tryz.func144,Tryz.ntmps144
   go_wp2_with fail
   go_ret
   refine ⟨?_,rfl⟩
   rw [decide_eq_false (show ¬ 1≤n by omega)]
   simp
theorem stamped_any {w:World} {v:Value} {s:List Int} (h:RdN w v s) :
 Calls Tryz.prog 149 #[v] w fun e w'=>e=.returned (.bool (stmB s))∧w'=w:=by
 have hv:=svalid_any h
 obtain ⟨q,c,rfl⟩:=h.len
 obtain ⟨B,hB⟩:∃ B,stmB s=B:=⟨_,rfl⟩
 rw [hB]
 unfold stmB at hB
 by_cases h0:0<s.length
 · rw [decide_eq_true h0,Bool.true_and] at hB
   rw [hB] at hv
   have hp:(0:Int)<(s.length:Int):=by omega
   clear h hB
   go_enter Tryz.func149,Tryz.ntmps149
   go_wp2_with (go_at_call 69;refine hv.mono ?_;rintro e w1 ⟨rfl,rfl⟩)
   go_ret
   exact ⟨rfl,rfl⟩
 · rw [decide_eq_false h0,Bool.false_and] at hB
   subst hB
   have hp:¬ (0:Int)<(s.length:Int):=by omega
   clear h hv
   go_enter Tryz.func149,Tryz.ntmps149
   go_wp2_with fail
   go_ret
   exact ⟨rfl,rfl⟩
theorem equal_any {w:World} {v u:Value} {s t:List Int} (h:RdN w v s) (g:RdN w u t) :
 Calls Tryz.prog 179 #[v,u] w fun e w'=>e=.returned (.bool (decide (s=t)))∧∃ n,w'=w.drewN n:=by
 obtain ⟨q,c,rfl⟩:=h.len
 obtain ⟨q2,c2,rfl⟩:=g.len
 by_cases hl:s.length=t.length
 · have hb1:=h.1
   have hb1':s.length≤9223372036854775807:=hb1
   have H:=hd3 h g hl
   rw [← hl] at g ⊢
   clear h g hl hb1
   go_enter Tryz.func179,Tryz.ntmps179
   go_wp2_with fail
   go_loopw [13] (fun i wr=>∃ k m:Nat,i=.int .i64 (k:Int)∧k≤s.length∧Hid (s.take k=t.take k)∧Hid (wr=w.drewN m)) (fun i _=>s.length - (intOf i).toNat)
   case atStart=>exact ⟨0,0,rfl,Nat.zero_le _,hide (by simp),hide rfl⟩
   case round =>
    obtain ⟨k,m,rfl,hk,htk,hw⟩:=hrel
    have gr:Gr w wr:=by rw [hw.out];exact (Gr.refl w).drewN m
    obtain ⟨h,g,hl⟩:=H.out
    by_cases hlt:k<s.length
    · obtain ⟨b1,o1,rfl,-,e1⟩:=(h.gr gr).at_ k hlt
      obtain ⟨b2,o2,rfl,-,e2⟩:=(g.gr gr).at_ k (by omega)
      have hs1:s.take (k+1)=s.take k++[s.getD k 0]:=by rw [List.take_add_one];simp [hlt]
      have ht1:t.take (k+1)=t.take k++[t.getD k 0]:=by rw [List.take_add_one];simp [show k<t.length by omega]
      have HS:=hd2 hs1 ht1
      have hgs:s.getD k 0=t.getD k 0∨s.getD k 0≠t.getD k 0:=Classical.em _
      have hne:s.getD k 0≠t.getD k 0→s≠t:=fun e x=>e (by rw [x])
      generalize s.getD k 0=x at e1 HS hgs hne
      generalize t.getD k 0=y at e2 HS hgs hne
      clear h g hl hs1 ht1
      rcases hgs with rfl | hxy
      · clear hne
        go_wp2_with fail
        go_quiet (fail)
        go_wp2_with fail
        go_roundw
        case rel=>exact ⟨k+1,_,by go_num,by omega,hide (by rw [HS.out.1,HS.out.2,htk.out]),hide (by rw [hw.out,World.drewN_drewN])⟩
        case measure=>simp [intOf];omega
      · have hb:(x != y)=true:=by rw [bne_iff_ne];exact hxy
        have hd:=decide_eq_false (hne hxy)
        have HD:=hide hd
        clear hne hd hxy
        go_wp2_with fail
        go_quiet (fail)
        go_wp2_with fail
        go_ret
        exact ⟨by rw [HD.out];rfl,_,by rw [hw.out,World.drewN_drewN]⟩
    · obtain rfl:k=s.length:=by omega
      clear h g
      go_wp2_with fail
      go_ret
      refine ⟨?_,m,hw.out⟩
      have e:=htk.out
      rw [List.take_length,hl,List.take_length] at e
      rw [decide_eq_true e]
      rfl
 · have hne:decide (s=t)=false:=decide_eq_false (fun e=>hl (by rw [e]))
   rw [hne]
   have hq:(((s.length:Nat):Int) != ((t.length:Nat):Int))=true:=by rw [bne_iff_ne];omega
   clear h g hne
   go_enter Tryz.func179,Tryz.ntmps179
   go_wp2_with fail
   go_ret
   exact ⟨rfl,0,rfl⟩
end Go.Proofs.YtllljngpgjkdiaaGreatDoor
/-
  WALKS: layer 11: grants compared.
-/
namespace Go.Proofs.YtllljngpgjkdiaaGreatDoor
set_option maxRecDepth 100000
set_option maxHeartbeats 4000000
open Go.RowKit

def cellsG (g:Grt) (sv:Value):List Value:=[.int .i64 g.id,.int .i64 g.holder,.string g.path,.int .i64 g.mode,sv,.int .i64 g.term]
def aggG (g:Grt) (sv:Value):Value:=.agg (cellsG g sv).toArray
theorem bytes_of_toList {a b:ByteArray} (h:a.toList=b.toList):a=b:=by
 rw [ByteArray.toList_eq,ByteArray.toList_eq] at h
 have e:=Array.toList_inj.1 h
 cases a;cases b
 simp only at e
 rw [e]
theorem grt_dec (x y:Grt):decide (x=y)=(decide (x.stamp=y.stamp)&&(decide (x.id=y.id)&&(decide (x.holder=y.holder)&&(decide (x.path.toList=y.path.toList)&&(decide (x.mode=y.mode)&&decide (x.term=y.term)))))):=by
 rw [Bool.eq_iff_iff]
 simp only [Bool.and_eq_true,decide_eq_true_eq]
 constructor
 · rintro rfl
   exact ⟨rfl,rfl,rfl,rfl,rfl,rfl⟩
 · rintro ⟨h1,h2,h3,h4,h5,h6⟩
   exact grt_ext ⟨h2,h3,bytes_of_toList h4,h5,h1,h6⟩
theorem sameGrant_any {w:World} {x y:Grt} {sv tv:Value} (hx:RdN w sv x.stamp) (hy:RdN w tv y.stamp) :
 Calls Tryz.prog 147 #[aggG x sv,aggG y tv] w fun e w'=>e=.returned (.bool (decide (x=y)))∧Mod [] w w':=by
 obtain ⟨i1,h1,p1,m1,s1,t1⟩:=x
 obtain ⟨i2,h2,p2,m2,s2,t2⟩:=y
 simp only at hx hy
 have he:=fun {W:World} (g:Gr w W)=>equal_any (hx.gr g) (hy.gr g)
 obtain ⟨q1,c1,rfl⟩:=hx.len
 obtain ⟨q2,c2,rfl⟩:=hy.len
 generalize hB:decide (s1=s2)=B at he
 have HB:=hide hB
 clear hx hy hB
 unfold aggG cellsG
 simp only
 go_enter Tryz.func147,Tryz.ntmps147
 go_wp2_with (go_at_call 179;refine (he (((Gr.refl w).alloc _).alloc _)).mono ?_;rintro e w1 ⟨rfl,n,rfl⟩)
 all_goals
  go_ret
  refine ⟨?_,(((Mod.refl [] w).alloc _).alloc _).drewN n⟩
  rw [grt_dec]
  simp only [HB.out]
  first | (simp [*];done) | (simp [*];rfl)
theorem mayGrant_any {w:World} {g:Grt} {sv:Value} (hs:RdN w sv g.stamp) (hp:g.path.size≤9223372036854775807) :
 Calls Tryz.prog 145 #[aggG g sv] w fun e w'=>e=.returned (.bool (grantB g))∧Mod [] w w':=by
 obtain ⟨id,ho,pa,mo,st,te⟩:=g
 simp only at hs hp
 have k1:=fun (W:World)=>counter_any id W
 have k2:=fun (W:World)=>pvalid_any pa hp W
 have k3:=fun {W:World} (g:Gr w W)=>stamped_any (hs.gr g)
 have k4:=fun {W:World} (g:Gr w W)=>newest_any (hs.gr g)
 have k5:∀ W:World,Calls Tryz.prog 81 #[.int .i64 te] W fun e w'=>e=.returned (.bool (decide (legalT te)))∧w'=W:=fun W=>legal_any te W
 obtain ⟨G,hG⟩:∃ G,grantB ⟨id,ho,pa,mo,st,te⟩=G:=⟨_,rfl⟩
 rw [hG]
 unfold grantB at hG
 simp only at hG
 obtain ⟨q,c,rfl⟩:=hs.len
 generalize decide (countOk id)=b1 at k1 hG
 generalize pathOk pa.data.toList=b2 at k2 hG
 generalize stmB st=b3 at k3 hG
 generalize lastI st=n4 at k4 hG
 generalize decide (legalT te)=b5 at k5 hG
 clear hs hp
 unfold aggG cellsG
 -- BEGIN ways
 have HG:=hide hG
 clear hG
 cases b1 with
 | false =>
   go_enter Tryz.func145,Tryz.ntmps145
   go_wp2_with fail
   go_quiet ((first
    | (go_at_call 148;exact Calls.quiet_of_same (k1 _))
    | (go_at_call 32;exact Calls.quiet_of_same (k2 _))
    | (go_at_call 149;exact Calls.quiet_of_same (k3 (((Gr.refl w).alloc _).drewN _)))
    | (go_at_call 146;exact Calls.quiet_of_same (k4 (((Gr.refl w).alloc _).drewN _)))
    | (go_at_call 81;exact Calls.quiet_of_same (k5 _))))
   go_wp2_with fail
   go_ret
   exact ⟨by rw [← HG.out];simp,((Mod.refl [] w).alloc _).drewN _⟩
 | true =>
   by_cases h2:0≤ho
   · have d2:decide (0≤ho)=true:=decide_eq_true h2
     by_cases h3:ho<8
     · have d3:decide (ho<8)=true:=decide_eq_true h3
       cases b2 with
       | false =>
         go_enter Tryz.func145,Tryz.ntmps145
         go_wp2_with fail
         go_quiet ((first
          | (go_at_call 148;exact Calls.quiet_of_same (k1 _))
          | (go_at_call 32;exact Calls.quiet_of_same (k2 _))
          | (go_at_call 149;exact Calls.quiet_of_same (k3 (((Gr.refl w).alloc _).drewN _)))
          | (go_at_call 146;exact Calls.quiet_of_same (k4 (((Gr.refl w).alloc _).drewN _)))
          | (go_at_call 81;exact Calls.quiet_of_same (k5 _))))
         go_wp2_with fail
         go_ret
         exact ⟨by rw [← HG.out];simp,((Mod.refl [] w).alloc _).drewN _⟩
       | true =>
         have hm:(mo=1)∨(¬ mo=1∧mo=2)∨(¬ mo=1∧¬ mo=2):=by omega
         rcases hm with rfl | ⟨hm1,rfl⟩ | ⟨hm1,hm2⟩
         · skip
           cases b3 with
           | false =>
             go_enter Tryz.func145,Tryz.ntmps145
             go_wp2_with fail
             go_quiet ((first
              | (go_at_call 148;exact Calls.quiet_of_same (k1 _))
              | (go_at_call 32;exact Calls.quiet_of_same (k2 _))
              | (go_at_call 149;exact Calls.quiet_of_same (k3 (((Gr.refl w).alloc _).drewN _)))
              | (go_at_call 146;exact Calls.quiet_of_same (k4 (((Gr.refl w).alloc _).drewN _)))
              | (go_at_call 81;exact Calls.quiet_of_same (k5 _))))
             go_wp2_with fail
             go_ret
             exact ⟨by rw [← HG.out];simp,((Mod.refl [] w).alloc _).drewN _⟩
           | true =>
             by_cases h7:id≤n4
             · have d7:decide (id≤n4)=true:=decide_eq_true h7
               go_enter Tryz.func145,Tryz.ntmps145
               go_wp2_with fail
               go_quiet ((first
                | (go_at_call 148;exact Calls.quiet_of_same (k1 _))
                | (go_at_call 32;exact Calls.quiet_of_same (k2 _))
                | (go_at_call 149;exact Calls.quiet_of_same (k3 (((Gr.refl w).alloc _).drewN _)))
                | (go_at_call 146;exact Calls.quiet_of_same (k4 (((Gr.refl w).alloc _).drewN _)))
                | (go_at_call 81;exact Calls.quiet_of_same (k5 _))))
               go_wp2_with fail
               go_ret
               exact ⟨by rw [← HG.out];simp [h2,h3,h7],((Mod.refl [] w).alloc _).drewN _⟩
             · have d7:decide (id≤n4)=false:=decide_eq_false h7
               go_enter Tryz.func145,Tryz.ntmps145
               go_wp2_with fail
               go_quiet ((first
                | (go_at_call 148;exact Calls.quiet_of_same (k1 _))
                | (go_at_call 32;exact Calls.quiet_of_same (k2 _))
                | (go_at_call 149;exact Calls.quiet_of_same (k3 (((Gr.refl w).alloc _).drewN _)))
                | (go_at_call 146;exact Calls.quiet_of_same (k4 (((Gr.refl w).alloc _).drewN _)))
                | (go_at_call 81;exact Calls.quiet_of_same (k5 _))))
               go_wp2_with fail
               go_ret
               exact ⟨by rw [← HG.out];simp;omega,((Mod.refl [] w).alloc _).drewN _⟩
         · skip
           cases b3 with
           | false =>
             go_enter Tryz.func145,Tryz.ntmps145
             go_wp2_with fail
             go_quiet ((first
              | (go_at_call 148;exact Calls.quiet_of_same (k1 _))
              | (go_at_call 32;exact Calls.quiet_of_same (k2 _))
              | (go_at_call 149;exact Calls.quiet_of_same (k3 (((Gr.refl w).alloc _).drewN _)))
              | (go_at_call 146;exact Calls.quiet_of_same (k4 (((Gr.refl w).alloc _).drewN _)))
              | (go_at_call 81;exact Calls.quiet_of_same (k5 _))))
             go_wp2_with fail
             go_ret
             exact ⟨by rw [← HG.out];simp,((Mod.refl [] w).alloc _).drewN _⟩
           | true =>
             by_cases h7:id≤n4
             · have d7:decide (id≤n4)=true:=decide_eq_true h7
               go_enter Tryz.func145,Tryz.ntmps145
               go_wp2_with fail
               go_quiet ((first
                | (go_at_call 148;exact Calls.quiet_of_same (k1 _))
                | (go_at_call 32;exact Calls.quiet_of_same (k2 _))
                | (go_at_call 149;exact Calls.quiet_of_same (k3 (((Gr.refl w).alloc _).drewN _)))
                | (go_at_call 146;exact Calls.quiet_of_same (k4 (((Gr.refl w).alloc _).drewN _)))
                | (go_at_call 81;exact Calls.quiet_of_same (k5 _))))
               go_wp2_with fail
               go_ret
               exact ⟨by rw [← HG.out];simp [h2,h3,h7],((Mod.refl [] w).alloc _).drewN _⟩
             · have d7:decide (id≤n4)=false:=decide_eq_false h7
               go_enter Tryz.func145,Tryz.ntmps145
               go_wp2_with fail
               go_quiet ((first
                | (go_at_call 148;exact Calls.quiet_of_same (k1 _))
                | (go_at_call 32;exact Calls.quiet_of_same (k2 _))
                | (go_at_call 149;exact Calls.quiet_of_same (k3 (((Gr.refl w).alloc _).drewN _)))
                | (go_at_call 146;exact Calls.quiet_of_same (k4 (((Gr.refl w).alloc _).drewN _)))
                | (go_at_call 81;exact Calls.quiet_of_same (k5 _))))
               go_wp2_with fail
               go_ret
               exact ⟨by rw [← HG.out];simp;omega,((Mod.refl [] w).alloc _).drewN _⟩
         · have d5:(mo==1)=false:=by simp [hm1]
           have d6:(mo==2)=false:=by simp [hm2]
           go_enter Tryz.func145,Tryz.ntmps145
           go_wp2_with fail
           go_quiet ((first
            | (go_at_call 148;exact Calls.quiet_of_same (k1 _))
            | (go_at_call 32;exact Calls.quiet_of_same (k2 _))
            | (go_at_call 149;exact Calls.quiet_of_same (k3 (((Gr.refl w).alloc _).drewN _)))
            | (go_at_call 146;exact Calls.quiet_of_same (k4 (((Gr.refl w).alloc _).drewN _)))
            | (go_at_call 81;exact Calls.quiet_of_same (k5 _))))
           go_wp2_with fail
           go_ret
           exact ⟨by rw [← HG.out];simp [hm1,hm2],((Mod.refl [] w).alloc _).drewN _⟩
     · have d3:decide (ho<8)=false:=decide_eq_false h3
       go_enter Tryz.func145,Tryz.ntmps145
       go_wp2_with fail
       go_quiet ((first
        | (go_at_call 148;exact Calls.quiet_of_same (k1 _))
        | (go_at_call 32;exact Calls.quiet_of_same (k2 _))
        | (go_at_call 149;exact Calls.quiet_of_same (k3 (((Gr.refl w).alloc _).drewN _)))
        | (go_at_call 146;exact Calls.quiet_of_same (k4 (((Gr.refl w).alloc _).drewN _)))
        | (go_at_call 81;exact Calls.quiet_of_same (k5 _))))
       go_wp2_with fail
       go_ret
       exact ⟨by rw [← HG.out];simp;omega,((Mod.refl [] w).alloc _).drewN _⟩
   · have d2:decide (0≤ho)=false:=decide_eq_false h2
     go_enter Tryz.func145,Tryz.ntmps145
     go_wp2_with fail
     go_quiet ((first
      | (go_at_call 148;exact Calls.quiet_of_same (k1 _))
      | (go_at_call 32;exact Calls.quiet_of_same (k2 _))
      | (go_at_call 149;exact Calls.quiet_of_same (k3 (((Gr.refl w).alloc _).drewN _)))
      | (go_at_call 146;exact Calls.quiet_of_same (k4 (((Gr.refl w).alloc _).drewN _)))
      | (go_at_call 81;exact Calls.quiet_of_same (k5 _))))
     go_wp2_with fail
     go_ret
     exact ⟨by rw [← HG.out];simp;omega,((Mod.refl [] w).alloc _).drewN _⟩
end Go.Proofs.YtllljngpgjkdiaaGreatDoor
/-
  PLAIN LAWS OF MEMORY: a slice of grants of one's own, each stamp in a block of its own.
-/
namespace Go.Proofs.YtllljngpgjkdiaaGreatDoor
open Go.RowKit

def encG (p:Grt × Value):List Value:=cellsG p.1 p.2
theorem encG_len (p:Grt × Value):(encG p).length=6:=rfl
theorem rdN_of_row {w:World} {base:Nat} {T:TypeId} {v:Value} {m:List Int} (h:w.ownsRow base T 1 v m.length (m.map (Value.int .i64))):RdN w v m:=by
 rcases h.2 with ⟨rfl,hn⟩ | ⟨g,cap,cur,rfl,_,hg,hh1,hh2,_⟩
 · exact ⟨by omega,.inl ⟨none,0,rfl,List.length_eq_zero_iff.1 hn⟩⟩
 · refine ⟨by omega,.inr ⟨g,0,cap,rfl,lt_of_block hg,fun i hi=>?_⟩⟩
   rw [Nat.zero_add,h.cellAt _ (by omega)]
   simp [hi]
theorem ob_of_row {w:World} {base:Nat} {T:TypeId} {sz n:Nat} {v:Value} {xs:List Value} (h:w.ownsRow base T sz v n xs):∀ k,k∈ob v→base≤k∧k<w.heap.size :=
 fun k hk=>by have:=h.lt k (by simpa [ob] using hk);omega
structure GrM (w:World) (base:Nat) (v:Value) (lv:List (Grt × Value)):Prop where
 row:w.ownsRow base 35 6 v lv.length (lv.flatMap encG)
 st:∀ p,p∈lv→w.ownsRow base 3 1 p.2 p.1.stamp.length (p.1.stamp.map (Value.int .i64))∧∀ k,k∈ob p.2→k ∉ ob v
theorem GrM.nil (w:World) (base:Nat):GrM w base (.slice none 0 0) []:=⟨World.ownsRow_nil _ _ _ _,fun p hp=>by cases hp⟩
theorem GrM.mod {w w':World} {base:Nat} {v:Value} {lv:List (Grt × Value)} (h:GrM w base v lv) {S:List Nat} (m:Mod S w w') (hS:∀ k,k∈S→k<base∨w.heap.size≤k):GrM w' base v lv:=by
 refine ⟨m.row h.row (fun k hk e=>?_),fun p hp=>⟨m.row (h.st p hp).1 (fun k hk e=>?_),(h.st p hp).2⟩⟩
 · have:=h.row.lt k hk
   have:=hS k e
   omega
 · have:=(h.st p hp).1.lt k hk
   have:=hS k e
   omega
theorem GrM.gr {w w':World} {base:Nat} {v:Value} {lv:List (Grt × Value)} (h:GrM w base v lv) (g:Gr w w'):GrM w' base v lv:=h.mod (g.mod []) (by simp)
theorem GrM.base {w:World} {base b':Nat} {v:Value} {lv:List (Grt × Value)} (h:GrM w base v lv) (hb:b'≤base):GrM w b' v lv :=
 ⟨World.ownsRow.mono h.row hb,fun p hp=>⟨World.ownsRow.mono (h.st p hp).1 hb,(h.st p hp).2⟩⟩
theorem GrM.shape {w:World} {base:Nat} {v:Value} {lv:List (Grt × Value)} (h:GrM w base v lv):∃ p c,v=.slice p lv.length c∧lv.length≤maxLen:=by
 rcases h.row.2 with ⟨rfl,hn⟩ | ⟨g,cap,cur,rfl,_,hg,hh1,hh2,_⟩
 · exact ⟨none,0,by rw [hn],by omega⟩
 · exact ⟨_,cap,rfl,by omega⟩
theorem GrM.at_ {w:World} {base:Nat} {q:Option Addr} {n c:Nat} {lv:List (Grt × Value)} (h:GrM w base (.slice q n c) lv) (i:Nat) (hi:i<lv.length) :
 ∃ b,q=some ⟨b,0,none⟩∧base≤b∧b<w.heap.size∧(∀ j,j<6→w.cell? ⟨b,i * 6+j,none⟩=(encG (lv.getD i default))[j]?)∧(∀ j,w.frozen? ⟨b,j,none⟩=false)∧RdN w (lv.getD i default).2 (lv.getD i default).1.stamp:=by
 have hm:lv.getD i default∈lv:=by simp [hi]
 have hst:=rdN_of_row (h.st _ hm).1
 rcases h.row.2 with ⟨hv,hn⟩ | ⟨g,cap,cur,hv,hb,hg,hh1,hh2,hs,ht⟩
 · omega
 · simp only [Value.slice.injEq] at hv
   obtain ⟨rfl,rfl,rfl⟩:=hv
   refine ⟨g,rfl,hb,lt_of_block hg,fun j hj=>?_,fun j=>blk_free hg j,hst⟩
   rw [h.row.cellAt (i * 6+j) (by omega),flat_get encG 6 encG_len lv i j hi hj]
end Go.Proofs.YtllljngpgjkdiaaGreatDoor
