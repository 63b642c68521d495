/-
  WALKS: the document's layer 11: with.
-/
import Derived.Test.YtpphoeimakjjdaaGreatDoorMCtr
import Derived.Test.YtpphoeimakjjdaaGreatDoorMDmp
import Derived.Deep.CutBlock
namespace Go.Proofs.YtpphoeimakjjdaaGreatDoor
set_option maxRecDepth 100000
set_option maxHeartbeats 4000000
open Go.RowKit Go.Shelf

theorem posG_at {l:List Grt} {id:Int}:∀ {k:Nat},k≤l.length→(∀ j,j<k→(l.getD j default).id<id)→(k<l.length→¬ (l.getD k default).id<id)→posG l id=k:=by
 induction l with
 | nil=>intro k hk _ _;simp at hk;subst hk;rfl
 | cons x r ih =>
   intro k hk h1 h2
   rw [posG_cons]
   cases k with
   | zero =>
     have:=h2 (by simp)
     simp only [List.getD_cons_zero] at this
     rw [if_neg this]
   | succ k =>
     have h0:=h1 0 (by omega)
     simp only [List.getD_cons_zero] at h0
     rw [if_pos h0,ih (k:=k) (by simpa using hk) (fun j hj=>by simpa using h1 (j+1) (by omega)) (fun hk2=>by simpa using h2 (by simpa using hk2))]
def Wi1 (w:World) (base:Nat) (lv:List (Grt × Value)) (id:Int) (W1:World) (u i:Value) (wr:World):Prop :=
 ∃ (k:Nat) (sl:List (Grt × Value)),i=.int .i64 (k:Int)∧k≤lv.length∧sl.map Prod.fst=(lv.take k).map Prod.fst∧sl.length=k∧GrM wr base u sl∧(∀ x,x∈ob u→w.heap.size<x)∧Hid (∀ j,j<k→(lv.getD j default).1.id<id)∧Mod [] W1 wr
def Wi2 (w:World) (base:Nat) (lv:List (Grt × Value)) (id:Int) (W1:World) (u i:Value) (wr:World):Prop :=
 ∃ (k:Nat) (sl:List (Grt × Value)),i=.int .i64 (k:Int)∧k≤lv.length∧sl.map Prod.fst=(lv.take k).map Prod.fst∧sl.length=k∧GrM wr base u sl∧(∀ x,x∈ob u→w.heap.size<x)∧posG (lv.map Prod.fst) id=k∧Mod [] W1 wr
theorem pos_of {lv:List (Grt × Value)} {id:Int} {k:Nat} (hk:k≤lv.length) (h1:∀ j,j<k→(lv.getD j default).1.id<id) (h2:k<lv.length→¬ (lv.getD k default).1.id<id):posG (lv.map Prod.fst) id=k:=by
 have e:∀ j,j<lv.length→(lv.map Prod.fst).getD j default=(lv.getD j default).1:=fun j hj=>by simp [hj]
 exact posG_at (by simpa using hk) (fun j hj=>by rw [e j (by omega)];exact h1 j hj) (fun h=>by rw [List.length_map] at h;rw [e k h];exact h2 h)
def Wi3 (w:World) (base:Nat) (lv:List (Grt × Value)) (g:Grt) (k:Nat) (W1:World) (u i:Value) (wr:World):Prop :=
 ∃ (k2:Nat) (sl:List (Grt × Value)),i=.int .i64 (k2:Int)∧k≤k2∧k2≤lv.length∧sl.map Prod.fst=(lv.take k).map Prod.fst++g::((lv.drop k).take (k2 - k)).map Prod.fst∧sl.length=k2+1∧GrM wr base u sl∧(∀ x,x∈ob u→w.heap.size<x)∧Mod [] W1 wr
theorem rwith_any {w:World} {base n c:Nat} {q:Option Addr} {lv:List (Grt × Value)} (h:GrM w base (.slice q n c) lv) (hn:lv.length≤1000) (_hbase:base≤w.heap.size) {g:Grt} {sv:Value} (hs:RdN w sv g.stamp) (hst:g.stamp.length * 8≤140737488355328) :
 Calls Tryz.prog 56 #[.slice q n c,aggG g sv] w fun e w'=>∃ u sl,e=.returned u∧sl.map Prod.fst=putG (lv.map Prod.fst) g∧GrM w' base u sl∧(∀ x,x∈ob u→w.heap.size<x)∧Mod [] w w':=by
 obtain ⟨q',c',hv,hx⟩:=h.shape
 simp only [Value.slice.injEq] at hv
 obtain ⟨rfl,rfl,rfl⟩:=hv
 obtain ⟨id,gho,gpa,gmo,gst,gte⟩:=g
 simp only at hs hst
 obtain ⟨gq,gc,hgv⟩:=hs.len
 obtain ⟨gn,hgn⟩:∃ n,gst.length=n:=⟨_,rfl⟩
 rw [hgn] at hgv
 subst hgv
 obtain ⟨W1,hW1⟩:∃ W1,W1=w.alloc (.cells #[.int .i64 id,.int .i64 gho,.string gpa,.int .i64 gmo,.slice gq gn gc,.int .i64 gte] 40 (0,0)):=⟨_,rfl⟩
 have hb1:W1.heap[w.heap.size]?=some (.cells #[.int .i64 id,.int .i64 gho,.string gpa,.int .i64 gmo,.slice gq gn gc,.int .i64 gte] 40 (0,0)):=by rw [hW1];exact heap_alloc_new w _
 have hm1:Mod [] w W1:=by rw [hW1];exact (Mod.refl _ _).alloc _
 have hz1:W1.heap.size=w.heap.size+1:=by rw [hW1];simp
 have HH:=Hj6 h hs hb1 hm1 hz1 hgn
 clear h hx hs hb1 hm1 hz1 hgn
 unfold aggG cellsG
 simp only
 go_enter Tryz.func56,Tryz.ntmps56
 go_upto_region 1 with fail
 rw [← hW1]
 clear hW1
 go_upto_block 0 with fail
 go_cut [5,6] (fun s5 s6 wx=>Wi2 w base lv id W1 s5 s6 wx)
 case first =>
  go_wp2_with fail
  go_loopw [5,6] (fun u i wr=>Wi1 w base lv id W1 u i wr) (fun _ i _=>lv.length - (intOf i).toNat)
  case atStart=>exact ⟨0,[],rfl,Nat.zero_le _,rfl,rfl,GrM.nil _ _,fun x hx=>by simp [ob,Value.ownBlock] at hx,hide (fun j hj=>absurd hj (by omega)),Mod.refl _ _⟩
  case round =>
   obtain ⟨k,sl,rfl,hk,hmap,hsl,hgm,hob,HK,hm⟩:=hrel
   have B1:=blk_cell (hm.at_ HH.out.2.2.1 (by simp))
   by_cases hlt:k<lv.length
   · have hki:(k:Int)<(lv.length:Int):=by omega
     have hkd:decide ((k:Int)<(lv.length:Int))=true:=decide_eq_true hki
     have hk0:(0:Int)≤(k:Int):=by omega
     obtain ⟨gb,rfl,hgb,hgb2,hc,-,hrd⟩:=(HH.out.1.mod (HH.out.2.2.2.1.then hm) (by simp)).at_ k hlt
     have hst':=(HH.out.1.mod (HH.out.2.2.2.1.then hm) (by simp)).st _ (show lv.getD k default∈lv by simp [hlt])
     have htk:(lv.take (k+1)).map Prod.fst=(lv.take k).map Prod.fst++[(lv.getD k default).1]:=by rw [List.take_add_one,List.map_append];simp [hlt]
     have hso:=fun y hy=>(ob_of_row (HH.out.1.st _ (show lv.getD k default∈lv by simp [hlt])).1 y hy).2
     obtain ⟨pr,hpr⟩:∃ p,lv.getD k default=p:=⟨_,rfl⟩
     rw [hpr] at hc hst' htk hrd hso
     obtain ⟨⟨x,ho,pa,mo,st,te⟩,sv⟩:=pr
     simp only at hst' htk hrd hso
     obtain ⟨qs,cs,hsv⟩:=hrd.len
     obtain ⟨ns,hns⟩:∃ n,st.length=n:=⟨_,rfl⟩
     rw [hns] at hsv
     subst hsv
     have c0:=hc 0 (by decide)
     have c1:=hc 1 (by decide)
     have c2:=hc 2 (by decide)
     have c3:=hc 3 (by decide)
     have c4:=hc 4 (by decide)
     have c5:=hc 5 (by decide)
     simp [encG,cellsG] at c0 c1 c2 c3 c4 c5
     by_cases hi:x<id
     · have hid:decide (x<id)=true:=decide_eq_true hi
       have HE:=Hj6 hmap hob hm htk hi hpr
       have HG:=Hj3 hgm hst'.1 hso
       have hz:=hm.size
       have F:∀ m:Nat,GrM ((wr.drewN m).alloc (.cells #[.int .i64 x,.int .i64 ho,.string pa,.int .i64 mo,.slice qs ns cs,.int .i64 te] 40 (0,0))) base u5 sl∧((wr.drewN m).alloc (.cells #[.int .i64 x,.int .i64 ho,.string pa,.int .i64 mo,.slice qs ns cs,.int .i64 te] 40 (0,0))).ownsRow base 3 1 (.slice qs ns cs) st.length (st.map (Value.int .i64)) ∧
        ((wr.drewN m).alloc (.cells #[.int .i64 x,.int .i64 ho,.string pa,.int .i64 mo,.slice qs ns cs,.int .i64 te] 40 (0,0))).heap[wr.heap.size]?=some (.cells (cellsG ⟨x,ho,pa,mo,st,te⟩ (.slice qs ns cs)).toArray 40 (0,0))∧base≤((wr.drewN m).alloc (.cells #[.int .i64 x,.int .i64 ho,.string pa,.int .i64 mo,.slice qs ns cs,.int .i64 te] 40 (0,0))).heap.size∧Mod [] wr ((wr.drewN m).alloc (.cells #[.int .i64 x,.int .i64 ho,.string pa,.int .i64 mo,.slice qs ns cs,.int .i64 te] 40 (0,0))):=fun m=>by
        have mm:Mod [] wr ((wr.drewN m).alloc (.cells #[.int .i64 x,.int .i64 ho,.string pa,.int .i64 mo,.slice qs ns cs,.int .i64 te] 40 (0,0))):=((Mod.refl [] wr).drewN m).alloc _
        refine ⟨hgm.mod mm (by simp),mm.row hst'.1 (by simp),heap_alloc_new (wr.drewN m) _,?_,mm⟩
        have:=mm.size
        have:=(HH.out.2.2.2.1.then hm).size
        omega
       have hap:∀ y,y∈ob (.slice qs ns cs)→y ∉ ob u5:=fun y h1 h2=>by have:=hso y h1;have:=hob y h2;omega
       have HF:=Hj2 F hap
       clear F hap hmap hob hm htk hi hc hst' hrd hso hgm hpr
       go_wp2_with fail
       go_quiet (fail)
       go_wp2_with (
        at_builtin
        refine wpList_app_gr (g:=⟨x,ho,pa,mo,st,te⟩) (sv:=.slice qs ns cs) (sl:=sl) (base:=base) _ rfl _ _ rfl rfl (HF.out.1 _).1 (by omega) (HF.out.1 _).2.2.2.1 (k:=wr.heap.size) rfl (HF.out.1 _).2.2.1 (HF.out.1 _).2.1 HF.out.2 ?_
        rintro u' w5 hgm5 hm5 ⟨p5,c5',hu5⟩ hob5
        subst hu5
        have H5:=Hj3 hgm5 ((HF.out.1 _).2.2.2.2.trans hm5 (T:=ob u5) (U:=ob u5) (fun _ z _=>by cases z) (fun _ z _=>z)) hob5
        clear hgm5 hm5 hob5)
       go_roundw
       case rel =>
        obtain ⟨hmap,hob,hm,htk,hi,hpr⟩:=HE.out
        obtain ⟨hgm5,hm5,hob5⟩:=H5.out
        rw [hsl] at hgm5 hob5
        refine ⟨k+1,sl++[(⟨x,ho,pa,mo,st,te⟩,.slice qs ns cs)],by go_num,by omega,by rw [htk,List.map_append,hmap];rfl,by simp;omega,hgm5,fun y hy=>?_,hide (fun j hj=>?_),?_⟩
        · rcases hob5 y hy with e | e
          · exact hob y e
          · have e':wr.heap.size+1≤y:=by simpa using e
            have:=hm.size
            have:=HH.out.2.2.2.2.1
            omega
        · by_cases e:j=k
          · subst e;rw [hpr];exact hi
          · exact HK.out j (by omega)
        · exact hm.trans hm5 (fun _ z _=>z) (fun y hy hlt=>absurd (hob y hy) (by have:=HH.out.2.2.2.2.1;omega))
       case measure=>simp [intOf];omega
     · have hid:decide (x<id)=false:=decide_eq_false hi
       have HE:=Hj6 hmap hob hm hgm hi hpr
       clear hmap hob hm htk hi hc hst' hrd hso hgm hpr
       go_wp2_with fail
       go_quiet (fail)
       go_wp2_with fail
       go_meet
       case rel =>
        obtain ⟨hmap,hob,hm,hgm,hi,hpr⟩:=HE.out
        exact ⟨k,sl,rfl,hk,hmap,hsl,hgm.mod ((Mod.refl [] wr).drewN _) (by simp),hob,pos_of hk HK.out (fun _=>by rw [hpr];simp only;omega),hm.drewN _⟩
   · obtain rfl:k=lv.length:=by omega
     have hkd:decide ((lv.length:Int)<(lv.length:Int))=false:=decide_eq_false (by omega)
     have HE:=Hj4 hmap hob hm hgm
     clear hmap hob hm hgm
     go_wp2_with fail
     go_quiet (fail)
     go_wp2_with fail
     go_meet
     case rel =>
      obtain ⟨hmap,hob,hm,hgm⟩:=HE.out
      exact ⟨lv.length,sl,rfl,Nat.le_refl _,hmap,hsl,hgm.mod ((Mod.refl [] wr).drewN _) (by simp),hob,pos_of (Nat.le_refl _) HK.out (fun h=>absurd h (by omega)),hm.drewN _⟩
 case rest =>
 obtain ⟨k,sl,rfl,hk,hmap,hsl,hgm,hob,hpos,hm⟩:=hcut
 obtain ⟨W2,rfl⟩:∃ W2:World,W2=wc:=⟨_,rfl⟩
 have hz1:=HH.out.2.2.2.2.1
 have hz2:=hm.size
 have B2:=blk_cell (hm.at_ HH.out.2.2.1 (by simp))
 have hcg:=copyG_any (w:=W2) (g:=⟨id,gho,gpa,gmo,gst,gte⟩) (v:=.slice gq gn gc) (HH.out.2.1.mod (HH.out.2.2.2.1.then hm) (by simp)) hst
 unfold aggG cellsG at hcg
 simp only at hcg
 have HE:=Hj6 hmap hob hpos hm hgm hsl
 clear hmap hob hpos hm hgm
 go_upto_region 7 with (first
  | (go_at_call 46
     refine hcg.mono ?_
     rintro e w4 ⟨v4,rfl,hown4,hm4⟩
     obtain ⟨p4,d4,hv4⟩:=(rdN_of_row hown4).len
     simp only at hv4
     rw [HH.out.2.2.2.2.2] at hv4
     subst hv4
     simp only [aggG,cellsG]
     obtain ⟨W5,hW5⟩:∃ W5,W5=w4.alloc (.cells #[.int .i64 id,.int .i64 gho,.string gpa,.int .i64 gmo,.slice p4 gn d4,.int .i64 gte] 40 (0,0)):=⟨_,rfl⟩
     have hk5:W5.heap[w4.heap.size]?=some (.cells (cellsG ⟨id,gho,gpa,gmo,gst,gte⟩ (.slice p4 gn d4)).toArray 40 (0,0)):=by rw [hW5];exact heap_alloc_new w4 _
     have hm5:Mod [] w4 W5:=by rw [hW5];exact (Mod.refl _ _).alloc _
     have hown5:=hm5.row hown4 (by simp)
     have hz4:=hm4.size
     have hz5:=hm5.size
     have hap:∀ y,y∈ob (.slice p4 gn d4)→y ∉ ob u5:=fun y h1 h2=>by
      have a1:=(ob_of_row hown4 y h1).1
      have a2:=(ob_of_row HE.out.2.2.2.2.1.row y h2).2
      omega
     have HC:=Hj5 (HE.out.2.2.2.2.1.mod (hm4.then hm5) (by simp)) (World.ownsRow.mono hown5 (show base≤W2.heap.size by omega)) hk5 hap (hm4.then hm5)
     clear hown4 hm4 hk5 hm5 hown5 hap hcg B2)
  | (at_builtin
     rw [← hW5]
     refine wpList_app_gr (g:=⟨id,gho,gpa,gmo,gst,gte⟩) (sv:=.slice p4 gn d4) (sl:=sl) (base:=base) W5 rfl _ _ rfl rfl HC.out.1 (by omega) (by omega) (k:=w4.heap.size) rfl HC.out.2.2.1 HC.out.2.1 HC.out.2.2.2.1 ?_
     rintro u6 w6 hgm6 hm6 ⟨p6,c6,hu6⟩ hob6
     subst hu6
     have H6:=Hj3 hgm6 hm6 hob6
     clear hgm6 hm6 hob6)
  | fail)
 have hm26:Mod [] W1 w6:=(HE.out.2.2.2.1.then HC.out.2.2.2.2).trans H6.out.2.1 (fun _ z _=>z) (fun y hy hlt=>absurd (HE.out.2.1 y hy) (by omega))
 have hg6:=H6.out.1
 rw [hsl] at hg6
 have hob6:∀ y,y∈ob (.slice p6 (k+1) c6)→w.heap.size<y:=fun y hy=>by
  rw [← hsl] at hy
  rcases H6.out.2.2 y hy with e | e
  · exact HE.out.2.1 y e
  · omega
 have H7:=Hj3 hg6 hob6 hm26
 clear hm26 hob6 hg6
 go_loopw [5,6] (fun u i wr=>Wi3 w base lv ⟨id,gho,gpa,gmo,gst,gte⟩ k W1 u i wr) (fun _ i _=>lv.length - (intOf i).toNat)
 case atStart=>exact ⟨k,sl++[(⟨id,gho,gpa,gmo,gst,gte⟩,.slice p4 gn d4)],rfl,Nat.le_refl _,hk,by rw [List.map_append,HE.out.1,Nat.sub_self];rfl,by simp [hsl],H7.out.1,H7.out.2.1,H7.out.2.2⟩
 case round =>
  clear hz1 hz2
  obtain ⟨j,sl2,rfl,hkj,hj,hmap,hsl2,hgm,hob,hm⟩:=hrel
  by_cases hlt:j<lv.length
  · have hji:(j:Int)<(lv.length:Int):=by omega
    have hj0:(0:Int)≤(j:Int):=by omega
    obtain ⟨gb,rfl,hgb,hgb2,hc,-,hrd⟩:=(HH.out.1.mod (HH.out.2.2.2.1.then hm) (by simp)).at_ j hlt
    have hst':=(HH.out.1.mod (HH.out.2.2.2.1.then hm) (by simp)).st _ (show lv.getD j default∈lv by simp [hlt])
    have htk:((lv.drop k).take (j+1 - k)).map Prod.fst=((lv.drop k).take (j - k)).map Prod.fst++[(lv.getD j default).1]:=by
     rw [show j+1 - k=(j - k)+1 by omega,List.take_add_one,List.map_append]
     simp [show k+(j - k)=j by omega,hlt]
    have hso:=fun y hy=>(ob_of_row (HH.out.1.st _ (show lv.getD j default∈lv by simp [hlt])).1 y hy).2
    generalize lv.getD j default=pr at hc hst' htk hrd hso
    obtain ⟨⟨x,ho,pa,mo,st,te⟩,sv⟩:=pr
    simp only at hst' htk hrd hso
    obtain ⟨qs,cs,hsv⟩:=hrd.len
    obtain ⟨ns,hns⟩:∃ n,st.length=n:=⟨_,rfl⟩
    rw [hns] at hsv
    subst hsv
    have c0:=hc 0 (by decide)
    have c1:=hc 1 (by decide)
    have c2:=hc 2 (by decide)
    have c3:=hc 3 (by decide)
    have c4:=hc 4 (by decide)
    have c5:=hc 5 (by decide)
    simp [encG,cellsG] at c0 c1 c2 c3 c4 c5
    obtain ⟨W8,hW8⟩:∃ W8,W8=wr.alloc (.cells #[.int .i64 x,.int .i64 ho,.string pa,.int .i64 mo,.slice qs ns cs,.int .i64 te] 40 (0,0)):=⟨_,rfl⟩
    have hk8:W8.heap[wr.heap.size]?=some (.cells (cellsG ⟨x,ho,pa,mo,st,te⟩ (.slice qs ns cs)).toArray 40 (0,0)):=by rw [hW8];exact heap_alloc_new wr _
    have hm8:Mod [] wr W8:=by rw [hW8];exact (Mod.refl _ _).alloc _
    have hap:∀ y,y∈ob (.slice qs ns cs)→y ∉ ob u5:=fun y h1 h2=>by have:=hso y h1;have:=hob y h2;omega
    have HG:=Hj4 (hgm.mod hm8 (by simp)) (hm8.row hst'.1 (by simp)) hap hk8
    have HR:=Hj6 hmap hob hm htk hm8 hsl2
    have hz:=hm.size
    have hz8:=hm8.size
    have hzw:=HH.out.2.2.2.2.1
    clear hmap hob hm htk hc hst' hrd hso hk8 hm8 hap hgm hsl2
    go_wp2_with (
     at_builtin
     rw [← hW8]
     refine wpList_app_gr (g:=⟨x,ho,pa,mo,st,te⟩) (sv:=.slice qs ns cs) (sl:=sl2) (base:=base) W8 rfl _ _ rfl rfl HG.out.1 (by have:=HR.out.2.2.2.2.2;omega) (by omega) (k:=wr.heap.size) rfl HG.out.2.2.2 HG.out.2.1 HG.out.2.2.1 ?_
     rintro u' w9 hgm9 hm9 ⟨p9,c9,hu9⟩ hob9
     subst hu9
     have H9:=Hj3 hgm9 hm9 hob9
     clear hgm9 hm9 hob9)
    go_roundw
    case rel =>
     obtain ⟨hmap,hob,hm,htk,hm8,hsl2⟩:=HR.out
     obtain ⟨hgm9,hm9,hob9⟩:=H9.out
     refine ⟨j+1,sl2++[(⟨x,ho,pa,mo,st,te⟩,.slice qs ns cs)],by go_num,by omega,by omega,?_,by simp [hsl2],hgm9,fun y hy=>?_,?_⟩
     · rw [htk,List.map_append,hmap];simp
     · rcases hob9 y hy with e | e
       · exact hob y e
       · omega
     · exact (hm.then hm8).trans hm9 (fun _ z _=>z) (fun y hy hlt=>absurd (hob y hy) (by omega))
    case measure=>simp [intOf];omega
  · obtain rfl:j=lv.length:=by omega
    have HR:=Hj4 hmap hob hm hgm
    clear hmap hob hm hgm
    go_wp2_with fail
    go_ret
    obtain ⟨hmap,hob,hm,hgm⟩:=HR.out
    refine ⟨_,sl2,rfl,?_,hgm,hob,HH.out.2.2.2.1.then hm⟩
    have e:(lv.drop k).take (lv.length - k)=lv.drop k:=List.take_of_length_le (by rw [List.length_drop];exact Nat.le_refl _)
    rw [hmap,e]
    unfold putG
    rw [HE.out.2.2.1]
    simp
end Go.Proofs.YtpphoeimakjjdaaGreatDoor
