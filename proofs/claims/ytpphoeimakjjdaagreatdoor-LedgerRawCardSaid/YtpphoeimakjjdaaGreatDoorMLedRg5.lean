/-
  LedRg4 LedRg5: see the remarks below.
-/
import Derived.Test.YtpphoeimakjjdaaGreatDoorMLedRg3
import Derived.Test.YtpphoeimakjjdaaGreatDoorMWpL
import Derived.Test.YtpphoeimakjjdaaGreatDoorMOctR
import Derived.Deep.DeepCutAuto
/-
  WALKS: the document's layer 2: TakeNum, TakeText, ReadNum, ReadText.
-/
namespace Go.Proofs.YtpphoeimakjjdaaGreatDoor
set_option maxRecDepth 100000
set_option maxHeartbeats 2000000
open Go.RowKit

def TnRel (b:B8) (n u i:Value):Prop:=∃ k x U:Nat,k≤8∧n=.int .i64 (x:Int)∧u=.int .i64 (U:Int)∧i=.int .i64 (k:Int)∧Hid (U=128 ^ k)∧x<U∧U≤72057594037927936∧Hid (comb x k (takeF k (b.drop k))=takeN b)
theorem rtakeNum_any {w:World} {u:Value} {b:B8} (hu:RdY w u b) {a c:Nat} {e0:Int} (ht:takeN b=(a,c,e0)) :
 Calls Tryz.prog 179 #[u] w fun e w'=>e=.returned (.tuple #[.int .i64 (a:Int),.int .i64 (c:Int),.int .i64 e0])∧w'=w:=by
 have hl:=hu.1
 obtain ⟨p,cp,rfl⟩:=hu.len
 have HT:=hide ht
 clear ht
 go_enter Tryz.func179,Tryz.ntmps179
 go_wp2_with fail
 go_loop [5,6,7] (fun n u i=>TnRel b n u i) (fun _ _ i=>9 - (intOf i).toNat)
 case atStart=>exact ⟨0,0,1,by omega,rfl,rfl,rfl,hide rfl,by omega,by omega,hide (by
  have h:=takeF_bound b 0 (by omega)
  exact comb_zero _ (takeN_bound b).2.2.2)⟩
 case round =>
  obtain ⟨k,x,U,hk,rfl,rfl,rfl,hU,hx,hUb,hc⟩:=hrel
  by_cases hlt:k<b.length
  · obtain ⟨b1,o1,rfl,hb1,c1⟩:=hu.at_ k hlt
    have hdr:b.drop k=b.getD k 0::b.drop (k+1):=by
     rw [List.drop_eq_getElem_cons hlt];simp [hlt]
    rw [hdr] at hc
    generalize b.getD k 0=z at c1 hc
    obtain ⟨r,hr⟩:∃ r,b.drop (k+1)=r:=⟨_,rfl⟩
    rw [hr] at hc
    have HR:=hide hr
    unfold y8 at c1
    have hz:=byte_lt z
    obtain ⟨m,hm⟩:∃ m,z.toNat=m:=⟨_,rfl⟩
    rw [hm] at hz c1
    by_cases h128:m<128
    · by_cases h0:m=0∧0<k
      · have h2:=hc.out
        rw [takeF_form r (by omega) (by omega),comb_err _ _ _ (by decide),HT.out] at h2
        obtain ⟨rfl,rfl,rfl⟩:0=a∧0=c∧21=e0:=by simpa using h2
        obtain ⟨rfl,hk0⟩:=h0
        have hk1:decide (0<(k:Int))=true:=by simp;omega
        clear h2 hc hdr hm HT hr
        go_wp2_with fail
        go_ret3
        exact ⟨rfl,rfl⟩
      · have h2:=hc.out
        rw [takeF_num r (by omega) (by omega),comb_ok,HT.out,hm,← hU.out] at h2
        obtain ⟨h3,h4,h5⟩:a=x+U * m∧c=k+1∧e0=0:=by simp at h2;omega
        have hmul:U * m≤72057594037927936 * 127:=Nat.mul_le_mul hUb (by omega)
        have hml:((m:Int) * (U:Int))=((U * m:Nat):Int):=by push_cast;exact Int.mul_comm _ _
        obtain ⟨Y,hY⟩:∃ Y,U * m=Y:=⟨_,rfl⟩
        rw [hY] at hml hmul h3
        have hw1:IntKind.i64.wrap (Y:Int)=(Y:Int):=by rw [IntKind.wrap_i64];omega
        have hw2:IntKind.i64.wrap ((x:Int)+(Y:Int))=(x:Int)+(Y:Int):=by rw [IntKind.wrap_i64];omega
        have hcd:((m:Int)==0&&decide (0<(k:Int)))=false:=by
         simp only [Bool.and_eq_false_iff,beq_eq_false_iff_ne,decide_eq_false_iff_not];omega
        have HA:=Hj3 h3 h4 h5
        clear h2 hc hdr hm HT hr hY h3 h4 h5
        by_cases hm0:m=0
        · subst hm0
          have hk0:decide (0<(k:Int))=false:=by simp;omega
          go_wp2_with fail
          go_ret3
          obtain ⟨rfl,rfl,rfl⟩:=HA.out
          obtain rfl:Y=0:=by simp at hml;omega
          exact ⟨by simp,rfl⟩
        · have hm1:((m:Int)==0)=false:=by simp;omega
          go_wp2_with fail
          go_ret3
          obtain ⟨rfl,rfl,rfl⟩:=HA.out
          exact ⟨by simp,rfl⟩
    · by_cases h8:k=8
      · subst h8
        have h2:=hc.out
        rw [takeF_long r (by omega),comb_err _ _ _ (by decide),HT.out] at h2
        obtain ⟨rfl,rfl,rfl⟩:0=a∧0=c∧21=e0:=by simpa using h2
        clear h2 hc hdr hm HT hr
        go_wp2_with fail
        go_ret3
        exact ⟨rfl,rfl⟩
      · have h2:=hc.out
        rw [comb_step (by omega) h8,hm,← hU.out] at h2
        have hmul:U * (m - 128)≤562949953421312 * 127:=Nat.mul_le_mul (by rw [hU.out];exact Nat.le_trans (Nat.pow_le_pow_right (by decide) (show k≤7 by omega)) (by decide)) (by omega)
        have hml:(((m:Int) - 128) * (U:Int))=((U * (m - 128):Nat):Int):=by
         rw [Int.natCast_mul,Int.mul_comm];congr 1;omega
        have hUk:U * 128=128 ^ (k+1):=by rw [Nat.pow_succ,hU.out]
        have hU7:U≤562949953421312:=by rw [hU.out];exact Nat.le_trans (Nat.pow_le_pow_right (by decide) (show k≤7 by omega)) (by decide)
        have hxn:x+U * (m - 128)<U * 128:=by
         have:U * (m - 128)≤U * 127:=Nat.mul_le_mul_left _ (by omega)
         omega
        obtain ⟨Y,hY⟩:∃ Y,U * (m - 128)=Y:=⟨_,rfl⟩
        rw [hY] at hml hmul hxn h2
        have hw1:IntKind.i64.wrap (Y:Int)=(Y:Int):=by rw [IntKind.wrap_i64];omega
        have hw2:IntKind.i64.wrap ((x:Int)+(Y:Int))=(x:Int)+(Y:Int):=by rw [IntKind.wrap_i64];omega
        have hw3:IntKind.i64.wrap ((U:Int) * 128)=(U:Int) * 128:=by rw [IntKind.wrap_i64];omega
        have HA:=Hj2 h2 hUk
        clear h2 hc hdr hm HT hr hY hUk
        go_wp2_with fail
        go_round
        case rel=>exact ⟨k+1,x+Y,U * 128,by omega,by go_num,by go_num,by go_num,hide HA.out.2,hxn,by omega,hide (by rw [HR.out];exact HA.out.1)⟩
        case measure=>simp [intOf];omega
  · have hn:b.drop k=[]:=List.drop_of_length_le (by omega)
    have h2:=hc.out
    rw [hn] at h2
    have h3:comb x k (takeF k [])=(0,0,20):=comb_err _ _ _ (by decide)
    rw [h3,HT.out] at h2
    obtain ⟨rfl,rfl,rfl⟩:0=a∧0=c∧20=e0:=by simpa using h2
    clear hn h2 h3
    go_wp2_with fail
    go_ret3
    exact ⟨rfl,rfl⟩
def takeR (b:B8) (e:Int):Int × B8 × Int:=if e=0 then ((takeN b).1,if (takeN b).2.2=0 then b.drop (takeN b).2.1 else b,(takeN b).2.2) else (0,b,e)
theorem takeR_rd (b:B8) (e:Int):takeR b e=rdNum b e:=by
 have h:=(takeN_bound b).2.2.2
 unfold takeR rdNum
 split
 · by_cases h2:(takeN b).2.2=0
   · rw [if_pos h2]
   · rw [if_neg h2,(h h2).2,List.drop_zero]
 · rfl
theorem res_tc {P:Program} {fn:Func} {p q:Tmp} {ty:TypeId} (h:fn.results=#[.tmp p,.cell q ty]) (tmps:Array Value) (w:World) {r:Nat} {cs:Array Value} {T:TypeId} (hp:tmps.getD q undef=.pointer (some ⟨r,0,none⟩))
 (hb:w.heap[r]?=some (.cells cs T (0,0))) (aE:∀ w,(isAgg ty).run P w=.ok true w) (zE:∀ w,(Go.sizeOf ty).run P w=.ok cs.size w) {e:Value} (he:e=.tuple #[tmps.getD p undef,.agg cs]):(results fn tmps).run P w=.ok e w:=by
 subst he
 have e1:(asAddr (.pointer (some ⟨r,0,none⟩))).run P w=.ok ⟨r,0,none⟩ w:=rfl
 have e2:(loadVar ty ⟨r,0,none⟩).run P w=.ok (.agg cs) w:=by
  have e3:=run_loadCells_list (P:=P) (w:=w) ⟨r,0,none⟩ cs.toList (fun i v hi=>by
   rw [Addr.add_lit,Nat.zero_add,blk_cell hb];simpa using hi)
  rw [Array.length_toList] at e3
  unfold loadVar
  simp only [Sem.run_bind,aE,Result.andThen,if_true,zE]
  simp [e3]
 have e0:(results fn tmps).run P w=((asAddr (tmps.getD q undef)).run P w).andThen fun a w₁=>((loadVar ty a).run P w₁).andThen fun v w₂=>.ok (.tuple #[tmps.getD p undef,v]) w₂:=by
  simp only [results,h]
  simp [Sem.run_bind,Result.andThen]
 rw [e0,hp,e1]
 simp only [Result.andThen]
 rw [e2]
theorem rdr_end {w V:World} (m:Mod [] w V) {s0 i0:Value} (h:V.heap[w.heap.size+1]?=some (.cells #[s0,i0] 189 (0,0))) (v e:Value) :
 ((V.setCell ⟨w.heap.size+1,0,none⟩ v).setCell ⟨w.heap.size+1,1,none⟩ e).heap[w.heap.size+1]?=some (.cells #[v,e] 189 (0,0))∧Mod [] w ((V.setCell ⟨w.heap.size+1,0,none⟩ v).setCell ⟨w.heap.size+1,1,none⟩ e) :=
 ⟨blk_set (blk_set h 0 v) 1 e,mod_new (S:=[w.heap.size+1]) m (((Mod.refl _ _).setCell (by simp) _).setCell (by simp) _) (by simp)⟩
def RdrTo (w:World) (q:Option Addr) (n cp:Nat) (x:Value) (r:B8) (e1:Int) (e:Ending) (w':World):Prop :=
 ∃ q' c',e=.returned (.tuple #[x,.agg #[.slice q' r.length c',.int .i64 e1]])∧RdY w' (.slice q' r.length c') r∧(∀ k,k∈ob (.slice q' r.length c')→k∈ob (.slice q n cp))∧Mod [] w w'
theorem rreadNum_any {w:World} {q:Option Addr} {cp:Nat} {b:B8} (hu:RdY w (.slice q b.length cp) b) (e0:Int) {x:Int} {r:B8} {e1:Int} (ht0:rdNum b e0=(x,r,e1)) :
 Calls Tryz.prog 163 #[.agg #[.slice q b.length cp,.int .i64 e0]] w fun e w'=>RdrTo w q b.length cp (.int .i64 x) r e1 e w':=by
 have ht:takeR b e0=(x,r,e1):=(takeR_rd b e0).trans ht0
 clear ht0
 obtain ⟨⟨a,c,e2⟩,hT⟩:∃ p,takeN b=p:=⟨_,rfl⟩
 have hb:=takeN_bound b
 rw [hT] at hb
 unfold takeR at ht
 rw [hT] at ht
 simp only at ht hb
 obtain ⟨n,hn⟩:∃ n,b.length=n:=⟨_,rfl⟩
 have hcall:=fun {w:World} (h:RdY w (.slice q b.length cp) b)=>rtakeNum_any h hT
 have HU:=hide hu
 have hcap:=hu.cap
 rw [hn] at hcall hcap
 obtain ⟨W2,hW2⟩:∃ W2,W2=(w.alloc (.cells #[.slice q n cp,.int .i64 e0] 189 (0,0))).alloc (.cells #[.slice none 0 0,.int .i64 0] 189 (0,0)):=⟨_,rfl⟩
 have m2:Mod [] w W2:=by rw [hW2];exact ((Mod.refl _ _).alloc _).alloc _
 have k1:W2.heap[w.heap.size]?=some (.cells #[.slice q n cp,.int .i64 e0] 189 (0,0)):=by rw [hW2];exact blk_alloc (heap_alloc_new w _) _
 have k2:W2.heap[w.heap.size+1]?=some (.cells #[.slice none 0 0,.int .i64 0] 189 (0,0)):=by
  rw [hW2]
  have:=heap_alloc_new (w.alloc (.cells #[.slice q n cp,.int .i64 e0] 189 (0,0))) (.cells #[.slice none 0 0,.int .i64 0] 189 (0,0))
  simpa using this
 have HB:=Hj4 m2 k1 k2 (hu.mod m2 (by simp))
 have C1:=blk_cell k1;have F1:=blk_free k1;have L1:=lt_of_block k1
 have C2:=blk_cell k2;have F2:=blk_free k2;have L2:=lt_of_block k2
 have HN:=hide hn
 have haE:=Tryz.isAgg189
 have hzE:=Tryz.sizeOf189
 rw [hn]
 clear hu m2 k1 k2 hn
 go_enter Tryz.func163,Tryz.ntmps163
 go_upto_region 1 with fail
 rw [← hW2]
 clear hW2
 by_cases h0:e0=0
 · subst h0
   rw [if_pos rfl] at ht
   go_upto_region 4 with (go_at_call 179;refine (hcall (by rw [← HN.out];exact HB.out.2.2.2)).mono ?_;rintro e w1 ⟨rfl,rfl⟩)
   by_cases h2:e2=0
   · subst h2
     rw [if_pos rfl] at ht
     obtain ⟨rfl,rfl,rfl⟩:(a:Int)=x∧b.drop c=r∧0=e1:=by simpa using ht
     go_wp2_with fail
     have mv:Mod [] w1 w1.drew:=(Mod.refl _ _).drew
     refine pB 7 (fun w2=>w2=w1.drew) rfl ?_
     generalize w1.drew=V at mv ⊢
     clear C1 C2 F1 F2 L1 L2
     have D1:=blk_cell (mv.at_ HB.out.2.1 (by simp));have G1:=blk_free (mv.at_ HB.out.2.1 (by simp));have K1:=lt_of_block (mv.at_ HB.out.2.1 (by simp))
     have D2:=blk_cell (mv.at_ HB.out.2.2.1 (by simp));have G2:=blk_free (mv.at_ HB.out.2.2.1 (by simp));have K2:=lt_of_block (mv.at_ HB.out.2.2.1 (by simp))
     have hcn:c≤n:=by rw [← HN.out];exact hb.2.1
     refine pP 0 ?_;refine pP 1 ?_
     refine pT 2 rfl [4,5,7] (fun w2 h=>by rw [h];go_simp;try with_reducible rfl) ?_
     refine pP 3 ?_
     by_cases hcc:cp=c
     · subst hcc
       obtain rfl:n=cp:=by omega
       refine pP 4 ?_;refine pP 5 ?_;refine pP 6 ?_
       refine pY 7 fun hT K HK=>?_
       go_simp
       have z:=rdr_end (HB.out.1.then mv) (mv.at_ HB.out.2.2.1 (by simp)) (.slice q 0 0) (.int .i64 0)
       obtain ⟨X,hX⟩:∃ X,X=(V.setCell ⟨w.heap.size+1,0,none⟩ (.slice q 0 0)).setCell ⟨w.heap.size+1,1,none⟩ (.int .i64 0):=⟨_,rfl⟩
       rw [← hX] at z ⊢
       refine HK.out _ _ _ ?_
       clear HK K hT D1 G1 K1 D2 G2 K2 hX
       refine pD ?_
       go_wp2_with fail
       have hl:(b.drop n).length=0:=by rw [List.length_drop,HN.out];omega
       refine bodyPost_ret (v:=.tuple #[.int .i64 (a:Int),.agg #[.slice q 0 0,.int .i64 0]]) (res_tc Tryz.results163 _ _ rfl z.1 haE hzE rfl) rfl ⟨q,0,by rw [hl],?_,?_,z.2⟩
       · rw [hl]
         have h:=(HU.out.mod z.2 (by simp)).cut0 rfl (by rw [HN.out];exact Nat.le_refl _)
         rw [HN.out,Nat.sub_self] at h
         exact h
       · rw [hl];exact fun k hk=>ob_same _ _ _ _ _ k hk
     · refine pP 4 ?_;refine pP 5 ?_;refine pP 6 ?_
       refine pY 7 fun hT K HK=>?_
       go_simp
       have z:=rdr_end (HB.out.1.then mv) (mv.at_ HB.out.2.2.1 (by simp)) (.slice (q.map fun x=>x.add c) (n - c) (cp - c)) (.int .i64 0)
       obtain ⟨X,hX⟩:∃ X,X=(V.setCell ⟨w.heap.size+1,0,none⟩ (.slice (q.map fun x=>x.add c) (n - c) (cp - c))).setCell ⟨w.heap.size+1,1,none⟩ (.int .i64 0):=⟨_,rfl⟩
       rw [← hX] at z ⊢
       refine HK.out _ _ _ ?_
       clear HK K hT D1 G1 K1 D2 G2 K2 hX
       refine pD ?_
       go_wp2_with fail
       have hl:(b.drop c).length=n - c:=by rw [List.length_drop,HN.out]
       refine bodyPost_ret (v:=.tuple #[.int .i64 (a:Int),.agg #[.slice (q.map fun x=>x.add c) (n - c) (cp - c),.int .i64 0]]) (res_tc Tryz.results163 _ _ rfl z.1 haE hzE rfl) rfl ⟨_,_,by rw [hl],?_,?_,z.2⟩
       · rw [hl]
         have h:=(HU.out.mod z.2 (by simp)).cut (by rw [HN.out];exact hcn)
         rw [HN.out] at h
         exact h
       · rw [hl];exact fun k hk=>ob_cut _ _ _ _ _ _ k hk
   · have h2':(e2 != 0)=true:=by simp;omega
     rw [if_neg h2] at ht
     obtain ⟨h3,rfl,rfl⟩:(a:Int)=x∧b=r∧e2=e1:=by simpa using ht
     obtain ⟨rfl,rfl⟩:=hb.2.2.2 h2
     obtain rfl:0=x:=by simpa using h3
     go_wp2_with fail
     have mv:Mod [] w1 w1.drew:=(Mod.refl _ _).drew
     refine pB 5 (fun w2=>w2=w1.drew) rfl ?_
     generalize w1.drew=V at mv ⊢
     clear C1 C2 F1 F2 L1 L2
     have D1:=blk_cell (mv.at_ HB.out.2.1 (by simp));have G1:=blk_free (mv.at_ HB.out.2.1 (by simp));have K1:=lt_of_block (mv.at_ HB.out.2.1 (by simp))
     have D2:=blk_cell (mv.at_ HB.out.2.2.1 (by simp));have G2:=blk_free (mv.at_ HB.out.2.2.1 (by simp));have K2:=lt_of_block (mv.at_ HB.out.2.2.1 (by simp))
     refine pP 0 ?_
     refine pT 1 rfl [3,5] (fun w2 h=>by rw [h];go_simp;try with_reducible rfl) ?_
     refine pP 2 ?_;refine pP 3 ?_;refine pP 4 ?_
     refine pY 5 fun hT K HK=>?_
     go_simp
     have z:=rdr_end (HB.out.1.then mv) (mv.at_ HB.out.2.2.1 (by simp)) (.slice q n cp) (.int .i64 e2)
     obtain ⟨X,hX⟩:∃ X,X=(V.setCell ⟨w.heap.size+1,0,none⟩ (.slice q n cp)).setCell ⟨w.heap.size+1,1,none⟩ (.int .i64 e2):=⟨_,rfl⟩
     rw [← hX] at z ⊢
     refine HK.out _ _ _ ?_
     clear HK K hT D1 G1 K1 D2 G2 K2 hX
     refine pD ?_
     go_wp2_with fail
     refine bodyPost_ret (v:=.tuple #[.int .i64 0,.agg #[.slice q n cp,.int .i64 e2]]) (res_tc Tryz.results163 _ _ rfl z.1 haE hzE rfl) rfl ⟨q,cp,by rw [HN.out],HU.out.mod z.2 (by simp),fun k hk=>by rw [HN.out] at hk;exact hk,z.2⟩
 · have h0':(e0 != 0)=true:=by simp;omega
   rw [if_neg h0] at ht
   obtain ⟨rfl,rfl,rfl⟩:0=x∧b=r∧e0=e1:=by simpa using ht
   go_wp2_with fail
   have mv:Mod [] W2 W2.drew:=(Mod.refl _ _).drew
   refine pB 2 (fun w2=>w2=W2.drew) rfl ?_
   generalize W2.drew=V at mv ⊢
   clear C1 C2 F1 F2 L1 L2
   have D1:=blk_cell (mv.at_ HB.out.2.1 (by simp));have G1:=blk_free (mv.at_ HB.out.2.1 (by simp));have K1:=lt_of_block (mv.at_ HB.out.2.1 (by simp))
   have D2:=blk_cell (mv.at_ HB.out.2.2.1 (by simp));have G2:=blk_free (mv.at_ HB.out.2.2.1 (by simp));have K2:=lt_of_block (mv.at_ HB.out.2.2.1 (by simp))
   refine pT 0 rfl [2] (fun w2 h=>by rw [h];go_simp;try with_reducible rfl) ?_
   refine pP 1 ?_
   refine pY 2 fun hT K HK=>?_
   go_simp
   have z:=rdr_end (HB.out.1.then mv) (mv.at_ HB.out.2.2.1 (by simp)) (.slice q n cp) (.int .i64 e0)
   obtain ⟨X,hX⟩:∃ X,X=(V.setCell ⟨w.heap.size+1,0,none⟩ (.slice q n cp)).setCell ⟨w.heap.size+1,1,none⟩ (.int .i64 e0):=⟨_,rfl⟩
   rw [← hX] at z ⊢
   refine HK.out _ _ _ ?_
   clear HK K hT D1 G1 K1 D2 G2 K2 hX
   refine pD ?_
   go_wp2_with fail
   refine bodyPost_ret (v:=.tuple #[.int .i64 0,.agg #[.slice q n cp,.int .i64 e0]]) (res_tc Tryz.results163 _ _ rfl z.1 haE hzE rfl) rfl ⟨q,cp,by rw [HN.out],HU.out.mod z.2 (by simp),fun k hk=>by rw [HN.out] at hk;exact hk,z.2⟩
end Go.Proofs.YtpphoeimakjjdaaGreatDoor
/-
  WALKS: the document's layer 2: TakeText, ReadText.
-/
namespace Go.Proofs.YtpphoeimakjjdaaGreatDoor
set_option maxRecDepth 100000
set_option maxHeartbeats 2000000
open Go.RowKit

def TtTo (b s r:B8) (e1:Int) (w:World) (e:Ending) (w':World):Prop :=
 ∃ k:Nat,e=.returned (.tuple #[.string ⟨s.toArray⟩,.int .i64 (k:Int),.int .i64 e1])∧w'=w∧k≤b.length∧(e1=0→b.drop k=r)∧(e1≠0→r=b∧s=[])
theorem rtakeText_any {w:World} {u:Value} {b:B8} (hu:RdY w u b) (most:Int) (h0:0≤most) {s r:B8} {e1:Int} (ht:rdText most b 0=(s,r,e1)) :
 Calls Tryz.prog 164 #[u,.int .i64 most] w fun e w'=>TtTo b s r e1 w e w':=by
 have hlen:b.length≤9223372036854775807:=hu.1
 obtain ⟨q,cc,rfl⟩:=hu.len
 obtain ⟨⟨n,k,y⟩,hT⟩:∃ p,takeN b=p:=⟨_,rfl⟩
 have hb:=takeN_bound b
 have hN:=rtakeNum_any hu hT
 unfold rdText at ht
 rw [hT] at ht hb
 simp only at ht hb
 have hk:=hb.2.1
 have hn:=hb.1
 have hcap:=hu.cap
 have hm0:decide (most<0)=false:=by simp;omega
 rw [if_neg (by simp)] at ht
 by_cases hy:y=0
 · subst hy
   rw [if_neg (by simp)] at ht
   rw [show max most 0=most by omega] at ht
   clear hb
   by_cases hm:most<(n:Int)
   · rw [if_pos hm] at ht
     obtain ⟨rfl,rfl,rfl⟩:[]=s∧b=r∧21=e1:=by simpa using ht
     go_enter Tryz.func164,Tryz.ntmps164
     go_wp2_with (go_at_call 179;refine hN.mono ?_;rintro e w' ⟨rfl,rfl⟩)
     go_ret3
     exact ⟨0,rfl,rfl,Nat.zero_le _,by simp,by simp⟩
   · rw [if_neg hm] at ht
     have hm':(n:Int)≤most:=by omega
     have hm'':decide (most<(n:Int))=false:=by simp;omega
     by_cases hr:b.length - k<n
     · rw [if_pos hr] at ht
       obtain ⟨rfl,rfl,rfl⟩:[]=s∧b=r∧20=e1:=by simpa using ht
       have hr':(b.length:Int) - (k:Int)<(n:Int):=by omega
       have hrd:decide ((b.length:Int) - (k:Int)<(n:Int))=true:=by simp;omega
       go_enter Tryz.func164,Tryz.ntmps164
       go_wp2_with (go_at_call 179;refine hN.mono ?_;rintro e w' ⟨rfl,rfl⟩)
       go_ret3
       exact ⟨0,rfl,rfl,Nat.zero_le _,by simp,by simp⟩
     · rw [if_neg hr] at ht
       obtain ⟨rfl,rfl,rfl⟩:(b.drop k).take n=s∧b.drop (k+n)=r∧0=e1:=by simpa using ht
       have hr':¬ (b.length:Int) - (k:Int)<(n:Int):=by omega
       have hrd:decide ((b.length:Int) - (k:Int)<(n:Int))=false:=by simp;omega
       have hr2:(k:Int)+(n:Int)≤(b.length:Int):=by omega
       have hr3:k+n≤b.length:=by omega
       have hcap':(k:Int)+(n:Int)≤(cc:Int):=by omega
       have hl1:((b.drop k).take n).length=n:=by simp;omega
       by_cases hcc:cc=k
       · obtain rfl:n=0:=by omega
         subst hcc
         have r2:=(RdY.nil w q 0).str
         have e1:(b.drop cc).take 0=[]:=by simp
         rw [e1]
         clear hl1 e1
         go_enter Tryz.func164,Tryz.ntmps164
         go_wp2_with (go_at_call 179;refine hN.mono ?_;rintro e w' ⟨rfl,rfl⟩)
         go_ret3
         exact ⟨cc,rfl,rfl,by omega,fun _=>by simp,by simp⟩
       · have r0:=hu.cut hk
         rw [← List.length_drop] at r0
         have r1:=r0.take (k:=n) (by simp;omega)
         have r2:=r1.str
         clear r0 hl1
         go_enter Tryz.func164,Tryz.ntmps164
         go_wp2_with (go_at_call 179;refine hN.mono ?_;rintro e w' ⟨rfl,rfl⟩)
         go_ret3
         exact ⟨k+n,by simp,rfl,hr3,fun _=>rfl,by simp⟩
 · rw [if_pos hy] at ht
   obtain ⟨rfl,rfl,rfl⟩:[]=s∧b=r∧y=e1:=by simpa using ht
   have hb2:(y != 0)=true:=by simpa using hy
   have H2:=hide hy
   clear hy
   go_enter Tryz.func164,Tryz.ntmps164
   go_wp2_with (go_at_call 179;refine hN.mono ?_;rintro e w' ⟨rfl,rfl⟩)
   go_ret3
   exact ⟨0,rfl,rfl,Nat.zero_le _,fun e=>absurd e H2.out,by simp⟩
theorem rreadText_any {w:World} {q:Option Addr} {cp:Nat} {b:B8} (hu:RdY w (.slice q b.length cp) b) (e0 most:Int) (hmost:0≤most) {s r:B8} {e1:Int} (ht:rdText most b e0=(s,r,e1)) :
 Calls Tryz.prog 135 #[.agg #[.slice q b.length cp,.int .i64 e0],.int .i64 most] w fun e w'=>RdrTo w q b.length cp (.string ⟨s.toArray⟩) r e1 e w':=by
 obtain ⟨n,hn⟩:∃ n,b.length=n:=⟨_,rfl⟩
 have HU:=hide hu
 have hcap:=hu.cap
 rw [hn] at hcap
 obtain ⟨W2,hW2⟩:∃ W2,W2=(w.alloc (.cells #[.slice q n cp,.int .i64 e0] 189 (0,0))).alloc (.cells #[.slice none 0 0,.int .i64 0] 189 (0,0)):=⟨_,rfl⟩
 have m2:Mod [] w W2:=by rw [hW2];exact ((Mod.refl _ _).alloc _).alloc _
 have k1:W2.heap[w.heap.size]?=some (.cells #[.slice q n cp,.int .i64 e0] 189 (0,0)):=by rw [hW2];exact blk_alloc (heap_alloc_new w _) _
 have k2:W2.heap[w.heap.size+1]?=some (.cells #[.slice none 0 0,.int .i64 0] 189 (0,0)):=by
  rw [hW2]
  have:=heap_alloc_new (w.alloc (.cells #[.slice q n cp,.int .i64 e0] 189 (0,0))) (.cells #[.slice none 0 0,.int .i64 0] 189 (0,0))
  simpa using this
 have HB:=Hj4 m2 k1 k2 (hu.mod m2 (by simp))
 have C1:=blk_cell k1;have F1:=blk_free k1;have L1:=lt_of_block k1
 have C2:=blk_cell k2;have F2:=blk_free k2;have L2:=lt_of_block k2
 have HN:=hide hn
 have haE:=Tryz.isAgg189
 have hzE:=Tryz.sizeOf189
 rw [hn]
 clear hu m2 k1 k2 hn
 go_enter Tryz.func135,Tryz.ntmps135
 go_upto_region 1 with fail
 rw [← hW2]
 clear hW2
 by_cases h0:e0=0
 · subst h0
   have hcall:=rtakeText_any HB.out.2.2.2 most hmost ht
   rw [HN.out] at hcall
   go_upto_region 4 with (go_at_call 164;refine hcall.mono ?_;rintro e w1 ⟨c,rfl,rfl,k1,k2,k3⟩)
   rw [HN.out] at k1
   by_cases h2:e1=0
   · subst h2
     obtain rfl:=k2 rfl
     go_wp2_with fail
     by_cases hcc:cp=c
     · subst hcc
       obtain rfl:n=cp:=by omega
       have mv:Mod [] w1 w1.drew:=(Mod.refl _ _).drew
       refine pB 7 (fun w2=>w2=w1.drew) rfl ?_
       generalize w1.drew=V at mv ⊢
       clear C1 C2 F1 F2 L1 L2
       have D1:=blk_cell (mv.at_ HB.out.2.1 (by simp));have G1:=blk_free (mv.at_ HB.out.2.1 (by simp));have K1:=lt_of_block (mv.at_ HB.out.2.1 (by simp))
       have D2:=blk_cell (mv.at_ HB.out.2.2.1 (by simp));have G2:=blk_free (mv.at_ HB.out.2.2.1 (by simp));have K2:=lt_of_block (mv.at_ HB.out.2.2.1 (by simp))
       refine pP 0 ?_;refine pP 1 ?_
       refine pT 2 rfl [4,5,7] (fun w2 h=>by rw [h];go_simp;try with_reducible rfl) ?_
       refine pP 3 ?_;refine pP 4 ?_;refine pP 5 ?_;refine pP 6 ?_
       refine pY 7 fun hT K HK=>?_
       go_simp
       have z:=rdr_end (HB.out.1.then mv) (mv.at_ HB.out.2.2.1 (by simp)) (.slice q 0 0) (.int .i64 0)
       obtain ⟨X,hX⟩:∃ X,X=(V.setCell ⟨w.heap.size+1,0,none⟩ (.slice q 0 0)).setCell ⟨w.heap.size+1,1,none⟩ (.int .i64 0):=⟨_,rfl⟩
       rw [← hX] at z ⊢
       refine HK.out _ _ _ ?_
       clear HK K hT D1 G1 K1 D2 G2 K2 hX
       refine pD ?_
       go_wp2_with fail
       have hl:(b.drop n).length=0:=by rw [List.length_drop,HN.out];omega
       refine bodyPost_ret (v:=.tuple #[.string ⟨s.toArray⟩,.agg #[.slice q 0 0,.int .i64 0]]) (res_tc Tryz.results135 _ _ rfl z.1 haE hzE rfl) rfl ⟨q,0,by rw [hl],?_,?_,z.2⟩
       · rw [hl]
         have h:=(HU.out.mod z.2 (by simp)).cut0 rfl (by rw [HN.out];exact Nat.le_refl _)
         rw [HN.out,Nat.sub_self] at h
         exact h
       · rw [hl];exact fun k hk=>ob_same _ _ _ _ _ k hk
     · skip
       have mv:Mod [] w1 w1.drew:=(Mod.refl _ _).drew
       refine pB 7 (fun w2=>w2=w1.drew) rfl ?_
       generalize w1.drew=V at mv ⊢
       clear C1 C2 F1 F2 L1 L2
       have D1:=blk_cell (mv.at_ HB.out.2.1 (by simp));have G1:=blk_free (mv.at_ HB.out.2.1 (by simp));have K1:=lt_of_block (mv.at_ HB.out.2.1 (by simp))
       have D2:=blk_cell (mv.at_ HB.out.2.2.1 (by simp));have G2:=blk_free (mv.at_ HB.out.2.2.1 (by simp));have K2:=lt_of_block (mv.at_ HB.out.2.2.1 (by simp))
       refine pP 0 ?_;refine pP 1 ?_
       refine pT 2 rfl [4,5,7] (fun w2 h=>by rw [h];go_simp;try with_reducible rfl) ?_
       refine pP 3 ?_;refine pP 4 ?_;refine pP 5 ?_;refine pP 6 ?_
       refine pY 7 fun hT K HK=>?_
       go_simp
       have z:=rdr_end (HB.out.1.then mv) (mv.at_ HB.out.2.2.1 (by simp)) (.slice (q.map fun x=>x.add c) (n - c) (cp - c)) (.int .i64 0)
       obtain ⟨X,hX⟩:∃ X,X=(V.setCell ⟨w.heap.size+1,0,none⟩ (.slice (q.map fun x=>x.add c) (n - c) (cp - c))).setCell ⟨w.heap.size+1,1,none⟩ (.int .i64 0):=⟨_,rfl⟩
       rw [← hX] at z ⊢
       refine HK.out _ _ _ ?_
       clear HK K hT D1 G1 K1 D2 G2 K2 hX
       refine pD ?_
       go_wp2_with fail
       have hl:(b.drop c).length=n - c:=by rw [List.length_drop,HN.out]
       refine bodyPost_ret (v:=.tuple #[.string ⟨s.toArray⟩,.agg #[.slice (q.map fun x=>x.add c) (n - c) (cp - c),.int .i64 0]]) (res_tc Tryz.results135 _ _ rfl z.1 haE hzE rfl) rfl ⟨_,_,by rw [hl],?_,?_,z.2⟩
       · rw [hl]
         have h:=(HU.out.mod z.2 (by simp)).cut (by rw [HN.out];exact k1)
         rw [HN.out] at h
         exact h
       · rw [hl];exact fun k hk=>ob_cut _ _ _ _ _ _ k hk
   · have h2':(e1 != 0)=true:=by simp;omega
     obtain ⟨rfl,rfl⟩:=k3 h2
     go_wp2_with fail
     have mv:Mod [] w1 w1.drew:=(Mod.refl _ _).drew
     refine pB 5 (fun w2=>w2=w1.drew) rfl ?_
     generalize w1.drew=V at mv ⊢
     clear C1 C2 F1 F2 L1 L2
     have D1:=blk_cell (mv.at_ HB.out.2.1 (by simp));have G1:=blk_free (mv.at_ HB.out.2.1 (by simp));have K1:=lt_of_block (mv.at_ HB.out.2.1 (by simp))
     have D2:=blk_cell (mv.at_ HB.out.2.2.1 (by simp));have G2:=blk_free (mv.at_ HB.out.2.2.1 (by simp));have K2:=lt_of_block (mv.at_ HB.out.2.2.1 (by simp))
     refine pP 0 ?_
     refine pT 1 rfl [3,5] (fun w2 h=>by rw [h];go_simp;try with_reducible rfl) ?_
     refine pP 2 ?_;refine pP 3 ?_;refine pP 4 ?_
     refine pY 5 fun hT K HK=>?_
     go_simp
     have z:=rdr_end (HB.out.1.then mv) (mv.at_ HB.out.2.2.1 (by simp)) (.slice q n cp) (.int .i64 e1)
     obtain ⟨X,hX⟩:∃ X,X=(V.setCell ⟨w.heap.size+1,0,none⟩ (.slice q n cp)).setCell ⟨w.heap.size+1,1,none⟩ (.int .i64 e1):=⟨_,rfl⟩
     rw [← hX] at z ⊢
     refine HK.out _ _ _ ?_
     clear HK K hT D1 G1 K1 D2 G2 K2 hX
     refine pD ?_
     go_wp2_with fail
     refine bodyPost_ret (v:=.tuple #[.string ⟨#[]⟩,.agg #[.slice q n cp,.int .i64 e1]]) (res_tc Tryz.results135 _ _ rfl z.1 haE hzE rfl) rfl ⟨q,cp,by rw [HN.out],HU.out.mod z.2 (by simp),fun k hk=>by rw [HN.out] at hk;exact hk,z.2⟩
 · have h0':(e0 != 0)=true:=by simp;omega
   unfold rdText at ht
   rw [if_pos h0] at ht
   obtain ⟨rfl,rfl,rfl⟩:[]=s∧b=r∧e0=e1:=by simpa using ht
   go_wp2_with fail
   have mv:Mod [] W2 W2.drew:=(Mod.refl _ _).drew
   refine pB 2 (fun w2=>w2=W2.drew) rfl ?_
   generalize W2.drew=V at mv ⊢
   clear C1 C2 F1 F2 L1 L2
   have D1:=blk_cell (mv.at_ HB.out.2.1 (by simp));have G1:=blk_free (mv.at_ HB.out.2.1 (by simp));have K1:=lt_of_block (mv.at_ HB.out.2.1 (by simp))
   have D2:=blk_cell (mv.at_ HB.out.2.2.1 (by simp));have G2:=blk_free (mv.at_ HB.out.2.2.1 (by simp));have K2:=lt_of_block (mv.at_ HB.out.2.2.1 (by simp))
   refine pT 0 rfl [2] (fun w2 h=>by rw [h];go_simp;try with_reducible rfl) ?_
   refine pP 1 ?_
   refine pY 2 fun hT K HK=>?_
   go_simp
   have z:=rdr_end (HB.out.1.then mv) (mv.at_ HB.out.2.2.1 (by simp)) (.slice q n cp) (.int .i64 e0)
   obtain ⟨X,hX⟩:∃ X,X=(V.setCell ⟨w.heap.size+1,0,none⟩ (.slice q n cp)).setCell ⟨w.heap.size+1,1,none⟩ (.int .i64 e0):=⟨_,rfl⟩
   rw [← hX] at z ⊢
   refine HK.out _ _ _ ?_
   clear HK K hT D1 G1 K1 D2 G2 K2 hX
   refine pD ?_
   go_wp2_with fail
   refine bodyPost_ret (v:=.tuple #[.string ⟨#[]⟩,.agg #[.slice q n cp,.int .i64 e0]]) (res_tc Tryz.results135 _ _ rfl z.1 haE hzE rfl) rfl ⟨q,cp,by rw [HN.out],HU.out.mod z.2 (by simp),fun k hk=>by rw [HN.out] at hk;exact hk,z.2⟩
end Go.Proofs.YtpphoeimakjjdaaGreatDoor
