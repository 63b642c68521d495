/-
  GtU GtR GtW GtC GtG GtH GtJ GtK GtL GtY: see the remarks below.
-/
import Derived.Test.YtllljngpgjkdiaaGreatDoorMGtX
import Derived.Test.YtllljngpgjkdiaaGreatDoorShelfDel
import Derived.Shelf.SlicesE.DeleteFunc
import Derived.Test.YtllljngpgjkdiaaGreatDoorMWc
/-
  WALKS: layer 16: unexpired, room.
-/
namespace Go.Proofs.YtllljngpgjkdiaaGreatDoor
set_option maxRecDepth 100000
set_option maxHeartbeats 1000000
open Go.RowKit Go.Maps Go.Sort Go.Shelf Go.Lib

abbrev W64:={ x:Int // (Lit.int .i64 x).wf=true }
instance:Inhabited W64:=⟨⟨0,by decide⟩⟩
def encW (x:W64):Value:=.int .i64 x.1
section
variable {w:World} {pg:Nat} {b:GB} {d:Dk} {g:Gtr}
theorem gone1_any {b1 b2 nb:Nat} {nt:List (Int × Nt)} {now:Int} (h1:w.cell? ⟨b1,0,none⟩=some (.pointer (some ⟨pg,0,none⟩))) (h2:w.cell? ⟨b2,0,none⟩=some (.int .i64 now)) (h3:w.cell? ⟨pg,2,none⟩=some (.map (some nb))) (hn:MapL iK w nb (nt.map ntV)) (x:W64) :
 FnGives Tryz.prog 91 #[.pointer (some ⟨b1,0,none⟩),.pointer (some ⟨b2,0,none⟩)] #[encW x] (.bool (goneB nt now x.1)) w:=by
 show Calls Tryz.prog 91 #[.int .i64 x.1,.pointer (some ⟨b1,0,none⟩),.pointer (some ⟨b2,0,none⟩)] w _
 have hlk:∀ W:World,Mod [] w W→(Instr.lookup 79 (.map (some nb)) (.int .i64 x.1) false).run Tryz.prog W=.ok (aggN (ntAt nt x.1)) W:=fun W m=>by
  have q:=(hn.mod m (by simp)).look Tryz.underlying79 (z:=.agg #[.int .i64 0,.int .i64 0,.int .i64 0]) (by kernel_rfl) false (x:=x.1) x.2
  rw [getM_ntV] at q
  exact q
 have hl:=hlk w.drew ((Mod.refl _ _).drew)
 have hfl:∀ (a c d:Int) (W:World),(Instr.field 96 (.agg #[.int .i64 a,.int .i64 c,.int .i64 d]) 0).run Tryz.prog W=.ok (.int .i64 a) W:=by intro a c d W;kernel_rfl
 unfold aggN at hl
 obtain ⟨r,hr⟩:∃ r,goneB nt now x.1=r:=⟨_,rfl⟩
 rw [hr]
 unfold goneB at hr
 have hpg:=World.block_lt_of_cell? w _ h3
 have hb1:=World.block_lt_of_cell? w _ h1
 have hb2:=World.block_lt_of_cell? w _ h2
 generalize ntAt nt x.1=n at hl hr
 obtain ⟨e,o,k⟩:=n
 simp only at hl hr
 clear hn hlk
 go_enter Tryz.func91,Tryz.ntmps91
 go_wp2_with fail
 go_still_tail 9,(by kernel_rfl)
 change wpList _ _ _ _ _ w.drew
 go_wp2_with fail
 go_ret
 exact ⟨rfl,1,rfl⟩
theorem mod_putRow (enc:W64→Value) (w:World) (n blk off:Nat) (dk:Array W64):Mod [blk] w (putRow enc (Sort.ahead w n) blk off dk):=by
 refine ⟨rfl,rfl,rfl,by show _≤(putRow enc (Sort.ahead w n) blk off dk).heap.size;simp [putRow,mapBlock,Sort.ahead],fun k hk hn=>?_⟩
 have hne:k≠blk:=by simpa using hn
 show ((Sort.ahead w n).heap.modify blk _)[k]?=_
 rw [Array.getElem?_modify,if_neg (Ne.symm hne)]
 rfl
theorem mod_sortWorld (enc:W64→Value) (w:World) (blk off n:Nat) (dk:Array W64) (os:Array Obj):Mod [blk] w (sortWorld enc w blk off n dk os):=by
 have h:Gr (putRow enc (Sort.ahead w n) blk off dk) (sortWorld enc w blk off n dk os):=⟨0,os,rfl⟩
 exact (mod_putRow enc w n blk off dk).gr h
def unexpN (nt:List (Int × Nt)) (now:Int) (ids:List Int):Nat:=(unexp nt ids now).length
theorem to_w64:∀ (ids:List Int),(∀ i,i∈ids→(Lit.int .i64 i).wf=true)→∃ dl:List W64,dl.map Subtype.val=ids
 | [],_=>⟨[],rfl⟩
 | i::r,h=>by
   obtain ⟨dl,hd⟩:=to_w64 r (fun j hj=>h j (List.mem_cons_of_mem _ hj))
   exact ⟨⟨i,h i List.mem_cons_self⟩::dl,by rw [List.map_cons,hd]⟩
theorem index0_any (w:World) (c:Nat) (f:Value):Calls Tryz.prog 124 #[.slice none 0 c,f] w fun e w'=>e=.returned (.int .i64 (-1))∧w'=w:=by
 go_enter Tryz.func124,Tryz.ntmps124
 go_wp2_with fail
 go_loopw [8] (fun i wr=>i=.int .i64 0∧wr=w) (fun i _=>0)
 case atStart=>exact ⟨rfl,rfl⟩
 case round =>
  obtain ⟨rfl,rfl⟩:=hrel
  go_wp2_with fail
  go_ret
  exact ⟨rfl,rfl⟩
theorem delint_any {b1 b2 nb:Nat} {nt:List (Int × Nt)} {now:Int} (h1:w.cell? ⟨b1,0,none⟩=some (.pointer (some ⟨pg,0,none⟩))) (h2:w.cell? ⟨b2,0,none⟩=some (.int .i64 now)) (h3:w.cell? ⟨pg,2,none⟩=some (.map (some nb))) (hn:MapL iK w nb (nt.map ntV))
 {v:Value} {ids:List Int} {base:Nat} (hr:RowN w base v ids) (hne:∀ k,v.ownBlock=some k→k≠b1∧k≠b2∧k≠pg∧k≠nb) (hi:∀ i,i∈ids→(Lit.int .i64 i).wf=true) (hl:ids.length≤1000) :
 Calls Tryz.prog 90 #[v,.func (.func 91) #[] #[.pointer (some ⟨b1,0,none⟩),.pointer (some ⟨b2,0,none⟩)]] w fun e w'=>∃ q c,e=.returned (.slice q (unexpN nt now ids) c)∧Mod (obl v) w w':=by
 obtain ⟨q,c,rfl,hqc,hf⟩:=row_form hr
 have hrn:=hr
 rcases hf with ⟨rfl,h0⟩ | ⟨gb,cur,rfl,hb,hg,hc1,hc2⟩
 · have hx:ids=[]:=List.length_eq_zero_iff.1 h0
   subst hx
   clear hr hrn hqc hn h1 h2 h3
   go_enter Tryz.func90,Tryz.ntmps90
   go_wp2_with (go_at_call 124;refine (index0_any _ _ _).mono ?_;rintro e w1 ⟨rfl,hx⟩;rw [hx];clear hx)
   go_ret
   exact ⟨none,c,rfl,Mod.refl _ _⟩
 · obtain ⟨dl,hdl⟩:=to_w64 ids hi
   have hln:dl.length=ids.length:=by rw [← hdl,List.length_map]
   obtain ⟨n1,n2,n3,n4⟩:=hne gb rfl
   have eg:∀ args w,(callFunc 91 args).run Tryz.prog w=.ok (.enter 91 args) w:=enters_of Tryz.func91 (by kernel_rfl) rfl
   have hp:PredAt Tryz.prog 91 #[.pointer (some ⟨b1,0,none⟩),.pointer (some ⟨b2,0,none⟩)] encW (fun x=>goneB nt now x.1) w:=fun W x hbel=>by
    have m:Mod [] w W:=⟨hbel.os,hbel.tape,hbel.output,hbel.size,fun k hk _=>hbel.block k hk⟩
    exact gone1_any (m.kept h1 (by simp)) (m.kept h2 (by simp)) (m.kept h3 (by simp)) (hn.mod m (by simp)) x
   have hpo:PredOver Tryz.prog 91 #[.pointer (some ⟨b1,0,none⟩),.pointer (some ⟨b2,0,none⟩)] encW (fun x=>goneB nt now x.1) gb 0 dl.toArray.size w:=fun n os dk x _=>by
    have m:=mod_sortWorld encW w gb 0 n dk os
    exact gone1_any (m.kept h1 (by simp;exact n1.symm)) (m.kept h2 (by simp;exact n2.symm)) (m.kept h3 (by simp;exact n3.symm)) (hn.mod m (by simp;exact n4.symm)) x
   have hH:Holds encW w gb 0 dl.toArray:=fun j hj=>by
    have hj':j<ids.length:=by simpa [hln] using hj
    refine ⟨?_,hrn.frozenAt _⟩
    rw [Nat.zero_add,hrn.cellAt j (by omega),← hdl]
    have hj2:j<dl.length:=by omega
    simp [hj2,encW]
   have hcon:=AnyE.slices_DeleteFunc Tryz.laysDelInt encW (fun _=>rfl) (fun x=>goneB nt now x.1) 91 #[.pointer (some ⟨b1,0,none⟩),.pointer (some ⟨b2,0,none⟩)] eg ⟨0,by decide⟩ Tryz.zeroValue3 gb 0 c dl.toArray w hp hpo hH (by simp;omega) (by simp;omega)
   change Calls Tryz.prog 90 _ _ _ at hcon
   have hsz:dl.toArray.size=ids.length:=by simp [hln]
   have hfl:(dl.toArray.toList.filter fun x=>!goneB nt now x.1).length=unexpN nt now ids:=by
    unfold unexpN unexp
    rw [← hdl,List.filter_map,List.length_map]
    rfl
   rw [hfl,hsz] at hcon
   refine hcon.mono ?_
   rintro e w' ⟨rfl,q0,rfl⟩
   refine ⟨_,_,rfl,?_⟩
   have:=mod_putRow encW w q0 gb 0 ((List.filter (fun x:W64=>!goneB nt now x.1) dl.toArray.toList++List.replicate (ids.length - unexpN nt now ids) (⟨0,by decide⟩:W64)).toArray)
   simpa [obl,Value.ownBlock] using this
theorem unexpired_any (h:GM w pg b d g) {v:Value} {ids:List Int} {base:Nat} (hr:RowN w base v ids) (hb:∀ k,v.ownBlock=some k→k ∉ b.all pg) (hi:∀ i,i∈ids→(Lit.int .i64 i).wf=true) (hl:ids.length≤1000) (now:Int) :
 Calls Tryz.prog 64 #[.pointer (some ⟨pg,0,none⟩),v,.int .i64 now] w fun e w'=>∃ q c,e=.returned (.slice q (unexpN g.nt now ids) c)∧Mod (obl v) w w':=by
 have b1:=blk_alloc (heap_alloc_new w (.cells #[.pointer (some ⟨pg,0,none⟩)] 27)) (.cells #[.int .i64 now] 3)
 have b2:=heap_alloc_new (w.alloc (.cells #[.pointer (some ⟨pg,0,none⟩)] 27)) (.cells #[.int .i64 now] 3)
 have m:=(((Mod.refl [] w).alloc (.cells #[.pointer (some ⟨pg,0,none⟩)] 27)).alloc (.cells #[.int .i64 now] 3))
 have e2:(w.alloc (.cells #[.pointer (some ⟨pg,0,none⟩)] 27)).heap.size=w.heap.size+1:=by simp
 rw [e2] at b2
 obtain ⟨w2,hw2⟩:∃ w2,w2=(w.alloc (.cells #[.pointer (some ⟨pg,0,none⟩)] 27)).alloc (.cells #[.int .i64 now] 3):=⟨_,rfl⟩
 rw [← hw2] at b1 b2 m
 have h2:=h.quiet m
 have hdel:=delint_any (b1:=w.heap.size) (b2:=w.heap.size+1) (by rw [blk_cell b1];rfl) (by rw [blk_cell b2];rfl) h2.c2 h2.nt (hr.mod m (by simp)) (fun k hk=>by
  have q:=hb k hk
  have q2:=(hr.own hk).2
  refine ⟨by omega,by omega,fun e=>q (mem_all.2 (.inl e)),fun e=>q (mem_all.2 (.inr (.inl e)))⟩) hi hl (now:=now)
 obtain ⟨q0,c0,hv⟩:=hr.form
 subst hv
 have M:=hide m
 have HW:=hide hw2
 clear m h2 h hr hb b1 b2
 go_enter Tryz.func64,Tryz.ntmps64
 go_wp2_with (go_at_call 90;rw [← HW.out];refine hdel.mono ?_;rintro e w3 ⟨q,c,rfl,m3⟩;have H3:=hide m3;clear m3 hdel)
 go_ret
 exact ⟨q,c,rfl,(M.out.mono (by simp)).then H3.out⟩
end
end Go.Proofs.YtllljngpgjkdiaaGreatDoor
/-
  WALKS: layer 16: room, Blocks.
-/
namespace Go.Proofs.YtllljngpgjkdiaaGreatDoor
set_option maxRecDepth 100000
set_option maxHeartbeats 2000000
open Go.RowKit Go.Maps

theorem clash_len {g:Gtr} (h:GI g) (p:List UInt8) (m who:Int):(clashS5 g.es p m who).length≤6:=by
 unfold clashS5
 rw [(sortI_perm _).length_eq,List.length_map]
 exact Nat.le_trans (List.length_filter_le _ _) h.len.1
theorem under_len {g:Gtr} (h:GI g):(underS5 g.es []).length≤6:=by
 rw [h.under,List.length_map];exact h.six
theorem clash_wf {g:Gtr} (h:GI g) {p:List UInt8} {m who:Int}:∀ i,i∈clashS5 g.es p m who→(Lit.int .i64 i).wf=true:=fun i hi=>by
 obtain ⟨x,hx,rfl,_⟩:=h.clash hi
 exact h.wf hx
theorem under_wf {g:Gtr} (h:GI g):∀ i,i∈underS5 g.es []→(Lit.int .i64 i).wf=true:=fun i hi=>by
 rw [h.under] at hi
 obtain ⟨x,hx,rfl⟩:=List.mem_map.1 hi
 exact h.wf hx
section
variable {w:World} {pg:Nat} {b:GB} {d:Dk} {g:Gtr}
theorem GM.q (h:GM w pg b d g):SetQ w (some ⟨b.sb,0,none⟩) b.N g.es:=.inl ⟨b.sb,b.wb,rfl,h.set⟩
theorem unexp_new {w1:World} (h:GM w pg b d g) (m:Mod [] w w1) {q:Option Addr} {c:Nat} {ids:List Int} (hr:RowN w1 w.heap.size (.slice q ids.length c) ids) (hi:∀ i,i∈ids→(Lit.int .i64 i).wf=true) (hl:ids.length≤6) (now:Int) {n:Nat} (hn:(unexp g.nt ids now).length=n) :
 Calls Tryz.prog 64 #[.pointer (some ⟨pg,0,none⟩),.slice q ids.length c,.int .i64 now] w1 fun e w'=>∃ q c,e=.returned (.slice q n c)∧Mod [] w w':=by
 have hlt:=h.lt
 refine (unexpired_any (h.quiet m) hr (fun k hk e=>by have:=hlt k e;have:=(hr.own hk).1;omega) hi (by omega) now).mono ?_
 rintro e w' ⟨q',c',rfl,m'⟩
 refine ⟨q',c',?_,mod_fresh m m' (fun k hk=>by have:=(hr.own (mem_obl.1 hk)).1;omega)⟩
 unfold unexpN
 rw [hn]
theorem room_any (h:GM w pg b d g) (hi:GI g) (r:Req) (v:Value) (hp:r.path.size≤9223372036854775807) :
 Calls Tryz.prog 43 #[.pointer (some ⟨pg,0,none⟩),aggQ r v] w fun e w'=>Says w (roomI g r) e w':=by
 obtain ⟨now,holder,t,⟨lf,li,lp,lm,la,lt,ls,le,lr⟩,path,mode⟩:=r
 obtain ⟨k,hk⟩:∃ k,roomI g ⟨now,holder,t,⟨lf,li,lp,lm,la,lt,ls,le,lr⟩,path,mode⟩=k:=⟨_,rfl⟩
 rw [hk]
 unfold roomI at hk
 unfold aggQ cellsQ
 simp only at hk hp ⊢
 have m1:=((Gr.refl w).alloc (objQ ⟨now,holder,t,⟨lf,li,lp,lm,la,lt,ls,le,lr⟩,path,mode⟩ v)).mod []
 have b1:=heap_alloc_new w (objQ ⟨now,holder,t,⟨lf,li,lp,lm,la,lt,ls,le,lr⟩,path,mode⟩ v)
 unfold objQ cellsQ at m1 b1
 simp only at m1 b1
 obtain ⟨w1,hw1⟩:∃ w1,w1=w.alloc (.cells #[.int .i64 now,.int .i64 holder,.int .i64 t,.int .i64 lf,.int .i64 li,.string lp,.int .i64 lm,v,.int .i64 lt,.int .i64 ls,.int .i64 le,.bool lr,.string path,.int .i64 mode] 84 (0,0)):=⟨_,rfl⟩
 rw [← hw1] at m1 b1
 have h1:=h.quiet m1
 obtain ⟨n1,hn1⟩:∃ n,(unexp g.nt (clashS5 g.es path.data.toList mode holder) now).length=n:=⟨_,rfl⟩
 obtain ⟨n2,hn2⟩:∃ n,(unexp g.nt (underS5 g.es []) now).length=n:=⟨_,rfl⟩
 have hle1:n1≤6:=by rw [← hn1];exact Nat.le_trans (List.length_filter_le _ _) (clash_len hi _ _ _)
 have hle2:n2≤6:=by rw [← hn2];exact Nat.le_trans (List.length_filter_le _ _) (under_len hi)
 rw [hn1,hn2] at hk
 have hcl:=fun (W:World) (m:Mod [] w1 W)=>clash_eq (h1.quiet m).q path hp mode holder rfl
 have hun:=fun (W:World) (m:Mod [] w1 W)=>under_eq (h1.quiet m).q (ByteArray.mk #[]) (by decide) rfl
 have HH:=hd5 h1 b1 hi hn1 hn2
 have HC:=hd2 hcl hun
 have M1:=hide m1
 have hpg:=lt_of_block h1.blk
 clear hcl hun h1 b1 hi h hn1 hn2 m1
 have CB:∀ W:World,Mod [] w1 W→∀ o,W.cell? ⟨w.heap.size,o,none⟩=_:=fun W m=>blk_cell (m.at_ HH.out.2.1 (by simp))
 have CG:∀ W:World,Mod [] w1 W→W.cell? ⟨pg,1,none⟩=some (.pointer (some ⟨b.sb,0,none⟩)):=fun W m=>(HH.out.1.quiet m).c1
 have HCB:=hide CB
 have HCG:=hide CG
 clear CB CG
 go_enter Tryz.func43,Tryz.ntmps43
 go_upto_region 1 with fail
 rw [← hw1]
 clear hw1
 refine pB 999 (Mod [] w1) ((Mod.refl [] w1).drew) ?_
 refine pP 0 ?_;refine pP 1 ?_;refine pP 2 ?_;refine pP 3 ?_
 refine pH 4 rfl (fun w h=>by have D:=HCG.out _ h;go_simp;try with_reducible rfl) ?_
 refine pP 5 ?_
 refine pH 6 rfl (fun w h=>by have D:=HCB.out _ h;go_simp;try with_reducible rfl) ?_
 refine pP 7 ?_
 refine pH 8 rfl (fun w h=>by have D:=HCB.out _ h;go_simp;try with_reducible rfl) ?_
 refine pP 9 ?_
 refine pH 10 rfl (fun w h=>by have D:=HCB.out _ h;go_simp;try with_reducible rfl) ?_
 refine pP 12 ?_
 refine pH 13 rfl (fun w h=>by have D:=HCB.out _ h;go_simp;try with_reducible rfl) ?_
 refine pX 11 fun hT K HK=>?_
 go_simp
 refine (HC.out.1 _ hT).mono ?_;rintro e w2 ⟨q2,c2,rfl,hr2,m2⟩
 have H2:=hd3 hT hr2 m2
 refine HK.out _ _ _ (hT.then m2) ?_
 clear HK K hT m2 hr2
 refine pX 14 fun hT K HK=>?_
 go_simp
 refine (unexp_new (HH.out.1.quiet H2.out.1) H2.out.2.2 H2.out.2.1 (clash_wf HH.out.2.2.1) (clash_len HH.out.2.2.1 _ _ _) now HH.out.2.2.2.1).mono ?_;rintro e w3 ⟨q3,c3,rfl,m3⟩
 have hm3:=H2.out.1.then m3
 refine HK.out _ _ _ hm3 ?_
 clear HK K hT m3 hm3
 refine pP 15 ?_;refine pP 16 ?_;refine pP 17 ?_
 refine pE fun hT=>?_
 have HT:=hide hT
 clear hT
 by_cases k1:0<n1
 · rw [if_pos k1] at hk
   subst hk
   go_wp2_with fail
   go_ret
   exact ⟨rfl,M1.out.then HT.out⟩
 rw [if_neg k1] at hk
 have k1':n1=0:=by omega
 clear k1
 go_upto_region 3 with fail
 refine pB 999 (Mod [] w1) HT.out.drew ?_
 refine pP 0 ?_;refine pP 1 ?_;refine pP 2 ?_;refine pP 3 ?_
 refine pH 4 rfl (fun w h=>by have D:=HCG.out _ h;go_simp;try with_reducible rfl) ?_
 refine pP 6 ?_
 refine pH 7 rfl (fun w h=>by have D:=HCB.out _ h;go_simp;try with_reducible rfl) ?_
 refine pX 5 fun hT K HK=>?_
 go_simp
 refine (HC.out.2 _ hT).mono ?_;rintro e w4 ⟨q4,c4,rfl,hr4,m4⟩
 have H4:=hd3 hT hr4 m4
 refine HK.out _ _ _ (hT.then m4) ?_
 clear HK K hT m4 hr4
 refine pX 8 fun hT K HK=>?_
 go_simp
 refine (unexp_new (HH.out.1.quiet H4.out.1) H4.out.2.2 H4.out.2.1 (under_wf HH.out.2.2.1) (under_len HH.out.2.2.1) now HH.out.2.2.2.2).mono ?_;rintro e w5 ⟨q5,c5,rfl,m5⟩
 have hm5:=H4.out.1.then m5
 refine HK.out _ _ _ hm5 ?_
 clear HK K hT m5 hm5
 refine pP 9 ?_;refine pP 10 ?_;refine pP 11 ?_
 refine pE fun hT=>?_
 have HT5:=hide hT
 clear hT
 by_cases k2:6≤n2
 · rw [if_pos k2] at hk
   subst hk
   have d2:(6:Int)≤(n2:Int):=by omega
   go_wp2_with fail
   go_ret
   exact ⟨rfl,M1.out.then HT5.out⟩
 rw [if_neg k2] at hk
 subst hk
 have d2:¬ (6:Int)≤(n2:Int):=by omega
 go_wp2_with fail
 go_ret
 exact ⟨rfl,M1.out.then HT5.out⟩
end
end Go.Proofs.YtllljngpgjkdiaaGreatDoor
/-
  WALKS: layer 16: sweep; Grant's closures.
-/
namespace Go.Proofs.YtllljngpgjkdiaaGreatDoor
set_option maxRecDepth 100000
set_option maxHeartbeats 2000000
open Go.RowKit Go.Maps

section
variable {w:World} {pg:Nat} {b:GB} {d:Dk} {g:Gtr}
def SwpRel (w1:World) (pg:Nat) (b:GB) (now:Int) (ids:List Int) (R:Int × Dk × Gtr) (i:Value) (wr:World):Prop :=
 ∃ (j:Nat) (b':GB) (d':Dk) (g':Gtr),i=.int .i64 (j:Int)∧j≤ids.length∧GM wr pg b' d' g'∧GTo w1 pg b wr b'∧GI g'∧49≤d'.secs.length∧Hid (sweepG now (ids.drop j) d' g'=R)
theorem sweep_any (h:GM w pg b d g) (hi:GI g) (h49:49≤d.secs.length) (now:Int) :
 Calls Tryz.prog 49 #[.pointer (some ⟨pg,0,none⟩),.int .i64 now] w fun e w'=>GmTo w pg b (sweepG now (underS5 g.es []) d g) e w':=by
 have hun:=under_eq h.q (ByteArray.mk #[]) (by decide) (xs:=underS5 g.es []) rfl
 have hwf:=under_wf hi
 obtain ⟨ids,hids⟩:∃ ids,underS5 g.es []=ids:=⟨_,rfl⟩
 have hln:ids.length≤6:=by rw [← hids];exact under_len hi
 rw [hids] at hun hwf ⊢
 obtain ⟨R,hR⟩:∃ R,sweepG now ids d g=R:=⟨_,rfl⟩
 rw [hR]
 have C1:=h.c1
 have hpg:=lt_of_block h.blk
 have HH:=hd5 h hi h49 hR hwf
 clear h hi h49 hR hwf hids
 go_enter Tryz.func49,Tryz.ntmps49
 go_wp2_with (go_at_call 80;refine hun.mono ?_;rintro e w1 ⟨q,c,rfl,hr,hm⟩;have H1:=hd2 hr hm;clear hr hm hun C1)
 obtain ⟨n,hn⟩:∃ n,ids.length=n:=⟨_,rfl⟩
 rw [hn]
 go_loopw [14] (fun i wr=>SwpRel w1 pg b now ids R i wr) (fun i _=>n - (intOf i).toNat)
 case atStart=>exact ⟨0,b,d,g,rfl,Nat.zero_le _,HH.out.1.quiet H1.out.2,GTo.refl _ _ _,HH.out.2.1,HH.out.2.2.1,hide (by rw [List.drop_zero];exact HH.out.2.2.2.1)⟩
 case round =>
  obtain ⟨j,b',d',g',rfl,hj,hg,ht,hi',h49',hrest⟩:=hrel
  have hlt:=HH.out.1.lt
  have hrow:=H1.out.1.mod ht.mod (fun k hk e=>by have:=hlt k e;have:=(H1.out.1.own hk).1;omega)
  by_cases hlj:j<n
  · have hjl:j<ids.length:=by omega
    obtain ⟨bk,o,hqe,hbk,hcell⟩:=(rdN_of_row hrow).at_ j hjl
    have hrs:=hrest.out
    rw [List.drop_eq_getElem_cons hjl] at hrs
    have hid:ids.getD j 0=ids[j]:=by simp [hjl]
    rw [hid] at hcell
    have hwf:=HH.out.2.2.2.2 _ (List.getElem_mem hjl)
    have hlk:=hg.look hwf
    have hov:=over_any hg hi' h49' _ hwf
    generalize ids[j]=id at hcell hrs hwf hlk hov
    unfold sweepG at hrs
    obtain ⟨⟨ne,no,nn⟩,hnt⟩:∃ n,ntAt g'.nt id=n:=⟨_,rfl⟩
    rw [hnt] at hlk hrs
    unfold aggN at hlk
    simp only at hlk hrs
    have hfl:∀ (a c d:Int) (W:World),(Instr.field 96 (.agg #[.int .i64 a,.int .i64 c,.int .i64 d]) 0).run Tryz.prog W=.ok (.int .i64 a) W:=by intro a c d W;kernel_rfl
    have C2:=hg.c2
    have hpg':=lt_of_block hg.blk
    have i1:(0:Int)≤(j:Int):=by omega
    have i2:(j:Int)<(n:Int):=by omega
    have HX:=hd5 hg ht hi' h49' hj
    cases hqe
    clear hg ht hi' h49' hrow hrest hwf hnt hid hbk
    by_cases he:now<ne
    · have HR:=hide hrs
      clear hrs hov
      go_wp2_with fail
      go_roundw
      case rel=>exact ⟨j+1,b',d',g',by go_num,by omega,HX.out.1,HX.out.2.1,HX.out.2.2.1,HX.out.2.2.2.1,hide (by have:=HR.out;rw [if_pos (by simpa using he)] at this;exact this)⟩
      case measure=>simp [intOf];omega
    · rw [if_neg he] at hrs
      have he':ne≤now:=by omega
      have hgi:=HX.out.2.2.1.over d' id
      have hol:=over_len d' g' id
      obtain ⟨⟨k,dk,gk⟩,hp⟩:∃ p,overG d' g' id=p:=⟨_,rfl⟩
      rw [hp] at hrs hov hgi hol
      simp only at hrs hgi hol
      have hov:=hov.mono (R':=fun e w'=>e=.returned (.int .i64 k)∧∃ b2,GM w' pg b2 dk gk∧GTo wr pg b' w' b2) (fun e w' hx=>hx)
      have HR:=hd3 hrs hgi.1 hol
      clear hrs hgi hol hp he
      by_cases hk:k=0
      · subst hk
        go_wp2_with (go_at_call 61;refine hov.mono ?_;rintro e w2 ⟨rfl,b2,h2,t2⟩;have H2:=hd2 h2 t2;clear h2 t2 hov)
        go_roundw
        case rel=>exact ⟨j+1,b2,dk,gk,by go_num,by omega,H2.out.1,HX.out.2.1.trans H2.out.2,HR.out.2.1,by rw [HR.out.2.2];exact HX.out.2.2.2.1,hide (by have:=HR.out.1;rw [if_pos (by simp)] at this;exact this)⟩
        case measure=>simp [intOf];omega
      · have hkb:(k==0)=false:=by simpa using hk
        have hkn:(k != 0)=true:=by simpa using hk
        go_wp2_with (go_at_call 61;refine hov.mono ?_;rintro e w2 ⟨rfl,b2,h2,t2⟩;have H2:=hd2 h2 t2;clear h2 t2 hov)
        go_ret
        have hr:=HR.out.1
        rw [if_neg hk] at hr
        rw [← hr]
        exact ⟨rfl,b2,H2.out.1,((GTo.quiet H1.out.2).trans HX.out.2.1).trans H2.out.2⟩
  · obtain rfl:j=n:=by omega
    have HX:=hd3 hg ht hrest.out
    clear hg ht hi' h49' hrow hrest
    go_wp2_with fail
    go_ret
    have hr:=HX.out.2.2
    rw [List.drop_eq_nil_of_le (by omega)] at hr
    unfold sweepG at hr
    rw [← hr]
    exact ⟨rfl,b',HX.out.1,(GTo.quiet H1.out.2).trans HX.out.2.1⟩
end
end Go.Proofs.YtllljngpgjkdiaaGreatDoor
/-
  WALKS: layer 16: Grant's closures.
-/
namespace Go.Proofs.YtllljngpgjkdiaaGreatDoor
set_option maxRecDepth 100000
set_option maxHeartbeats 1000000
open Go.RowKit Go.Maps

structure GBx (w:World) (pg:Nat) (b:GB) (x:Nat) (v:Value):Prop where
 cell:w.cell? ⟨x,0,none⟩=some v
 ap:x ∉ b.all pg
section
variable {w w':World} {pg:Nat} {b b':GB} {d:Dk} {g:Gtr} {x:Nat} {v:Value}
theorem GBx.lt (h:GBx w pg b x v):x<w.heap.size:=World.block_lt_of_cell? w _ h.cell
theorem GBx.to (h:GBx w pg b x v) (t:GTo w pg b w' b'):GBx w' pg b' x v:=by
 refine ⟨t.mod.kept h.cell h.ap,fun e=>?_⟩
 rcases t.own x e with e | e
 · exact h.ap e
 · have:=h.lt;omega
theorem GBx.quiet (h:GBx w pg b x v) (m:Mod [] w w'):GBx w' pg b x v:=⟨m.kept h.cell (by simp),h.ap⟩
variable {bg bn bt:Nat} {now t:Int}
theorem rested_any (h:GM w pg b d g) (h1:GBx w pg b bg (.pointer (some ⟨pg,0,none⟩))) (h2:GBx w pg b bn (.int .i64 now)) :
 Calls Tryz.prog 41 #[.pointer (some ⟨bn,0,none⟩),.pointer (some ⟨bg,0,none⟩)] w fun e w'=>Says w (restedI g now) e w':=by
 obtain ⟨k,hk⟩:∃ k,restedI g now=k:=⟨_,rfl⟩
 rw [hk]
 unfold restedI at hk
 have C3:=h.c3
 have c1:=h1.cell
 have c2:=h2.cell
 have hpg:=lt_of_block h.blk
 generalize g.ends=en at C3 hk
 clear h h1 h2
 by_cases e:now<en
 · rw [if_pos e] at hk
   subst hk
   go_enter Tryz.func41,Tryz.ntmps41
   go_wp2_with fail
   go_still_tail 5,(by kernel_rfl)
   change wpList _ _ _ _ _ w.drew
   go_wp2_with fail
   go_ret
   exact ⟨rfl,(Mod.refl _ _).drew⟩
 · rw [if_neg e] at hk
   have e':en≤now:=by omega
   subst hk
   go_enter Tryz.func41,Tryz.ntmps41
   go_wp2_with fail
   go_still_tail 5,(by kernel_rfl)
   change wpList _ _ _ _ _ w.drew
   go_wp2_with fail
   go_ret
   exact ⟨rfl,(Mod.refl _ _).drew⟩
theorem free_any (h:GM w pg b d g) (hi:GI g) {br:Nat} {r:Req} {v:Value} (hp:r.path.size≤9223372036854775807) (h1:GBx w pg b bg (.pointer (some ⟨pg,0,none⟩))) (hb:w.heap[br]?=some (objQ r v)) :
 Calls Tryz.prog 42 #[.pointer (some ⟨bg,0,none⟩),.pointer (some ⟨br,0,none⟩)] w fun e w'=>Says w (roomI g r) e w':=by
 have hr:=room_any h hi r v hp
 have CB:=blk_cell hb
 have c1:=h1.cell
 generalize roomI g r=k at hr ⊢
 obtain ⟨now,holder,t,⟨lf,li,lp,lm,la,lt,ls,le,lr⟩,path,mode⟩:=r
 unfold aggQ cellsQ at hr
 unfold cellsQ at CB
 simp only at hr CB
 clear h hi h1 hb hp
 go_enter Tryz.func42,Tryz.ntmps42
 go_wp2_with (go_at_call 43;refine hr.mono ?_;rintro e w1 ⟨rfl,hm⟩;have H:=hide hm;clear hm hr CB)
 go_ret
 exact ⟨rfl,H.out⟩
theorem write1_any (h:GM w pg b d g) (hi:GI g) (h49:49≤d.secs.length) (h1:GBx w pg b bg (.pointer (some ⟨pg,0,none⟩))) (h2:GBx w pg b bt (.int .i64 t)) :
 Calls Tryz.prog 46 #[.pointer (some ⟨bg,0,none⟩),.pointer (some ⟨bt,0,none⟩)] w fun e w'=>GmTo w pg b (longG d g t) e w':=by
 have hl:=long_any h hi h49 t
 have c1:=h1.cell
 have c2:=h2.cell
 generalize longG d g t=p at hl ⊢
 have hl:=hl.mono (R':=fun e w'=>e=.returned (.int .i64 p.1)∧∃ b',GM w' pg b' p.2.1 p.2.2∧GTo w pg b w' b') (fun e w' hx=>hx)
 obtain ⟨k,dk,gk⟩:=p
 simp only at hl
 clear h hi h49 h1 h2
 go_enter Tryz.func46,Tryz.ntmps46
 go_wp2_with (go_at_call 47;refine hl.mono ?_;rintro e w1 ⟨rfl,b1,g1,t1⟩;have H:=hd2 g1 t1;clear g1 t1 hl c1 c2)
 go_ret
 exact ⟨rfl,b1,H.out⟩
theorem write2_any (h:GM w pg b d g) (hi:GI g) (h49:49≤d.secs.length) (h1:GBx w pg b bg (.pointer (some ⟨pg,0,none⟩))) (h2:GBx w pg b bn (.int .i64 now)) :
 Calls Tryz.prog 48 #[.pointer (some ⟨bg,0,none⟩),.pointer (some ⟨bn,0,none⟩)] w fun e w'=>GmTo w pg b (sweepG now (underS5 g.es []) d g) e w':=by
 have hl:=sweep_any h hi h49 now
 have c1:=h1.cell
 have c2:=h2.cell
 generalize sweepG now (underS5 g.es []) d g=p at hl ⊢
 have hl:=hl.mono (R':=fun e w'=>e=.returned (.int .i64 p.1)∧∃ b',GM w' pg b' p.2.1 p.2.2∧GTo w pg b w' b') (fun e w' hx=>hx)
 obtain ⟨k,dk,gk⟩:=p
 simp only at hl
 clear h hi h49 h1 h2
 go_enter Tryz.func48,Tryz.ntmps48
 go_wp2_with (go_at_call 49;refine hl.mono ?_;rintro e w1 ⟨rfl,b1,g1,t1⟩;have H:=hd2 g1 t1;clear g1 t1 hl c1 c2)
 go_ret
 exact ⟨rfl,b1,H.out⟩
theorem eg_46:∀ args w,(callFunc 46 args).run Tryz.prog w=.ok (.enter 46 args) w:=enters_of Tryz.func46 (by kernel_rfl) rfl
theorem eg_48:∀ args w,(callFunc 48 args).run Tryz.prog w=.ok (.enter 48 args) w:=enters_of Tryz.func48 (by kernel_rfl) rfl
theorem gwrite_any (h:GM w pg b d g) (hi:GI g) (h49:49≤d.secs.length) (h1:GBx w pg b bg (.pointer (some ⟨pg,0,none⟩))) (h2:GBx w pg b bt (.int .i64 t)) (h3:GBx w pg b bn (.int .i64 now)) {r:Req} (hr1:r.now=now) (hr2:r.t=t) :
 Calls Tryz.prog 44 #[.pointer (some ⟨bg,0,none⟩),.pointer (some ⟨bt,0,none⟩),.pointer (some ⟨bn,0,none⟩)] w fun e w'=>GmTo w pg b (writeG d g r) e w':=by
 obtain ⟨p,hp⟩:∃ p,writeG d g r=p:=⟨_,rfl⟩
 rw [hp]
 unfold writeG at hp
 rw [hr1,hr2] at hp
 obtain ⟨L,hL⟩:∃ L:List Value,L=[.func (.func 46) #[] #[.pointer (some ⟨bg,0,none⟩),.pointer (some ⟨bt,0,none⟩)],.func (.func 48) #[] #[.pointer (some ⟨bg,0,none⟩),.pointer (some ⟨bn,0,none⟩)]]:=⟨_,rfl⟩
 obtain ⟨w1,hw1⟩:∃ w1,w1=w.alloc (.cells L.toArray 85 (0,0)):=⟨_,rfl⟩
 have m1:Mod [] w w1:=by rw [hw1];exact (Mod.refl _ _).alloc _
 have hb1:w1.heap[w.heap.size]?=some (.cells L.toArray 85 (0,0)):=by rw [hw1];exact heap_alloc_new w _
 have hfp:FirstP Tryz.prog w.heap.size L w1 (fun k w'=>k=p.1∧∃ b',GM w' pg b' p.2.1 p.2.2∧GTo w pg b w' b'):=by
  rw [hL]
  have hB:∀ {W W':World} {bb:GB},GTo w1 pg b W bb→Mod (bb.all pg) W W'→W'.heap[w.heap.size]?=W.heap[w.heap.size]?:=fun {W W' bb} t m=>by
   have hlt:=h.lt
   have h1':=lt_of_block hb1
   have h2':=t.mod.size
   refine m.block _ (by omega) (fun e=>?_)
   rcases t.own _ e with e | e
   · have:=hlt _ e;omega
   · omega
  refine fst_cons eg_46 (write1_any (h.quiet m1) hi h49 (h1.quiet m1) (h2.quiet m1)) ?_
  rintro e w2 ⟨rfl,b2,g2,t2⟩
  refine ⟨_,rfl,hB (GTo.refl _ _ _) t2.mod,fun hk=>?_,fun hk=>?_⟩
  · rw [if_neg hk] at hp
    subst hp
    exact ⟨rfl,b2,g2,(GTo.quiet m1).trans t2⟩
  · rw [if_pos hk] at hp
    obtain ⟨l1,l2,_⟩:=hi.long d t
    refine fst_cons eg_48 (write2_any g2 l1 (by rw [long_len];exact h49) ((h1.quiet m1).to t2) ((h3.quiet m1).to t2)) ?_
    rintro e w3 ⟨rfl,b3,g3,t3⟩
    rw [hp] at g3 ⊢
    exact ⟨_,rfl,hB t2 t3.mod,fun _=>⟨rfl,b3,g3,((GTo.quiet m1).trans t2).trans t3⟩,fun e=>⟨e.symm,b3,g3,((GTo.quiet m1).trans t2).trans t3⟩⟩
 have hln:L.length=2:=by rw [hL];rfl
 have hfi:=firstf_any hb1 hfp (by rw [hln];decide)
 rw [hln] at hfi
 have HW:=hide hw1
 have HL:=hide hL
 clear hp hfp h hi h49 h1 h2 h3 m1 hb1 hw1
 go_enter Tryz.func44,Tryz.ntmps44
 go_wp2_with (go_at_call 45;rw [← HL.out,← HW.out];refine hfi.mono ?_;rintro e w2 ⟨k,rfl,rfl,b2,g2,t2⟩;have H:=hd2 g2 t2;clear g2 t2 hfi)
 go_ret
 exact ⟨rfl,b2,H.out⟩
end
end Go.Proofs.YtllljngpgjkdiaaGreatDoor
/-
  WALKS: layer 16: Grant.
-/
namespace Go.Proofs.YtllljngpgjkdiaaGreatDoor
open Go.RowKit Go.Maps

theorem fst_says {P:Program} {B:Nat} {r:List Value} {w0 w:World} {Q:Int→World→Prop} {fn:FuncId} {rv lb:Array Value} {k:Int} (hB:B<w0.heap.size) (m:Mod [] w0 w) (eg:∀ args w,(callFunc fn args).run P w=.ok (.enter fn args) w)
 (hc:∀ W,Mod [] w0 W→Calls P fn (rv++lb) W (Says W k)) (h1:k≠0→∀ W,Mod [] w0 W→Q k W) (h2:k=0→∀ W,Mod [] w0 W→FirstP P B r W Q):FirstP P B (.func (.func fn) rv lb::r) w Q:=by
 refine fst_cons eg (hc w m) ?_
 rintro e w' ⟨rfl,m'⟩
 have hz:=m.size
 exact ⟨k,rfl,m'.block _ (by omega) (by simp),fun e=>h1 e w' (m.then m'),fun e=>h2 e w' (m.then m')⟩
section
theorem eg_41:∀ args w,(callFunc 41 args).run Tryz.prog w=.ok (.enter 41 args) w:=enters_of Tryz.func41 (by kernel_rfl) rfl
theorem eg_42:∀ args w,(callFunc 42 args).run Tryz.prog w=.ok (.enter 42 args) w:=enters_of Tryz.func42 (by kernel_rfl) rfl
theorem eg_44:∀ args w,(callFunc 44 args).run Tryz.prog w=.ok (.enter 44 args) w:=enters_of Tryz.func44 (by kernel_rfl) rfl
theorem eg_50:∀ args w,(callFunc 50 args).run Tryz.prog w=.ok (.enter 50 args) w:=enters_of Tryz.func50 (by kernel_rfl) rfl
theorem eg_51:∀ args w,(callFunc 51 args).run Tryz.prog w=.ok (.enter 51 args) w:=enters_of Tryz.func51 (by kernel_rfl) rfl
theorem eg_52:∀ args w,(callFunc 52 args).run Tryz.prog w=.ok (.enter 52 args) w:=enters_of Tryz.func52 (by kernel_rfl) rfl
theorem eg_53:∀ args w,(callFunc 53 args).run Tryz.prog w=.ok (.enter 53 args) w:=enters_of Tryz.func53 (by kernel_rfl) rfl
theorem eg_54:∀ args w,(callFunc 54 args).run Tryz.prog w=.ok (.enter 54 args) w:=enters_of Tryz.func54 (by kernel_rfl) rfl
theorem eg_55:∀ args w,(callFunc 55 args).run Tryz.prog w=.ok (.enter 55 args) w:=enters_of Tryz.func55 (by kernel_rfl) rfl
theorem eg_56:∀ args w,(callFunc 56 args).run Tryz.prog w=.ok (.enter 56 args) w:=enters_of Tryz.func56 (by kernel_rfl) rfl
end
theorem numbers_zero {r:Req} (h:numbersI r=0):timeOk r.now∧0≤r.holder∧r.holder<8:=by
 unfold numbersI at h
 split at h
 · assumption
 · cases h
theorem length_zero {r:Req} (h:lengthI r=0):legalT r.t:=by
 unfold lengthI at h
 split at h
 · assumption
 · cases h
section
variable {w:World} {pg:Nat} {b:GB} {d:Dk} {g:Gtr}
def GrQ (w:World) (pg:Nat) (b:GB) (pre:Int) (p:Int × Dk × Gtr) (k:Int) (w':World):Prop :=
 (pre≠0∧k=pre∧Mod [] w w')∨(pre=0∧k=p.1∧∃ b',GM w' pg b' p.2.1 p.2.2∧GTo w pg b w' b')
def askL (pg bg bn bt br:Nat) (r:Req) (v:Value):List Value :=
 [.func (.func 50) #[aggQ r v] #[],.func (.func 51) #[aggQ r v] #[],.func (.func 52) #[aggQ r v] #[],
  .func (.func 41) #[] #[.pointer (some ⟨bn,0,none⟩),.pointer (some ⟨bg,0,none⟩)],.func (.func 53) #[aggQ r v] #[],.func (.func 54) #[aggQ r v] #[],
  .func (.func 55) #[aggQ r v] #[],.func (.func 42) #[] #[.pointer (some ⟨bg,0,none⟩),.pointer (some ⟨br,0,none⟩)],.func (.func 56) #[.pointer (some ⟨pg,0,none⟩)] #[],
  .func (.func 44) #[] #[.pointer (some ⟨bg,0,none⟩),.pointer (some ⟨bt,0,none⟩),.pointer (some ⟨bn,0,none⟩)]]
theorem ask_any {B bg bn bt br:Nat} {r:Req} {q:Option Addr} {c:Nat} (h:GM w pg b d g) (hi:GI g) (h49:49≤d.secs.length) (hB:B<w.heap.size) (hBa:B ∉ b.all pg) (hr:RdN w (.slice q r.own.stamp.length c) r.own.stamp) (hp:r.path.size≤9223372036854775807) (hq:r.own.path.size≤9223372036854775807)
 (h1:GBx w pg b bg (.pointer (some ⟨pg,0,none⟩))) (h2:GBx w pg b bn (.int .i64 r.now)) (h3:GBx w pg b bt (.int .i64 r.t)) (h4:w.heap[br]?=some (objQ r (.slice q r.own.stamp.length c))) :
 FirstP Tryz.prog B (askL pg bg bn bt br r (.slice q r.own.stamp.length c)) w (GrQ w pg b (preI g r) (writeG d g r)):=by
 unfold askL GrQ
 refine fst_says hB (Mod.refl _ _) eg_50 (fun W m=>numbers_any r _ W) (fun hk W m=>.inl ⟨?_,?_,m⟩) (fun e1 W m=>?_)
 · simp [preI,firstI,hk]
 · simp [preI,firstI,hk]
 obtain ⟨z1,z2,z3⟩:=numbers_zero e1
 refine fst_says hB m eg_51 (fun W m=>words_any r _ W hp) (fun hk W m=>.inl ⟨?_,?_,m⟩) (fun e2 W m=>?_)
 · simp [preI,firstI,e1,hk]
 · simp [preI,firstI,e1,hk]
 refine fst_says hB m eg_52 (fun W m=>length_any r _ W) (fun hk W m=>.inl ⟨?_,?_,m⟩) (fun e3 W m=>?_)
 · simp [preI,firstI,e1,e2,hk]
 · simp [preI,firstI,e1,e2,hk]
 have z4:=length_zero e3
 refine fst_says hB m eg_41 (fun W m=>rested_any (h.quiet m) (h1.quiet m) (h2.quiet m)) (fun hk W m=>.inl ⟨?_,?_,m⟩) (fun e4 W m=>?_)
 · simp [preI,firstI,e1,e2,e3,hk]
 · simp [preI,firstI,e1,e2,e3,hk]
 refine fst_says hB m eg_53 (fun W m=>borne_any r _ W (hr.mod m (by simp)) hp hq) (fun hk W m=>.inl ⟨?_,?_,m⟩) (fun e5 W m=>?_)
 · simp [preI,firstI,e1,e2,e3,e4,hk]
 · simp [preI,firstI,e1,e2,e3,e4,hk]
 refine fst_says hB m eg_54 (fun W m=>deep_any r W) (fun hk W m=>.inl ⟨?_,?_,m⟩) (fun e6 W m=>?_)
 · simp [preI,firstI,e1,e2,e3,e4,e5,hk]
 · simp [preI,firstI,e1,e2,e3,e4,e5,hk]
 refine fst_says hB m eg_55 (fun W m=>outlasts_any r _ W z1 z4) (fun hk W m=>.inl ⟨?_,?_,m⟩) (fun e7 W m=>?_)
 · simp [preI,firstI,e1,e2,e3,e4,e5,e6,hk]
 · simp [preI,firstI,e1,e2,e3,e4,e5,e6,hk]
 refine fst_says hB m eg_42 (fun W m=>free_any (h.quiet m) hi hp (h1.quiet m) (m.at_ h4 (by simp))) (fun hk W m=>.inl ⟨?_,?_,m⟩) (fun e8 W m=>?_)
 · simp [preI,firstI,e1,e2,e3,e4,e5,e6,e7,hk]
 · simp [preI,firstI,e1,e2,e3,e4,e5,e6,e7,hk]
 refine fst_says hB m eg_56 (fun W m=>gcounts_any (h.quiet m) hi) (fun hk W m=>.inl ⟨?_,?_,m⟩) (fun e9 W m=>?_)
 · simp [preI,firstI,e1,e2,e3,e4,e5,e6,e7,e8,hk]
 · simp [preI,firstI,e1,e2,e3,e4,e5,e6,e7,e8,hk]
 have hpre:preI g r=0:=by simp [preI,firstI,e1,e2,e3,e4,e5,e6,e7,e8,e9]
 refine fst_cons eg_44 (gwrite_any (h.quiet m) hi h49 (h1.quiet m) (h3.quiet m) (h2.quiet m) rfl rfl) ?_
 rintro e w2 ⟨rfl,b2,g2,t2⟩
 exact ⟨_,rfl,t2.mod.block _ (by have:=m.size;omega) hBa,fun _=>.inr ⟨hpre,rfl,b2,g2,(GTo.quiet m).trans t2⟩,fun e=>.inr ⟨hpre,e.symm,b2,g2,(GTo.quiet m).trans t2⟩⟩
end
end Go.Proofs.YtllljngpgjkdiaaGreatDoor
/-
  WALKS: layer 16: Grant, whole.
-/
namespace Go.Proofs.YtllljngpgjkdiaaGreatDoor
set_option maxRecDepth 100000
set_option maxHeartbeats 4000000
open Go.RowKit Go.Maps

section
variable {w:World} {pg:Nat} {b:GB} {d:Dk} {g:Gtr}
def GiveTo (w:World) (pg:Nat) (b:GB) (p:Grt × Int × Dk × Gtr) (e:Ending) (w':World):Prop :=
 ∃ q c,e=.returned (.tuple #[aggG p.1 (.slice q p.1.stamp.length c),.int .i64 p.2.1])∧w'.ownsRow w.heap.size 3 1 (.slice q p.1.stamp.length c) p.1.stamp.length (p.1.stamp.map (Value.int .i64))∧∃ b',GM w' pg b' p.2.2.1 p.2.2.2∧GTo w pg b w' b'∧∀ k,k∈ob (.slice q p.1.stamp.length c)→k ∉ b'.all pg
def gbox (w:World) (pg:Nat) (r:Req) (v:Value):World :=
 ((((w.alloc (.cells #[.pointer (some ⟨pg,0,none⟩)] 27 (0,0))).alloc (.cells #[.int .i64 r.now] 3 (0,0))).alloc (.cells (cellsL r.own v) 25 (0,0))).alloc (.cells #[.int .i64 r.t] 3 (0,0))).alloc (.cells #[.int .i64 0,.int .i64 0,.string ⟨#[]⟩,.int .i64 0,.slice none 0 0,.int .i64 0] 35 (0,0))
structure GBox (w W:World) (pg:Nat) (r:Req) (v:Value):Prop where
 m:Mod [] w W
 sz:W.heap.size=w.heap.size+6
 b0:W.heap[w.heap.size]?=some (.cells #[.pointer (some ⟨pg,0,none⟩)] 27 (0,0))
 b1:W.heap[w.heap.size+1]?=some (.cells #[.int .i64 r.now] 3 (0,0))
 b2:W.heap[w.heap.size+2]?=some (.cells (cellsL r.own v) 25 (0,0))
 b3:W.heap[w.heap.size+3]?=some (.cells #[.int .i64 r.t] 3 (0,0))
 b4:W.heap[w.heap.size+4]?=some (.cells #[.int .i64 0,.int .i64 0,.string ⟨#[]⟩,.int .i64 0,.slice none 0 0,.int .i64 0] 35 (0,0))
 b5:W.heap[w.heap.size+5]?=some (objQ r v)
theorem gbox_all (w:World) (pg:Nat) (r:Req) (v:Value):GBox w ((gbox w pg r v).alloc (objQ r v)) pg r v:=by
 unfold gbox
 have hs:∀ (W:World) (o:Obj),(W.alloc o).heap.size=W.heap.size+1:=fun W o=>by simp
 have h0:=heap_alloc_new w (.cells #[.pointer (some ⟨pg,0,none⟩)] 27 (0,0))
 generalize hW0:w.alloc (.cells #[.pointer (some ⟨pg,0,none⟩)] 27 (0,0))=W0 at h0 ⊢
 have h1:=heap_alloc_new W0 (.cells #[.int .i64 r.now] 3 (0,0))
 have k0:=blk_alloc h0 (.cells #[.int .i64 r.now] 3 (0,0))
 generalize hW1:W0.alloc (.cells #[.int .i64 r.now] 3 (0,0))=W1 at h1 k0 ⊢
 have h2:=heap_alloc_new W1 (.cells (cellsL r.own v) 25 (0,0))
 have k1:=blk_alloc h1 (.cells (cellsL r.own v) 25 (0,0))
 have k0:=blk_alloc k0 (.cells (cellsL r.own v) 25 (0,0))
 generalize hW2:W1.alloc (.cells (cellsL r.own v) 25 (0,0))=W2 at h2 k0 k1 ⊢
 have h3:=heap_alloc_new W2 (.cells #[.int .i64 r.t] 3 (0,0))
 have k2:=blk_alloc h2 (.cells #[.int .i64 r.t] 3 (0,0))
 have k1:=blk_alloc k1 (.cells #[.int .i64 r.t] 3 (0,0))
 have k0:=blk_alloc k0 (.cells #[.int .i64 r.t] 3 (0,0))
 generalize hW3:W2.alloc (.cells #[.int .i64 r.t] 3 (0,0))=W3 at h3 k0 k1 k2 ⊢
 have h4:=heap_alloc_new W3 (.cells #[.int .i64 0,.int .i64 0,.string ⟨#[]⟩,.int .i64 0,.slice none 0 0,.int .i64 0] 35 (0,0))
 have k3:=blk_alloc h3 (.cells #[.int .i64 0,.int .i64 0,.string ⟨#[]⟩,.int .i64 0,.slice none 0 0,.int .i64 0] 35 (0,0))
 have k2:=blk_alloc k2 (.cells #[.int .i64 0,.int .i64 0,.string ⟨#[]⟩,.int .i64 0,.slice none 0 0,.int .i64 0] 35 (0,0))
 have k1:=blk_alloc k1 (.cells #[.int .i64 0,.int .i64 0,.string ⟨#[]⟩,.int .i64 0,.slice none 0 0,.int .i64 0] 35 (0,0))
 have k0:=blk_alloc k0 (.cells #[.int .i64 0,.int .i64 0,.string ⟨#[]⟩,.int .i64 0,.slice none 0 0,.int .i64 0] 35 (0,0))
 generalize hW4:W3.alloc (.cells #[.int .i64 0,.int .i64 0,.string ⟨#[]⟩,.int .i64 0,.slice none 0 0,.int .i64 0] 35 (0,0))=W4 at h4 k0 k1 k2 k3 ⊢
 have s0:W0.heap.size=w.heap.size+1:=by rw [← hW0,hs]
 have s1:W1.heap.size=w.heap.size+2:=by rw [← hW1,hs,s0]
 have s2:W2.heap.size=w.heap.size+3:=by rw [← hW2,hs,s1]
 have s3:W3.heap.size=w.heap.size+4:=by rw [← hW3,hs,s2]
 have s4:W4.heap.size=w.heap.size+5:=by rw [← hW4,hs,s3]
 have h5:=heap_alloc_new W4 (objQ r v)
 rw [s0] at k1;rw [s1] at k2;rw [s2] at k3;rw [s3] at h4;rw [s4] at h5
 refine ⟨?_,by rw [hs,s4],blk_alloc k0 _,blk_alloc k1 _,blk_alloc k2 _,blk_alloc k3 _,blk_alloc h4 _,h5⟩
 rw [← hW4,← hW3,← hW2,← hW1,← hW0]
 exact ((((((Mod.refl [] w).alloc _).alloc _).alloc _).alloc _).alloc _).alloc _
theorem give_none {w':World} {k:Int} {b':GB} {d':Dk} {g':Gtr} (h:GM w' pg b' d' g') (t:GTo w pg b w' b'):GiveTo w pg b (Grt.zero,k,d',g') (.returned (.tuple #[.agg #[.int .i64 0,.int .i64 0,.string ⟨#[]⟩,.int .i64 0,.slice none 0 0,.int .i64 0],.int .i64 k])) w' :=
 ⟨none,0,rfl,World.ownsRow_nil _ _ _ _,b',h,t,fun k hk=>by simp [ob,Value.ownBlock] at hk⟩
def st6 (W:World) (B:Nat) (v0 v1 v2 v3 v4 v5:Value):World:=(((((W.setCell ⟨B,0,none⟩ v0).setCell ⟨B,1,none⟩ v1).setCell ⟨B,2,none⟩ v2).setCell ⟨B,3,none⟩ v3).setCell ⟨B,4,none⟩ v4).setCell ⟨B,5,none⟩ v5
theorem st6_heap {W:World} {B:Nat} {a0 a1 a2 a3 a4 a5:Value} {T:TypeId} (h:W.heap[B]?=some (.cells #[a0,a1,a2,a3,a4,a5] T (0,0))) (v0 v1 v2 v3 v4 v5:Value):(st6 W B v0 v1 v2 v3 v4 v5).heap[B]?=some (.cells #[v0,v1,v2,v3,v4,v5] T (0,0)) :=
 blk_set (blk_set (blk_set (blk_set (blk_set (blk_set h 0 v0) 1 v1) 2 v2) 3 v3) 4 v4) 5 v5
theorem st6_mod (W:World) (B:Nat) (v0 v1 v2 v3 v4 v5:Value):Mod [B] W (st6 W B v0 v1 v2 v3 v4 v5) :=
 ((((((Mod.refl [B] W).setCell (fun _=>by simp) v0).setCell (fun _=>by simp) v1).setCell (fun _=>by simp) v2).setCell (fun _=>by simp) v3).setCell (fun _=>by simp) v4).setCell (fun _=>by simp) v5
def Asd (w:World) (pg:Nat) (b:GB) (k:Nat):Prop:=k<w.heap.size∧k ∉ b.all pg
theorem Asd.to {w':World} {b':GB} {k:Nat} (h:Asd w pg b k) (t:GTo w pg b w' b'):Asd w' pg b' k:=by
 refine ⟨Nat.lt_of_lt_of_le h.1 t.mod.size,fun e=>?_⟩
 rcases t.own k e with e | e
 · exact h.2 e
 · have:=h.1;omega
def MkRel (W:World) (x:Grt) (s22:Value) (wx:World):Prop :=
 ∃ bk q c,s22=.pointer (some ⟨bk,0,none⟩)∧wx.heap[bk]?=some (.cells #[.int .i64 x.id,.int .i64 x.holder,.string x.path,.int .i64 x.mode,.slice q x.stamp.length c,.int .i64 x.term] 35 (0,0))∧W.heap.size≤bk∧Mod [] W wx ∧
   wx.ownsRow W.heap.size 3 1 (.slice q x.stamp.length c) x.stamp.length (x.stamp.map (Value.int .i64))∧bk ∉ ob (.slice q x.stamp.length c)
theorem exec_build {P:Program} {ev:Operand→Value} {o:Oper} {t:TypeId} {parts:Array (Nat × Operand)} {vs:Array (Nat × Value)} {v:Value} {w:World} (ho:o.op=.build t parts) (hp:(parts.map fun x=>(x.1,ev x.2))=vs) (h:(Instr.build t vs).run P w=.ok v w):(execOp ev o).run P w=.ok (.value v) w:=by
 subst hp
 unfold execOp
 rw [ho]
 simp only [Sem.run_bind,h,Result.andThen]
 rfl
theorem build_grt (i h:Int) (p:ByteArray) (m:Int) (q:Option Addr) (n c:Nat) (t:Int) (w:World):(Instr.build 35 #[(0,.int .i64 i),(1,.int .i64 h),(2,.string p),(3,.int .i64 m),(4,.slice q n c),(5,.int .i64 t)]).run Tryz.prog w=.ok (.agg #[.int .i64 i,.int .i64 h,.string p,.int .i64 m,.slice q n c,.int .i64 t]) w:=run_build w 35 _ _ (by kernel_rfl)
theorem firstI_zero:∀ {l:List Int},firstI l=0→∀ k,k∈l→k=0
 | [],_,k,hk=>by cases hk
 | x::r,h,k,hk=>by
   unfold firstI at h
   by_cases hx:x=0
   · rw [if_pos hx] at h
     rcases List.mem_cons.1 hk with e | e
     · rw [e];exact hx
     · exact firstI_zero h k e
   · rw [if_neg hx] at h;exact absurd h hx
theorem pre_zero {g:Gtr} {r:Req} (h:preI g r=0):timeOk r.now∧legalT r.t∧wordsI r=0∧borneI r=0∧deepI r=0∧outlastsI r=0∧restedI g r.now=0∧roomI g r=0∧countsI g=0∧(0≤r.holder∧r.holder<8):=by
 have q:=firstI_zero h
 have n:=numbers_zero (q (numbersI r) (by simp))
 exact ⟨n.1,length_zero (q _ (by simp)),q _ (by simp),q _ (by simp),q _ (by simp),q _ (by simp),q _ (by simp),q _ (by simp),q _ (by simp),n.2⟩
theorem grant_any {r:Req} {q:Option Addr} {c:Nat} (h:GM w pg b d g) (hi:GI g) (h49:49≤d.secs.length) (hr:RdN w (.slice q r.own.stamp.length c) r.own.stamp) (hap:∀ k,k∈ob (.slice q r.own.stamp.length c)→k ∉ b.all pg) (hp:r.path.size≤9223372036854775807) (hq:r.own.path.size≤9223372036854775807) :
 Calls Tryz.prog 13 #[.pointer (some ⟨pg,0,none⟩),.int .i64 r.now,aggL r.own (.slice q r.own.stamp.length c),.int .i64 r.holder,.string r.path,.int .i64 r.mode,.int .i64 r.t] w fun e w'=>GiveTo w pg b (grantG d g r) e w':=by
 have hbx:=gbox_all w pg r (.slice q r.own.stamp.length c)
 have hlt:=h.lt
 have hna:∀ k,w.heap.size≤k→k ∉ b.all pg:=fun k hk e=>by have:=hlt k e;omega
 obtain ⟨L,hL⟩:∃ L,L=askL pg w.heap.size (w.heap.size+1) (w.heap.size+3) (w.heap.size+5) r (.slice q r.own.stamp.length c):=⟨_,rfl⟩
 have hLl:L.length=10:=by rw [hL];rfl
 obtain ⟨W5,hW5⟩:∃ W5,W5=(gbox w pg r (.slice q r.own.stamp.length c)).alloc (objQ r (.slice q r.own.stamp.length c)):=⟨_,rfl⟩
 rw [← hW5] at hbx
 obtain ⟨W6,hW6⟩:∃ W6,W6=W5.alloc (.cells L.toArray 85 (0,0)):=⟨_,rfl⟩
 have m56:Mod [] W5 W6:=by rw [hW6];exact (Mod.refl _ _).alloc _
 have hb6:W6.heap[W5.heap.size]?=some (.cells L.toArray 85 (0,0)):=by rw [hW6];exact heap_alloc_new W5 _
 have m6:=hbx.m.then m56
 have hs5:=hbx.sz
 have hfp:FirstP Tryz.prog W5.heap.size L W6 (GrQ W6 pg b (preI g r) (writeG d g r)):=by
  rw [hL]
  exact ask_any (h.quiet m6) hi h49 (lt_of_block hb6) (hna _ (by omega)) (hr.mod m6 (by simp)) hp hq ⟨by rw [blk_cell (m56.at_ hbx.b0 (by simp))];rfl,hna _ (by omega)⟩ ⟨by rw [blk_cell (m56.at_ hbx.b1 (by simp))];rfl,hna _ (by omega)⟩ ⟨by rw [blk_cell (m56.at_ hbx.b3 (by simp))];rfl,hna _ (by omega)⟩ (m56.at_ hbx.b5 (by simp))
 have hfi:=firstf_any hb6 hfp (by rw [hLl];decide)
 rw [hLl] at hfi
 have H0:=hd7 hbx m6 hi h49 h hr m56
 have HAP:=hide hap
 obtain ⟨p,hpp⟩:∃ p,grantG d g r=p:=⟨_,rfl⟩
 rw [hpp]
 have HP:=hide hpp
 clear hpp hfp hi h49 h hr m56 hb6 m6 hbx hap
 obtain ⟨now,holder,t,⟨lf,li,lp,lm,la,lt,ls,le,lr⟩,path,mode⟩:=r
 unfold askL aggQ cellsQ at hL
 unfold gbox objQ cellsQ cellsL at hW5
 unfold aggL cellsL
 simp only at hL hW5 hfi ⊢
 have HW5:=hide hW5
 have HW6:=hide hW6
 have HL:=hide hL
 have HS5:=hide hs5
 clear hW5 hW6 hL hlt hna hs5
 go_enter Tryz.func13,Tryz.ntmps13
 go_upto_region 7 with fail
 rw [← HW5.out]
 have hbox:=H0.out.1
 obtain ⟨B0,hB0⟩:∃ B,w.heap.size=B:=⟨_,rfl⟩
 rw [hB0]
 obtain ⟨B1,hB1⟩:∃ B,B0+1=B:=⟨_,rfl⟩
 rw [hB1]
 obtain ⟨B2,hB2⟩:∃ B,B1+1=B:=⟨_,rfl⟩
 rw [hB2]
 obtain ⟨B3,hB3⟩:∃ B,B2+1=B:=⟨_,rfl⟩
 rw [hB3]
 obtain ⟨B4,hB4⟩:∃ B,B3+1=B:=⟨_,rfl⟩
 rw [hB4]
 obtain ⟨B5,hB5⟩:∃ B,B4+1=B:=⟨_,rfl⟩
 rw [hB5]
 have bb0:=hbox.b0
 have bb1:=hbox.b1
 rw [hB0,hB1] at bb1
 have bb2:=hbox.b2
 have bb3:=hbox.b3
 have bb4:=hbox.b4
 have bb5:=hbox.b5
 rw [show w.heap.size+2=w.heap.size+1+1 from rfl,hB0,hB1,hB2] at bb2
 rw [show w.heap.size+3=w.heap.size+1+1+1 from rfl,hB0,hB1,hB2,hB3] at bb3
 rw [show w.heap.size+4=w.heap.size+1+1+1+1 from rfl,hB0,hB1,hB2,hB3,hB4] at bb4
 rw [show w.heap.size+5=w.heap.size+1+1+1+1+1 from rfl,hB0,hB1,hB2,hB3,hB4,hB5] at bb5
 rw [hB0] at bb0
 have HBB:=hd12 bb0 bb2 bb3 bb4 bb5 hbox.m hB0 hB1 hB2 hB3 hB4 hB5
 have HB1X:=hide bb1
 have hL2:=HL.out
 rw [show w.heap.size+3=w.heap.size+1+1+1 from rfl,show w.heap.size+5=w.heap.size+1+1+1+1+1 from rfl,hB0,hB1,hB2,hB3,hB4,hB5] at hL2
 have HL2:=hide hL2
 have CB0:=blk_cell bb0
 have CB5:=blk_cell bb5
 clear hL2 bb0 bb1 bb2 bb3 bb4 bb5 hbox hB0 hB1 hB2 hB3 hB4 hB5
 unfold objQ cellsQ at CB5
 simp only at CB5
 go_upto_region 8 with (go_at_call 45;rw [← HL2.out,← HW6.out];refine hfi.mono ?_;rintro e w7 ⟨k,rfl,h7⟩;have H7:=hide h7;clear h7 hfi CB0 CB5)
 have hgp:=HP.out
 unfold grantG at hgp
 have haE:=Tryz.isAgg35
 have hzE:=Tryz.sizeOf35
 obtain ⟨pre,hpre⟩:∃ k,preI g ⟨now,holder,t,⟨lf,li,lp,lm,la,lt,ls,le,lr⟩,path,mode⟩=k:=⟨_,rfl⟩
 obtain ⟨⟨ke,kd,kg⟩,hwr⟩:∃ a,writeG d g ⟨now,holder,t,⟨lf,li,lp,lm,la,lt,ls,le,lr⟩,path,mode⟩=a:=⟨_,rfl⟩
 have hgi:=write_GI H0.out.2.2.1 d ⟨now,holder,t,⟨lf,li,lp,lm,la,lt,ls,le,lr⟩,path,mode⟩
 rw [hwr] at hgi
 simp only at hgi
 rw [hpre,hwr] at hgp
 have h7:=H7.out
 rw [hpre,hwr] at h7
 simp only at hgp
 by_cases hp0:pre=0
 · have h7:k=ke∧∃ b',GM w7 pg b' kd kg∧GTo W6 pg b w7 b':=by
    rcases h7 with ⟨a,_⟩ | ⟨_,a,c⟩
    · exact absurd hp0 a
    · exact ⟨a,c⟩
   obtain ⟨rfl,b7,g7,t7⟩:=h7
   rw [if_neg (by rw [hp0];decide)] at hgp
   have hasd:∀ x,w.heap.size≤x→x<W6.heap.size→Asd w7 pg b7 x:=fun x h1 h2=>Asd.to ⟨h2,fun e=>by have:=H0.out.2.2.2.2.1.lt x e;omega⟩ t7
   have hz56:=H0.out.2.2.2.2.2.2.size
   have hs5:=HS5.out
   obtain ⟨bb0,bb2,bb3,bb4,bb5,m5,hB0,hB1,hB2,hB3,hB4,hB5⟩:=HBB.out
   have hat:∀ (x:Nat) (o:Obj),w.heap.size≤x→W5.heap[x]?=some o→w7.heap[x]?=some o:=fun x o h1 h2=>t7.mod.at_ (H0.out.2.2.2.2.2.2.at_ h2 (by simp)) (fun e=>by have:=H0.out.2.2.2.2.1.lt x e;omega)
   have tw:GTo w pg b w7 b7:=(GTo.quiet H0.out.2.1).trans t7
   have HA:=hd4 (hat B0 _ (by omega) bb0) (hat B2 _ (by omega) bb2) (hat B3 _ (by omega) bb3) (hat B4 _ (by omega) bb4)
   have HA1:=hd2 (hat B1 _ (by omega) HB1X.out) (hasd B1 (by omega) (by omega))
   have HA2:=hd4 (hasd B0 (by omega) (by omega)) (hasd B2 (by omega) (by omega)) (hasd B3 (by omega) (by omega)) (hasd B4 (by omega) (by omega))
   have HG7:=hd3 g7 tw hgi
   have HPr:=hd2 (hpre.trans hp0) (show w.heap.size≤B4 by omega)
   clear bb0 bb2 bb3 bb4 bb5 m5 hB0 hB1 hB2 hB3 hB4 hB5 hat hasd tw g7 t7 hgi hs5 hz56 hp0 hpre hwr H7 HBB HL2 HW6 HW5
   by_cases hk0:k=0
   · subst hk0
     rw [if_neg (by simp)] at hgp
     have hbk:=HG7.out.1.book HG7.out.2.2.1
     have C0:=blk_cell HA.out.1
     have C00:=HG7.out.1.c0
     have hpg7:=lt_of_block HG7.out.1.blk
     have hfl:=field_bk0
     obtain ⟨nx,hnx⟩:∃ n,kg.l.book.next=n:=⟨_,rfl⟩
     rw [hnx] at hbk
     have HNX:=hide hnx
     have HGP:=hide hgp
     clear hgp hnx
     go_upto_region 11 with (go_at_call 38;refine hbk.mono ?_;rintro e w8 ⟨q8,n8,c8,lv8,rfl,-,m8,-⟩;have H8:=hide m8;clear m8 hbk C0 C00)
     have CB2:∀ W:World,Mod [] w8 W→∀ o,W.cell? ⟨B2,o,none⟩=_:=fun W m=>blk_cell (m.at_ (H8.out.at_ HA.out.2.1 (by simp)) (by simp))
     have CB3:∀ W:World,Mod [] w8 W→∀ o,W.cell? ⟨B3,o,none⟩=_:=fun W m=>blk_cell (m.at_ (H8.out.at_ HA.out.2.2.1 (by simp)) (by simp))
     unfold cellsL at CB2
     simp only at CB2
     have HC2:=hide CB2
     have HC3:=hide CB3
     have hex:=fun (W:World) (m:Mod [] w8 W)=>extended_any (w:=W) (l:=⟨lf,li,lp,lm,la,lt,ls,le,lr⟩) (v:=.slice q la.length c) ((H0.out.2.2.2.2.2.1.mod HG7.out.2.1.mod HAP.out).mod (H8.out.then m) (by simp)) nx
     unfold aggL cellsL at hex
     simp only at hex
     have HEX:=hide hex
     obtain ⟨xs,hxs⟩:∃ s,extS la nx=s:=⟨_,rfl⟩
     rw [hxs] at hex
     have HXS:=hide hxs
     obtain ⟨nS,hnS⟩:∃ n,xs.length=n:=⟨_,rfl⟩
     have HNS:=hide hnS
     clear CB2 CB3 hex hxs hnS
     go_cut [22] (fun s wx=>MkRel w8 ⟨nx,holder,path,mode,xs,t⟩ s wx)
     case first =>
      as_aux_lemma =>
      refine pB 999 (Mod [] w8) ((Mod.refl [] w8).drew) ?_
      refine pP 0 ?_;refine pP 1 ?_;refine pP 2 ?_;refine pP 3 ?_
      refine pH 4 rfl (fun w h=>by have D:=HC2.out _ h;go_simp;try with_reducible rfl) ?_
      refine pP 5 ?_
      refine pH 7 rfl (fun w h=>by have D:=HC3.out _ h;go_simp;try with_reducible rfl) ?_
      refine pX2 6 9 (fun hT K HK=>?_) (fun hT K HK=>?_)
      · go_simp
        refine (HEX.out _ hT).mono ?_;rintro e w9 ⟨q9,c9,rfl,ho9,m9⟩
        rw [HXS.out,HNS.out] at ho9
        rw [HXS.out,HNS.out]
        have H9:=hd2 ho9 (hT.then m9)
        have hz9:=m9.size
        refine HK.out _ _ _ (hT.then m9) ?_
        clear HK K hT m9 ho9
        refine pH 8 rfl (v:=.agg #[.int .i64 nx,.int .i64 holder,.string path,.int .i64 mode,.slice q9 nS c9,.int .i64 t]) (fun w h=>exec_build rfl (by kernel_rfl) (build_grt nx holder path mode q9 nS c9 t w)) ?_
        refine pX 9 fun hT K HK=>?_
        go_simp
        obtain ⟨W10,hW10⟩:∃ W10,W10=w9.alloc (.cells #[.int .i64 0,.int .i64 0,.string ⟨#[]⟩,.int .i64 0,.slice none 0 0,.int .i64 0] 35 (0,0)):=⟨_,rfl⟩
        have hk10:W10.heap[w9.heap.size]?=some (.cells #[.int .i64 0,.int .i64 0,.string ⟨#[]⟩,.int .i64 0,.slice none 0 0,.int .i64 0] 35 (0,0)):=by rw [hW10];exact heap_alloc_new _ _
        have m10:Mod [] w9 W10:=by rw [hW10];exact (Mod.refl _ _).alloc _
        rw [← hW10]
        have H10:=hd2 hk10 m10
        clear hW10 hk10 m10
        refine HK.out _ _ _ (hT.then H10.out.2) ?_
        clear HK K hT
        refine pX 10 fun hT K HK=>?_
        have C10:=blk_cell H10.out.1
        have F10:=blk_free H10.out.1
        go_simp
        obtain ⟨W11,hW11⟩:∃ W11,W11=st6 W10 w9.heap.size (.int .i64 nx) (.int .i64 holder) (.string path) (.int .i64 mode) (.slice q9 nS c9) (.int .i64 t):=⟨_,rfl⟩
        have hb11:=st6_heap H10.out.1 (.int .i64 nx) (.int .i64 holder) (.string path) (.int .i64 mode) (.slice q9 nS c9) (.int .i64 t)
        have m11:=st6_mod W10 w9.heap.size (.int .i64 nx) (.int .i64 holder) (.string path) (.int .i64 mode) (.slice q9 nS c9) (.int .i64 t)
        rw [← hW11] at hb11 m11
        unfold st6 at hW11
        rw [← hW11]
        have hz8:w8.heap.size≤w9.heap.size:=hz9
        have hm11:Mod [] w8 W11:=mod_fresh hT m11 (by simp;omega)
        have hno:w9.heap.size ∉ ob (.slice q9 nS c9):=fun e=>by have:=(ob_of_row H9.out.1 _ e).2;omega
        have hro:W11.ownsRow w8.heap.size 3 1 (.slice q9 nS c9) nS (xs.map (Value.int .i64)):=Mod.row m11 (Mod.row H10.out.2 H9.out.1 (by simp)) (fun k hk e=>hno (by simp at e;subst e;simp [ob,hk]))
        have HREL:Hid (MkRel w8 ⟨nx,holder,path,mode,xs,t⟩ (.pointer (some ⟨w9.heap.size,0,none⟩)) W11):=hide (by
         have e:=HNS.out
         subst e
         exact ⟨_,q9,c9,rfl,hb11,hz8,hm11,hro,hno⟩)
        refine HK.out _ _ _ hm11 ?_
        clear HK K hT hm11 m11 hb11 hW11 C10 F10 hro hno
        refine pE fun hT=>?_
        clear hT
        go_wp2_with fail
        go_meet
        case rel=>exact HREL.out
      · go_simp
        obtain ⟨W10,hW10⟩:∃ W10,W10=(w8.alloc (.cells #[.int .i64 0,.int .i64 0,.string ⟨#[]⟩,.int .i64 0,.slice none 0 0,.int .i64 0] 35 (0,0))).drew:=⟨_,rfl⟩
        have hk10:W10.heap[w8.heap.size]?=some (.cells #[.int .i64 0,.int .i64 0,.string ⟨#[]⟩,.int .i64 0,.slice none 0 0,.int .i64 0] 35 (0,0)):=by rw [hW10];exact heap_alloc_new _ _
        have m10:Mod [] w8 W10:=by rw [hW10];exact ((Mod.refl _ _).alloc _).drew
        have hz10:W10.heap.size=w8.heap.size+1:=by rw [hW10];simp
        rw [← hW10]
        have H10:=hd3 hk10 m10 hz10
        clear hW10 hk10 m10 hz10
        refine HK.out _ _ _ H10.out.2.1 ?_
        clear HK K hT
        refine pX 6 fun hT K HK=>?_
        go_simp
        refine (HEX.out _ H10.out.2.1).mono ?_;rintro e w9 ⟨q9,c9,rfl,ho9,m9⟩
        rw [HXS.out,HNS.out] at ho9
        rw [HXS.out,HNS.out]
        have H9:=hd3 ho9 (H10.out.2.1.then m9) (m9.at_ H10.out.1 (by simp))
        refine HK.out _ _ _ (H10.out.2.1.then m9) ?_
        clear HK K hT m9 ho9
        refine pH 8 rfl (v:=.agg #[.int .i64 nx,.int .i64 holder,.string path,.int .i64 mode,.slice q9 nS c9,.int .i64 t]) (fun w h=>exec_build rfl (by kernel_rfl) (build_grt nx holder path mode q9 nS c9 t w)) ?_
        refine pX 10 fun hT K HK=>?_
        have C10:=blk_cell H9.out.2.2
        have F10:=blk_free H9.out.2.2
        go_simp
        obtain ⟨W11,hW11⟩:∃ W11,W11=st6 w9 w8.heap.size (.int .i64 nx) (.int .i64 holder) (.string path) (.int .i64 mode) (.slice q9 nS c9) (.int .i64 t):=⟨_,rfl⟩
        have hb11:=st6_heap H9.out.2.2 (.int .i64 nx) (.int .i64 holder) (.string path) (.int .i64 mode) (.slice q9 nS c9) (.int .i64 t)
        have m11:=st6_mod w9 w8.heap.size (.int .i64 nx) (.int .i64 holder) (.string path) (.int .i64 mode) (.slice q9 nS c9) (.int .i64 t)
        rw [← hW11] at hb11 m11
        unfold st6 at hW11
        rw [← hW11]
        have hm11:Mod [] w8 W11:=mod_fresh H9.out.2.1 m11 (by simp)
        have hz10:=H10.out.2.2
        have hno:w8.heap.size ∉ ob (.slice q9 nS c9):=fun e=>by have:=(ob_of_row H9.out.1 _ e).1;omega
        have hro:W11.ownsRow w8.heap.size 3 1 (.slice q9 nS c9) nS (xs.map (Value.int .i64)):=row_base (Mod.row m11 H9.out.1 (fun k hk e=>hno (by simp at e;subst e;simp [ob,hk]))) (by omega)
        have HREL:Hid (MkRel w8 ⟨nx,holder,path,mode,xs,t⟩ (.pointer (some ⟨w8.heap.size,0,none⟩)) W11):=hide (by
         have e:=HNS.out
         subst e
         exact ⟨_,q9,c9,rfl,hb11,Nat.le_refl _,hm11,hro,hno⟩)
        refine HK.out _ _ _ hm11 ?_
        clear HK K hT hm11 m11 hb11 hW11 C10 F10 hro hno hz10
        refine pE fun hT=>?_
        clear hT
        go_wp2_with fail
        go_meet
        case rel=>exact HREL.out
     case rest =>
      obtain ⟨bk,q9,c9,rfl,hbk,hle,m9,hro,hno⟩:=hcut
      simp only at hbk hro hno
      rw [HNS.out] at hbk hro hno
      obtain ⟨w9,rfl⟩:∃ x:World,x=wc:=⟨_,rfl⟩
      have m79:=H8.out.then m9
      have g9:=HG7.out.1.quiet m79
      have hrd:RdN w9 (.slice q9 nS c9) xs:=by
       have e:=HNS.out
       subst e
       exact rdN_of_row hro
      have h49:49≤kd.secs.length:=by rw [HG7.out.2.2.2.1];exact H0.out.2.2.2.1
      obtain ⟨ap,hap⟩:∃ a,appendD kd kg.l (recG ⟨nx,holder,path,mode,xs,t⟩)=a:=⟨_,rfl⟩
      have hA:=fun (W:World) (m:Mod [] w9 W)=>(g9.quiet m).append HG7.out.2.2.1 h49 (r:=recG ⟨nx,holder,path,mode,xs,t⟩) (sv:=.slice q9 nS c9) (tv:=.slice none 0 0) (hrd.mod m (by simp)) (rdN_nil _) hp hap
      obtain ⟨kA,dA,lA⟩:=ap
      simp only at hA
      unfold aggR cellsR recG at hA
      simp only [Rcd.zero] at hA
      have HAP2:=hd2 hA hap
      have C0:=blk_cell (m79.at_ HA.out.1 (by simp))
      have CK:=blk_cell hbk
      have C00:=g9.c0
      have hpg9:=lt_of_block g9.blk
      have H9:=hd6 m79 g9 hbk hle hro hno
      clear hA hap m79 g9 hbk hle hro hno m9 hrd
      have hgo:grantOf kg ⟨now,holder,t,⟨lf,li,lp,lm,la,lt,ls,le,lr⟩,path,mode⟩=⟨nx,holder,path,mode,xs,t⟩:=by
       unfold grantOf
       rw [HNX.out]
       simp only
       rw [HXS.out]
      have hgp:=HGP.out
      rw [hgo,HAP2.out.2] at hgp
      simp only at hgp
      have HGQ:=hide hgp
      clear hgo hgp
      go_wp2_with fail
      go_still_tail 6,(by kernel_rfl)
      change wpList _ _ _ _ _ w9.drew
      go_upto_region 13 with (go_at_call 58;refine (HAP2.out.1 _ ((Mod.refl [] w9).drew)).mono ?_;rintro e w10 ⟨rfl,b10,g10,t10⟩;have H10:=hd2 g10 t10;clear g10 t10 C0 CK C00)
      have hasd:∀ x,Asd w7 pg b7 x→Asd w10 pg b10 x:=fun x h=>Asd.to (w:=w9.drew) (b:=b7) ⟨Nat.lt_of_lt_of_le h.1 H9.out.1.size,h.2⟩ H10.out.2
      have hkeep:∀ (x:Nat) (o:Obj),Asd w7 pg b7 x→w7.heap[x]?=some o→w10.heap[x]?=some o:=fun x o h hb=>H10.out.2.mod.at_ (((Mod.refl [] w9).drew).at_ (H9.out.1.at_ hb (by simp)) (by simp)) h.2
      have hb4:=hkeep B4 _ HA2.out.2.2.2 HA.out.2.2.2
      have ha4:=hasd B4 HA2.out.2.2.2
      have hlt7:=HG7.out.1.lt
      have hz78:=H8.out.size
      have hz79:=H9.out.1.size
      have hstA:∀ k,k∈ob (.slice q9 nS c9)→w8.heap.size≤k∧Asd w9 pg b7 k:=fun k hk=>by
       obtain ⟨h1,h2⟩:=ob_of_row H9.out.2.2.2.2.1 k hk
       exact ⟨h1,h2,fun e=>by have:=hlt7 k e;omega⟩
      have hst10:∀ k,k∈ob (.slice q9 nS c9)→Asd w10 pg b10 k:=fun k hk=>Asd.to (w:=w9.drew) (b:=b7) ⟨(hstA k hk).2.1,(hstA k hk).2.2⟩ H10.out.2
      have hro10:w10.ownsRow w8.heap.size 3 1 (.slice q9 nS c9) nS (xs.map (Value.int .i64)):=Mod.row H10.out.2.mod (Mod.row ((Mod.refl [] w9).drew) H9.out.2.2.2.2.1 (by simp)) (fun k hk e=>(hstA k (by simp [ob,hk])).2.2 e)
      have hbkA:Asd w9 pg b7 bk:=⟨lt_of_block H9.out.2.2.1,fun e=>by have:=hlt7 bk e;have:=H9.out.2.2.2.1;omega⟩
      have hbk10:=H10.out.2.mod.at_ (((Mod.refl [] w9).drew).at_ H9.out.2.2.1 (by simp)) hbkA.2
      have hb0:=hkeep B0 _ HA2.out.1 HA.out.1
      have hb1:=hkeep B1 _ HA1.out.2 HA1.out.1
      have hb3:=hkeep B3 _ HA2.out.2.2.1 HA.out.2.2.1
      have hB48:B4<w8.heap.size:=by have:=HA2.out.2.2.2.1;omega
      have tw10:GTo w pg b w10 b10:=(HG7.out.2.1.trans (GTo.quiet (H9.out.1.then ((Mod.refl [] w9).drew)))).trans H10.out.2
      have hz8w:w.heap.size≤w8.heap.size:=by have:=HG7.out.2.1.mod.size;omega
      have HZ:=hd10 hb4 ha4 hst10 hro10 hbk10 hB48 tw10 hz8w (fun k hk=>(hstA k hk).1) (Asd.to (w:=w9.drew) (b:=b7) ⟨hbkA.1,hbkA.2⟩ H10.out.2).2
      by_cases hkA:kA=0
      · subst hkA
        have hgp:=HGQ.out
        rw [if_neg (by simp)] at hgp
        obtain ⟨z1,z2,z3,z4,z5,z6,z7,z8,z9,z10⟩:=pre_zero HPr.out.1
        simp only at z1 z2
        unfold timeOk at z1
        unfold legalT at z2
        have hwr:IntKind.i64.wrap (now+t)=now+t:=by rw [IntKind.wrap_i64];omega
        have hnx1:(Lit.int .i64 nx).wf=true:=by
         have:=(heads_iff.1 (valid_iff.1 HG7.out.2.2.1.val).1).1
         have:=(heads_iff.1 (valid_iff.1 HG7.out.2.2.1.val).1).2.1
         rw [HNX.out] at *
         have e1:IntKind.i64.min = -9223372036854775808:=rfl
         have e2:IntKind.i64.max=9223372036854775807:=rfl
         simp [Lit.wf,e1,e2]
         omega
        have hkp:=keep_any H10.out.1 (by have:=HG7.out.2.2.1.len.2;show kg.nt.length≤100;omega) (x:=⟨nx,holder,path,mode,xs,t⟩) (.slice q9 nS c9) (now+t) hnx1 hp
        unfold aggG cellsG at hkp
        simp only at hkp
        have HGZ:=hide hgp
        have C0:=blk_cell hb0
        have C1:=blk_cell hb1
        have C3:=blk_cell hb3
        have CK:=blk_cell hbk10
        clear hgp hasd hkeep hb4 ha4 hlt7 hz78 hz79 hstA hst10 hro10 hbkA hbk10 hb0 hb1 hb3 hB48 tw10 hz8w z1 z2 z3 z4 z5 z6 z7 z8 z9 z10 hnx1 h49
        go_upto_region 16 with (go_at_call 40;refine hkp.mono ?_;rintro e w11 ⟨rfl,b11,g11,t11⟩;have H11:=hd2 g11 t11;clear g11 t11 hkp C0 C1 C3 CK)
        have hb11:=H11.out.2.mod.at_ HZ.out.1 HZ.out.2.1.2
        have hbk11:=H11.out.2.mod.at_ HZ.out.2.2.2.2.1 HZ.out.2.2.2.2.2.2.2.2.2
        have C4:=blk_cell hb11
        have F4:=blk_free hb11
        have CK:=blk_cell hbk11
        have HY:=hide hb11
        clear hb11 hbk11
        go_wp2_with fail
        obtain ⟨W12,hW12⟩:∃ W12,W12=st6 w11 B4 (.int .i64 nx) (.int .i64 holder) (.string path) (.int .i64 mode) (.slice q9 nS c9) (.int .i64 t):=⟨_,rfl⟩
        have hb12:=st6_heap HY.out (.int .i64 nx) (.int .i64 holder) (.string path) (.int .i64 mode) (.slice q9 nS c9) (.int .i64 t)
        have m12:=st6_mod w11 B4 (.int .i64 nx) (.int .i64 holder) (.string path) (.int .i64 mode) (.slice q9 nS c9) (.int .i64 t)
        rw [← hW12] at hb12 m12
        unfold st6 at hW12
        rw [← hW12]
        refine bodyPost_ret (res_cell2 Tryz.results13 _ _ rfl hb12 haE hzE rfl) rfl ?_
        rw [← HGZ.out]
        have e:=HNS.out
        subst e
        have hn4:B4 ∉ b11.all pg:=(Asd.to HZ.out.2.1 H11.out.2).2
        have t2:=HZ.out.2.2.2.2.2.2.1.trans H11.out.2
        refine ⟨q9,c9,rfl,row_base (Mod.row m12 (Mod.row H11.out.2.mod HZ.out.2.2.2.1 (fun k hk=>(HZ.out.2.2.1 k (by simp [ob,hk])).2)) (fun k hk e=>?_)) HZ.out.2.2.2.2.2.2.2.1,b11,H11.out.1.other m12 (fun k hk e=>hn4 (by
         have e':k=B4:=by simpa using e
         rw [← e']
         exact hk)),⟨?_,t2.own,t2.dk⟩,fun k hk=>(Asd.to (HZ.out.2.2.1 k hk) H11.out.2).2⟩
        · have e':k=B4:=by simpa using e
          have:=HZ.out.2.2.2.2.2.2.2.2.1 k (by simp [ob,hk])
          have:=HZ.out.2.2.2.2.2.1
          omega
        · exact t2.mod.trans m12 (fun _ x _=>x) (fun x hx hlt=>by
           have e':x=B4:=by simpa using hx
           have:=HPr.out.2
           omega)
      · have hgp:=HGQ.out
        rw [if_pos hkA] at hgp
        have C4:=blk_cell hb4
        have F4:=blk_free hb4
        have hkn:(kA != 0)=true:=by simpa using hkA
        have HGZ:=hide hgp
        clear hgp hkA hasd hkeep hb4 ha4 hlt7 hz78 hz79 hstA hst10 hro10 hbkA hbk10 hb0 hb1 hb3 hB48 tw10 hz8w h49
        go_wp2_with fail
        obtain ⟨W12,hW12⟩:∃ W12,W12=st6 w10 B4 (.int .i64 0) (.int .i64 0) (.string ⟨#[]⟩) (.int .i64 0) (.slice none 0 0) (.int .i64 0):=⟨_,rfl⟩
        have hb12:=st6_heap HZ.out.1 (.int .i64 0) (.int .i64 0) (.string ⟨#[]⟩) (.int .i64 0) (.slice none 0 0) (.int .i64 0)
        have m12:=st6_mod w10 B4 (.int .i64 0) (.int .i64 0) (.string ⟨#[]⟩) (.int .i64 0) (.slice none 0 0) (.int .i64 0)
        rw [← hW12] at hb12 m12
        unfold st6 at hW12
        rw [← hW12]
        refine bodyPost_ret (res_cell2 Tryz.results13 _ _ rfl hb12 haE hzE rfl) rfl ?_
        rw [← HGZ.out]
        have g12:=H10.out.1.other m12 (fun k hk e=>by
         have e':k=B4:=by simpa using e
         subst e'
         exact HZ.out.2.1.2 hk)
        refine give_none g12 ⟨?_,HZ.out.2.2.2.2.2.2.1.own,HZ.out.2.2.2.2.2.2.1.dk⟩
        exact HZ.out.2.2.2.2.2.2.1.mod.trans m12 (fun _ x _=>x) (fun x hx hlt=>by
         have e':x=B4:=by simpa using hx
         have:=HPr.out.2
         omega)
   · rw [if_pos hk0] at hgp
     have C4:=blk_cell HA.out.2.2.2
     have F4:=blk_free HA.out.2.2.2
     have hkn:(k != 0)=true:=by simpa using hk0
     have HR:=hide hgp
     clear hgp hk0
     go_wp2_with fail
     obtain ⟨W8,hW8⟩:∃ W8,W8=st6 w7 B4 (.int .i64 0) (.int .i64 0) (.string ⟨#[]⟩) (.int .i64 0) (.slice none 0 0) (.int .i64 0):=⟨_,rfl⟩
     have hb8:=st6_heap HA.out.2.2.2 (.int .i64 0) (.int .i64 0) (.string ⟨#[]⟩) (.int .i64 0) (.slice none 0 0) (.int .i64 0)
     have m8:=st6_mod w7 B4 (.int .i64 0) (.int .i64 0) (.string ⟨#[]⟩) (.int .i64 0) (.slice none 0 0) (.int .i64 0)
     rw [← hW8] at hb8 m8
     unfold st6 at hW8
     rw [← hW8]
     refine bodyPost_ret (res_cell2 Tryz.results13 _ _ rfl hb8 haE hzE rfl) rfl ?_
     rw [← HR.out]
     have g8:=HG7.out.1.other m8 (fun k hk e=>by
      have e':k=B4:=by simpa using e
      subst e'
      exact HA2.out.2.2.2.2 hk)
     refine give_none g8 ⟨?_,HG7.out.2.1.own,HG7.out.2.1.dk⟩
     exact HG7.out.2.1.mod.trans m8 (fun _ x _=>x) (fun x hx hlt=>by
      have e':x=B4:=by simpa using hx
      have:=HPr.out.2
      omega)
 · have h7:k=pre∧Mod [] W6 w7:=by
    rcases h7 with ⟨_,a,c⟩ | ⟨a,_⟩
    · exact ⟨a,c⟩
    · exact absurd a hp0
   obtain ⟨rfl,m7⟩:=h7
   rw [if_pos hp0] at hgp
   have m57:=H0.out.2.2.2.2.2.2.then m7
   have hb7:=m57.at_ HBB.out.2.2.2.1 (by simp)
   have C4:=blk_cell hb7
   have F4:=blk_free hb7
   have hkn:(k != 0)=true:=by simpa using hp0
   have HR:=hd3 m57 hb7 hgp
   clear hp0 hgp m57 hb7 m7 hgi H7 hpre hwr
   go_wp2_with fail
   obtain ⟨W8,hW8⟩:∃ W8,W8=st6 w7 B4 (.int .i64 0) (.int .i64 0) (.string ⟨#[]⟩) (.int .i64 0) (.slice none 0 0) (.int .i64 0):=⟨_,rfl⟩
   have hb8:=st6_heap HR.out.2.1 (.int .i64 0) (.int .i64 0) (.string ⟨#[]⟩) (.int .i64 0) (.slice none 0 0) (.int .i64 0)
   have m8:=st6_mod w7 B4 (.int .i64 0) (.int .i64 0) (.string ⟨#[]⟩) (.int .i64 0) (.slice none 0 0) (.int .i64 0)
   rw [← hW8] at hb8 m8
   unfold st6 at hW8
   rw [← hW8]
   refine bodyPost_ret (res_cell2 Tryz.results13 _ _ rfl hb8 haE hzE rfl) rfl ?_
   rw [← HR.out.2.2]
   have hB4:=HBB.out
   have mm:Mod [] w W8:=mod_fresh (HBB.out.2.2.2.2.2.1.then HR.out.1) m8 (by simp;omega)
   exact give_none (H0.out.2.2.2.2.1.quiet mm) (GTo.quiet mm)
end
end Go.Proofs.YtllljngpgjkdiaaGreatDoor
/-
  WALKS: layer 16: List, Held.
-/
namespace Go.Proofs.YtllljngpgjkdiaaGreatDoor
set_option maxRecDepth 100000
set_option maxHeartbeats 2000000
open Go.RowKit Go.Maps

def encH (p:Hld × Value):List Value:=[.int .i64 p.1.gr.id,.int .i64 p.1.gr.holder,.string p.1.gr.path,.int .i64 p.1.gr.mode,p.2,.int .i64 p.1.gr.term,.int .i64 p.1.exp,.int .i64 p.1.org,.int .i64 p.1.num]
theorem encH_len (p:Hld × Value):(encH p).length=9:=rfl
def aggH (x:Hld) (sv:Value):Value:=.agg (encH (x,sv)).toArray
structure HlM (w:World) (base:Nat) (v:Value) (lh:List (Hld × Value)):Prop where
 row:w.ownsRow base 44 9 v lh.length (lh.flatMap encH)
 st:∀ p,p∈lh→w.ownsRow base 3 1 p.2 p.1.gr.stamp.length (p.1.gr.stamp.map (Value.int .i64))∧∀ k,k∈ob p.2→k ∉ ob v
theorem HlM.mod {w w':World} {base:Nat} {v:Value} {lv:List (Hld × Value)} (h:HlM w base v lv) {S:List Nat} (m:Mod S w w') (hS:∀ k,k∈S→k<base∨w.heap.size≤k):HlM w' base v lv:=by
 refine ⟨m.row h.row (fun k hk e=>?_),fun p hp=>⟨m.row (h.st p hp).1 (fun k hk e=>?_),(h.st p hp).2⟩⟩
 · have:=h.row.lt k hk
   have:=hS k e
   omega
 · have:=(h.st p hp).1.lt k hk
   have:=hS k e
   omega
theorem HlM.at_ {w:World} {base:Nat} {q:Option Addr} {n c:Nat} {lv:List (Hld × Value)} (h:HlM w base (.slice q n c) lv) (i:Nat) (hi:i<lv.length) :
 ∃ b,q=some ⟨b,0,none⟩∧base≤b∧b<w.heap.size∧(∀ j,j<9→w.cell? ⟨b,i * 9+j,none⟩=(encH (lv.getD i default))[j]?)∧(∀ j,w.frozen? ⟨b,j,none⟩=false)∧RdN w (lv.getD i default).2 (lv.getD i default).1.gr.stamp:=by
 have hm:lv.getD i default∈lv:=by simp [hi]
 have hst:=rdN_of_row (h.st _ hm).1
 rcases h.row.2 with ⟨hv,hn⟩ | ⟨g,cap,cur,hv,hb,hg,hh1,hh2,hs,ht⟩
 · omega
 · simp only [Value.slice.injEq] at hv
   obtain ⟨rfl,rfl,rfl⟩:=hv
   refine ⟨g,rfl,hb,lt_of_block hg,fun j hj=>?_,fun j=>blk_free hg j,hst⟩
   rw [h.row.cellAt (i * 9+j) (by omega),flat_get encH 9 encH_len lv i j hi hj]
theorem info_held:(Tryz.prog.info? 44).map (fun i=>(i.zero,i.size,i.bytes))=some (some (aggH Hld.zero (.slice none 0 0)),9,96):=by kernel_rfl
theorem one_H {g:Hld} {sv:Value} (hs:sv.oneCell'=true):∀ u∈encH (g,sv),u.oneCell'=true:=by
 intro u hu
 simp only [encH,List.mem_cons,List.not_mem_nil,or_false] at hu
 rcases hu with rfl | rfl | rfl | rfl | rfl | rfl | rfl | rfl | rfl <;> first | rfl | exact hs
theorem wpList_app_h {ops:Array Oper} {rest:List Oper} {o:Oper} {a:Act} {Q:Exit→Act→World→Prop} (w:World) (hgd:o.guard=none) (s x:Operand)
 (ho:o.op=.call { callee:=.builtin .append,args:=#[s,x],argTypes:=#[49,49] })
 {base n:Nat} {u:Value} {xs:List Value} (hs:a.eval s=u) (h:w.ownsRow base 44 9 u n xs) (hn:n≤1000000) (hbase:base≤w.heap.size) {k:Nat} (hx:a.eval x=.slice (some ⟨k,0,none⟩) 1 1) {p:Hld × Value}
 (hk:w.heap[k]?=some (.cells (encH p).toArray 44 (0,0))) (hone:p.2.oneCell'=true)
 (hK:∀ u' w',w'.ownsRow base 44 9 u' (n+1) (xs++encH p)→Mod (ob u) w w'→(∃ p c,u'=.slice p (n+1) c)→(∀ k,k∈ob u'→k∈ob u∨w.heap.size≤k)→wpList Tryz.prog ops Q rest (a.put o.dst u') w'):wpList Tryz.prog ops Q (o::rest) a w:=by
 obtain ⟨i0,hi0,hz0,hs0,hb0⟩:=info_parts info_held
 refine wpList_append_lies w hgd s x 49 ho base 44 i0 _ 9 96 Tryz.underlying49 hi0 hz0 hs0 hb0 rfl (by decide) _ _ _ hs h ⟨k,0,none⟩ 1 1 (encH p) hx rfl (World.news_of_block (cs:=(encH p).toArray) (t:=44) (fr:=(0,0)) hk) (one_H hone) (by decide) (by unfold maxLen;omega) (by omega) hbase ?_
 intro g' cap w' hr hg hat
 have hm:Mod (ob u) w w':=(Mod.refl (ob u) w).grown hg (fun k e _=>by simp [ob,e])
 have hu:∀ k,k∈ob (.slice (some ⟨g',0,none⟩) (n+1) cap)→k∈ob u∨w.heap.size≤k:=fun k hk=>by
  have:k=g':=by simpa [ob,Value.ownBlock] using hk
  subst this
  rcases hat with e | e
  · exact .inl (by simp [ob,e])
  · exact .inr (by omega)
 exact hK _ _ hr hm ⟨_,_,rfl⟩ hu
theorem build_held (i h:Int) (p:ByteArray) (m:Int) (v:Value) (t e o k:Int) (w:World):(Instr.build 44 #[(0,.agg #[.int .i64 i,.int .i64 h,.string p,.int .i64 m,v,.int .i64 t]),(1,.int .i64 e),(2,.int .i64 o),(3,.int .i64 k)]).run Tryz.prog w=.ok (.agg #[.int .i64 i,.int .i64 h,.string p,.int .i64 m,v,.int .i64 t,.int .i64 e,.int .i64 o,.int .i64 k]) w:=run_build w 44 _ _ (by kernel_rfl)
section
variable {w:World} {pg:Nat} {b:GB} {d:Dk} {g:Gtr}
def mkH (nt:List (Int × Nt)) (p:Grt × Value):Hld × Value:=(hldOf nt p.1,p.2)
def LstRel (W1:World) (lv:List (Grt × Value)) (nt:List (Int × Nt)) (u i:Value) (wr:World):Prop :=
 ∃ k:Nat,i=.int .i64 (k:Int)∧k≤lv.length∧wr.ownsRow W1.heap.size 44 9 u k (((lv.take k).map (mkH nt)).flatMap encH)∧Mod [] W1 wr
def ListTo (w:World) (l:List Hld) (e:Ending) (w':World):Prop :=
 ∃ q c lh,e=.returned (.slice q lh.length c)∧lh.map Prod.fst=l∧HlM w' w.heap.size (.slice q lh.length c) lh∧Mod [] w w'
theorem list_any (h:GM w pg b d g) (hi:GI g):Calls Tryz.prog 22 #[.pointer (some ⟨pg,0,none⟩)] w fun e w'=>ListTo w (listG g) e w':=by
 have hbk:=h.book hi
 have C0:=h.c0
 have hpg:=lt_of_block h.blk
 have hsix:=hi.six
 have HH:=hd2 h hi
 have hfl:=field_bk3
 have hbd:=build_held
 clear h hi
 go_enter Tryz.func22,Tryz.ntmps22
 go_wp2_with (go_at_call 38;refine hbk.mono ?_;rintro e w1 ⟨q,n,c,lv,rfl,hB,m,-⟩
              obtain ⟨q1,c1,hv1,-⟩:=hB.gr.shape
              simp only [Value.slice.injEq] at hv1
              obtain ⟨rfl,rfl,rfl⟩:=hv1
              have H1:=hd2 hB m
              clear hB m hbk C0)
 have hll:lv.length≤6:=by
  have:=congrArg List.length H1.out.1.eq
  rw [List.length_map] at this
  omega
 go_loopw [3,16] (fun u i wr=>LstRel w1 lv g.nt u i wr) (fun _ i _=>lv.length - (intOf i).toNat)
 case atStart=>exact ⟨0,rfl,Nat.zero_le _,World.ownsRow_nil _ _ _ _,Mod.refl _ _⟩
 case round =>
  obtain ⟨k,rfl,hk,hrow,hm⟩:=hrel
  by_cases hlt:k<lv.length
  · obtain ⟨bb,rfl,hbb,hb1,hc,hf,hrd⟩:=(H1.out.1.gr.mod hm (by simp)).at_ k hlt
    have hgm:(lv.getD k default).1∈g.l.book.grants:=by rw [H1.out.1.eq];exact List.mem_map.2 ⟨lv.getD k default,by simp [hlt],rfl⟩
    have hwf:=HH.out.2.wf hgm
    have htk:((lv.take (k+1)).map (mkH g.nt)).flatMap encH=((lv.take k).map (mkH g.nt)).flatMap encH++encH (mkH g.nt (lv.getD k default)):=by rw [List.take_add_one,List.map_append,List.flatMap_append];simp [hlt]
    generalize lv.getD k default=pr at hc hrd hwf htk
    obtain ⟨⟨id,ho,pa,mo,st,te⟩,sv⟩:=pr
    simp only at hrd hwf
    obtain ⟨qs,cs,rfl⟩:=hrd.len
    have c0:wr.cell? ⟨bb,k * 6,none⟩=some (.int .i64 id):=hc 0 (by decide)
    have c1:wr.cell? ⟨bb,k * 6+1,none⟩=some (.int .i64 ho):=hc 1 (by decide)
    have c2:wr.cell? ⟨bb,k * 6+2,none⟩=some (.string pa):=hc 2 (by decide)
    have c3:wr.cell? ⟨bb,k * 6+3,none⟩=some (.int .i64 mo):=hc 3 (by decide)
    have c4:wr.cell? ⟨bb,k * 6+4,none⟩=some (.slice qs st.length cs):=hc 4 (by decide)
    have c5:wr.cell? ⟨bb,k * 6+5,none⟩=some (.int .i64 te):=hc 5 (by decide)
    obtain ⟨W2,hW2⟩:∃ W2,W2=wr.alloc (.cells #[.int .i64 id,.int .i64 ho,.string pa,.int .i64 mo,.slice qs st.length cs,.int .i64 te] 35 (0,0)):=⟨_,rfl⟩
    have hb2:W2.heap[wr.heap.size]?=some (.cells #[.int .i64 id,.int .i64 ho,.string pa,.int .i64 mo,.slice qs st.length cs,.int .i64 te] 35 (0,0)):=by rw [hW2];exact heap_alloc_new wr _
    have m2:Mod [] wr W2:=by rw [hW2];exact (Mod.refl _ _).alloc _
    have g2:=HH.out.1.quiet ((H1.out.2.then hm).then m2)
    have hl:=fun (W:World) (m:Mod [] W2 W)=>(g2.quiet m).look hwf
    unfold aggN at hl
    obtain ⟨⟨ne,no,nn⟩,hnt⟩:∃ n,ntAt g.nt id=n:=⟨_,rfl⟩
    rw [hnt] at hl
    simp only at hl
    have HLK:=hide hl
    have HC2:=hide (fun (W:World) (m:Mod [] W2 W)=>(g2.quiet m).c2)
    have HCB:=hide (fun (W:World) (m:Mod [] W2 W)=>blk_cell (m.at_ hb2 (by simp)))
    have hmk:mkH g.nt (⟨id,ho,pa,mo,st,te⟩,.slice qs st.length cs)=(⟨⟨id,ho,pa,mo,st,te⟩,ne,no,nn⟩,.slice qs st.length cs):=by unfold mkH hldOf;simp only;rw [hnt]
    rw [hmk] at htk
    have hpg2:=lt_of_block g2.blk
    have hb2lt:=lt_of_block hb2
    have HM:=hd4 hm hrow m2 htk
    have hi1:(k:Int)<(lv.length:Int):=by omega
    obtain ⟨W3,hW3⟩:∃ W3,W3=(W2.alloc (.cells #[.int .i64 0,.int .i64 0,.int .i64 0] 96 (0,0))).drew:=⟨_,rfl⟩
    have hb3:W3.heap[W2.heap.size]?=some (.cells #[.int .i64 0,.int .i64 0,.int .i64 0] 96 (0,0)):=by rw [hW3];exact heap_alloc_new W2 _
    have m23:Mod [] W2 W3:=by rw [hW3];exact ((Mod.refl [] W2).alloc _).drew
    obtain ⟨W4,hW4⟩:∃ W4,W4=stL W3 W2.heap.size 0 [.int .i64 ne,.int .i64 no,.int .i64 nn]:=⟨_,rfl⟩
    have hb4:=stL_all hb3 [.int .i64 ne,.int .i64 no,.int .i64 nn] rfl
    have m34:=stL_mod (S:=[W2.heap.size]) (r:=W2.heap.size) (w0:=W3) (fun _=>by simp) [.int .i64 ne,.int .i64 no,.int .i64 nn] 0 W3 (Mod.refl [W2.heap.size] W3)
    rw [← hW4] at hb4 m34
    have m24:Mod [] W2 W4:=mod_fresh m23 m34 (by simp)
    obtain ⟨W5,hW5⟩:∃ W5,W5=W4.alloc (.cells (encH (⟨⟨id,ho,pa,mo,st,te⟩,ne,no,nn⟩,.slice qs st.length cs)).toArray 44 (0,0)):=⟨_,rfl⟩
    have hk5:W5.heap[W4.heap.size]?=some (.cells (encH (⟨⟨id,ho,pa,mo,st,te⟩,ne,no,nn⟩,.slice qs st.length cs)).toArray 44 (0,0)):=by rw [hW5];exact heap_alloc_new W4 _
    have m25:Mod [] W2 W5:=by rw [hW5];exact m24.alloc _
    have hb24:=m24.at_ hb2 (by simp)
    unfold stL at hW4
    unfold stL at hW4
    unfold stL at hW4
    unfold stL at hW4
    unfold encH at hW5
    simp only at hW5
    have HW:=hd3 m25 hk5 hW5
    have HW3:=hd3 hW3 hb3 m23
    have HW4:=hd4 hW4 hb4 m24 hb24
    clear hW3 hb3 m23 hW4 hb4 m24 hb24 m34 m25 hk5 hW5
    clear hc hrd hwf htk hm hrow hnt hmk m2 hgm g2 hl
    go_upto_region 7 with fail
    rw [← hW2]
    clear hW2 c0 c1 c2 c3 c4 c5
    refine pB 999 (Mod [] W2) ((Mod.refl [] W2).drew) ?_
    refine pP 0 ?_;refine pP 1 ?_;refine pP 2 ?_
    refine pH 3 rfl (fun w h=>by have D:=HC2.out _ h;go_simp;try with_reducible rfl) ?_
    refine pP 4 ?_
    refine pH 5 rfl (fun w h=>by have D:=HCB.out _ h;go_simp;try with_reducible rfl) ?_
    refine pH 6 rfl (fun w h=>by have D:=HLK.out _ h;go_simp;try with_reducible rfl) ?_
    refine pX 7 fun hT K HK=>?_
    go_simp
    rw [← HW3.out.1]
    refine HK.out _ _ _ HW3.out.2.2 ?_
    clear HK K hT
    refine pX 8 fun hT K HK=>?_
    have C3:=blk_cell HW3.out.2.1
    have F3:=blk_free HW3.out.2.1
    go_simp
    rw [← HW4.out.1]
    refine HK.out _ _ _ HW4.out.2.2.1 ?_
    clear HK K hT C3 F3
    refine pE fun hT=>?_
    clear hT
    have CN:=blk_cell HW4.out.2.1
    have CB:=blk_cell HW4.out.2.2.2
    go_wp2_with (
     at_builtin
     rw [← HW.out.2.2]
     have hsz:=H1.out.2.size
     have hsr:=HM.out.1.size
     have hs2:=HM.out.2.2.1.size
     have hs4:=HW.out.1.size
     refine wpList_app_h (n:=k) (p:=(⟨⟨id,ho,pa,mo,st,te⟩,ne,no,nn⟩,.slice qs st.length cs)) W5 rfl _ _ rfl rfl ((HM.out.2.2.1.then HW.out.1).row HM.out.2.1 (by simp)) (by omega) (by omega) (k:=W4.heap.size) rfl HW.out.2.1 rfl ?_
     rintro u' w5 hr5 hm5 ⟨p5,c5,rfl⟩ -)
    go_roundw
    case rel =>
     refine ⟨k+1,by go_num,by omega,by rw [HM.out.2.2.2];exact hr5,?_⟩
     exact ((HM.out.1.then HM.out.2.2.1).then HW.out.1).trans hm5 (by simp) (fun x hx hlt=>by
      have:=(ob_of_row HM.out.2.1 x hx).1
      omega)
    case measure=>simp [intOf];omega
  · obtain rfl:k=lv.length:=by omega
    obtain ⟨q3,c3,rfl,-⟩:=row_form hrow
    rw [List.take_length] at hrow
    have HX:=hd2 hrow hm
    clear hrow hm
    go_wp2_with fail
    go_ret
    have hlm:(lv.map (mkH g.nt)).length=lv.length:=by simp
    refine ⟨q3,c3,lv.map (mkH g.nt),by rw [hlm];rfl,?_,⟨?_,fun p hp=>?_⟩,H1.out.2.then HX.out.2⟩
    · unfold listG
      rw [H1.out.1.eq,List.map_map,List.map_map]
      rfl
    · rw [hlm]
      exact row_base HX.out.1 H1.out.2.size
    · obtain ⟨p0,hp0,rfl⟩:=List.mem_map.1 hp
      have hs:=(H1.out.1.gr.st p0 hp0).1
      refine ⟨HX.out.2.row hs (by simp),fun x hx hx2=>?_⟩
      have h1:=(ob_of_row hs x hx).2
      have h2:=(ob_of_row HX.out.1 x (by rw [hlm] at hx2;exact hx2)).1
      omega
end
end Go.Proofs.YtllljngpgjkdiaaGreatDoor
/-
  WALKS: layer 16: Held, End, Done.
-/
namespace Go.Proofs.YtllljngpgjkdiaaGreatDoor
set_option maxRecDepth 100000
set_option maxHeartbeats 2000000
open Go.RowKit Go.Maps

section
variable {w:World} {pg:Nat} {b:GB} {d:Dk} {g:Gtr}
theorem held1_any (x:Hld) (sv:Value) {bx:Nat} {id:Int} (hb:w.cell? ⟨bx,0,none⟩=some (.int .i64 id)) :
 Calls Tryz.prog 63 #[aggH x sv,.pointer (some ⟨bx,0,none⟩)] w fun e w'=>e=.returned (.bool (decide (x.gr.id=id)))∧Mod [] w w':=by
 obtain ⟨⟨xi,xh,xp,xm,xs,xt⟩,xe,xo,xn⟩:=x
 unfold aggH encH
 simp only
 have hlt:=World.block_lt_of_cell? w _ hb
 have G:=hide ((Mod.refl [] w).alloc (.cells #[.int .i64 xi,.int .i64 xh,.string xp,.int .i64 xm,sv,.int .i64 xt,.int .i64 xe,.int .i64 xo,.int .i64 xn] 44 (0,0)))
 have e:decide (xi=id)=(xi==id):=by rw [Bool.eq_iff_iff];simp
 rw [e]
 generalize hq:(xi==id)=r
 go_enter Tryz.func63,Tryz.ntmps63
 go_wp2_with fail
 go_ret
 exact ⟨rfl,G.out⟩
def HIdx (w:World) (lh:List (Hld × Value)) (id:Int) (i:Value) (wr:World):Prop:=∃ k:Nat,k≤lh.length∧i=.int .i64 k∧(∀ j,j<k→(lh.getD j default).1.gr.id≠id)∧Mod [] w wr
theorem hindex_any {base:Nat} {q:Option Addr} {c:Nat} {lh:List (Hld × Value)} (h:HlM w base (.slice q lh.length c) lh) (hn:lh.length≤1000) {bx:Nat} {id:Int} (hb:w.cell? ⟨bx,0,none⟩=some (.int .i64 id)) :
 Calls Tryz.prog 62 #[.slice q lh.length c,.func (.func 63) #[] #[.pointer (some ⟨bx,0,none⟩)]] w fun e w' =>
  ∃ iv:Int,e=.returned (.int .i64 iv)∧Mod [] w w'∧((iv = -1∧∀ j,j<lh.length→(lh.getD j default).1.gr.id≠id)∨∃ k:Nat,iv=(k:Int)∧k<lh.length∧(∀ j,j<k→(lh.getD j default).1.gr.id≠id)∧(lh.getD k default).1.gr.id=id):=by
 have HH:=hide h
 have hlt:=World.block_lt_of_cell? w _ hb
 clear h
 go_enter Tryz.func62,Tryz.ntmps62
 go_wp2_with fail
 go_loopw [8] (fun i wr=>HIdx w lh id i wr) (fun i _=>lh.length - (intOf i).toNat)
 case atStart=>exact ⟨0,Nat.zero_le _,rfl,by simp,Mod.refl _ _⟩
 case round =>
  obtain ⟨k,hk,rfl,hd,hm⟩:=hrel
  have HD:=hd2 hd hm
  have hbr:=hm.kept hb (by simp)
  by_cases hlt:k<lh.length
  · obtain ⟨bb,rfl,-,-,hc,-,hrd⟩:=(HH.out.mod hm (by simp)).at_ k hlt
    have h1:=fun {W:World} (x:Hld) (sv:Value) (hb:W.cell? ⟨bx,0,none⟩=some (.int .i64 id))=>held1_any x sv hb
    generalize hdk:lh.getD k default=x at hc hrd
    have HK:=hide hdk
    obtain ⟨⟨⟨xi,xh,xp,xm,xs,xt⟩,xe,xo,xn⟩,sv⟩:=x
    have h2:=h1 ⟨⟨xi,xh,xp,xm,xs,xt⟩,xe,xo,xn⟩ sv hbr
    unfold aggH encH at h2
    simp only at h2 hrd
    obtain ⟨qs,cs,rfl⟩:=hrd.len
    have k0:wr.cell? ⟨bb,k * 9,none⟩=some (.int .i64 xi):=hc 0 (by decide)
    have k1:wr.cell? ⟨bb,k * 9+1,none⟩=some (.int .i64 xh):=hc 1 (by decide)
    have k2:wr.cell? ⟨bb,k * 9+2,none⟩=some (.string xp):=hc 2 (by decide)
    have k3:wr.cell? ⟨bb,k * 9+3,none⟩=some (.int .i64 xm):=hc 3 (by decide)
    have k4:wr.cell? ⟨bb,k * 9+4,none⟩=some (.slice qs xs.length cs):=hc 4 (by decide)
    have k5:wr.cell? ⟨bb,k * 9+5,none⟩=some (.int .i64 xt):=hc 5 (by decide)
    have k6:wr.cell? ⟨bb,k * 9+6,none⟩=some (.int .i64 xe):=hc 6 (by decide)
    have k7:wr.cell? ⟨bb,k * 9+7,none⟩=some (.int .i64 xo):=hc 7 (by decide)
    have k8:wr.cell? ⟨bb,k * 9+8,none⟩=some (.int .i64 xn):=hc 8 (by decide)
    have i1:(0:Int)≤(k:Int):=by omega
    have i2:(k:Int)<(lh.length:Int):=by omega
    generalize hr:decide (xi=id)=r at h2
    have HR:=hide hr
    clear hc hrd hdk h1 hm hd hb hbr hr
    go_wp2_with (go_at_call 63;refine h2.mono ?_;rintro e w2 ⟨rfl,m2⟩;have H2:=hide m2;clear m2 h2 k0 k1 k2 k3 k4 k5 k6 k7 k8)
    · go_ret
      exact ⟨k,rfl,HD.out.2.then H2.out,.inr ⟨k,rfl,hlt,HD.out.1,by rw [HK.out];have q:=HR.out;simp_all⟩⟩
    · go_roundw
      case rel=>exact ⟨k+1,by omega,by go_num,fun j hj=>by
       by_cases e:j=k
       · subst e;rw [HK.out];have q:=HR.out;simp_all
       · exact HD.out.1 j (by omega),HD.out.2.then H2.out⟩
      case measure=>simp [intOf];omega
  · go_wp2_with fail
    go_ret
    exact ⟨-1,rfl,HD.out.2,.inl ⟨rfl,fun j hj=>HD.out.1 j (by omega)⟩⟩
def HeldTo (w:World) (o:Option Hld) (e:Ending) (w':World):Prop :=
 ∃ q c,e=.returned (.tuple #[aggH (o.getD Hld.zero) (.slice q (o.getD Hld.zero).gr.stamp.length c),.bool o.isSome])∧w'.ownsRow w.heap.size 3 1 (.slice q (o.getD Hld.zero).gr.stamp.length c) (o.getD Hld.zero).gr.stamp.length ((o.getD Hld.zero).gr.stamp.map (Value.int .i64))∧Mod [] w w'
theorem find_none {l:List Hld} {id:Int} (h:∀ j,j<l.length→(l.getD j default).gr.id≠id):(l.find? fun h=>decide (h.gr.id=id))=none:=by
 rw [List.find?_eq_none]
 intro x hx
 obtain ⟨j,hj,rfl⟩:=List.getElem_of_mem hx
 have:=h j hj
 simpa [hj] using this
theorem find_at {l:List Hld} {id:Int} {k:Nat} (hk:k<l.length) (h:∀ j,j<k→(l.getD j default).gr.id≠id) (h2:(l.getD k default).gr.id=id):(l.find? fun h=>decide (h.gr.id=id))=some (l.getD k default):=by
 rw [List.find?_eq_some_iff_getElem]
 refine ⟨by simpa using h2,k,hk,by simp [hk],fun j hj=>?_⟩
 have:=h j hj
 have hjl:j<l.length:=by omega
 simpa [hjl] using this
theorem held_of {v:Option Addr} {l:List Hld} (hl:∀ W,Mod [] w W→Calls Tryz.prog 22 #[.pointer v] W fun e w'=>ListTo W l e w') (hn:l.length≤1000) (id:Int) :
 Calls Tryz.prog 18 #[.pointer v,.int .i64 id] w fun e w'=>HeldTo w (l.find? fun h=>decide (h.gr.id=id)) e w':=by
 obtain ⟨o,ho⟩:∃ o,(l.find? fun h=>decide (h.gr.id=id))=o:=⟨_,rfl⟩
 rw [ho]
 obtain ⟨W1,hW1⟩:∃ W1,W1=(w.alloc (.cells #[.int .i64 id] 3 (0,0))).alloc (.cells #[.int .i64 0,.int .i64 0,.string ⟨#[]⟩,.int .i64 0,.slice none 0 0,.int .i64 0,.int .i64 0,.int .i64 0,.int .i64 0] 44 (0,0)):=⟨_,rfl⟩
 have b0:W1.heap[w.heap.size]?=some (.cells #[.int .i64 id] 3 (0,0)):=by rw [hW1];exact blk_alloc (heap_alloc_new w _) _
 have b1:W1.heap[w.heap.size+1]?=some (.cells #[.int .i64 0,.int .i64 0,.string ⟨#[]⟩,.int .i64 0,.slice none 0 0,.int .i64 0,.int .i64 0,.int .i64 0,.int .i64 0] 44 (0,0)):=by
  rw [hW1]
  have:=heap_alloc_new (w.alloc (.cells #[.int .i64 id] 3 (0,0))) (.cells #[.int .i64 0,.int .i64 0,.string ⟨#[]⟩,.int .i64 0,.slice none 0 0,.int .i64 0,.int .i64 0,.int .i64 0,.int .i64 0] 44 (0,0))
  simpa using this
 have m1:Mod [] w W1:=by rw [hW1];exact ((Mod.refl _ _).alloc _).alloc _
 have hl1:=hl W1 m1
 have hs1:W1.heap.size=w.heap.size+2:=by rw [hW1];simp
 have HB:=hd5 b0 b1 m1 hs1 ho
 have hls:∀ k:Nat,(Lit.int .i64 0).wf=true:=fun _=>rfl
 clear hl b0 b1 m1 hs1 ho hls
 go_enter Tryz.func18,Tryz.ntmps18
 go_upto_region 1 with fail
 rw [← hW1]
 clear hW1
 go_upto_region 3 with (first
  | (go_at_call 22;refine hl1.mono ?_;rintro e w2 ⟨q,c,lh,rfl,hmap,h2,m2⟩;have H2:=hd3 hmap h2 m2;clear hmap h2 m2 hl1)
  | (go_at_call 62
     refine (hindex_any (id:=id) H2.out.2.1 (by have:=congrArg List.length H2.out.1;rw [List.length_map] at this;omega) (by rw [blk_cell (H2.out.2.2.at_ HB.out.1 (by simp))];rfl)).mono ?_
     rintro e w3 ⟨iv,rfl,m3,hiv⟩
     have H3:=hd2 m3 hiv
     clear m3 hiv)
  | fail)
 have hmapl:=congrArg List.length H2.out.1
 rw [List.length_map] at hmapl
 have hget:∀ j,j<lh.length→l.getD j default=(lh.getD j default).1:=fun j hj=>by rw [← H2.out.1];simp [hj]
 have m03:=(HB.out.2.2.1.then H2.out.2.2).then H3.out.1
 have hb3:=(H2.out.2.2.then H3.out.1).at_ HB.out.2.1 (by simp)
 have C1:=blk_cell hb3
 have F1:=blk_free hb3
 have hl3:=lt_of_block hb3
 have haE:=Tryz.isAgg44
 have hzE:=Tryz.sizeOf44
 have HX:=hd2 m03 hb3
 rcases H3.out.2 with ⟨e1,hno⟩ | ⟨k,e1,hk,hno,hy⟩
 · have ho:=HB.out.2.2.2.2
   rw [find_none (fun j hj=>by rw [hget j (by omega)];exact hno j (by omega))] at ho
   subst ho e1
   have HN:=hide hno
   clear hno hget hmapl m03 hb3
   go_wp2_with fail
   refine bodyPost_ret (res_cell2 Tryz.results18 _ _ rfl (stL_all HX.out.2 [.int .i64 0,.int .i64 0,.string ⟨#[]⟩,.int .i64 0,.slice none 0 0,.int .i64 0,.int .i64 0,.int .i64 0,.int .i64 0] rfl) haE hzE rfl) rfl ⟨none,0,rfl,World.ownsRow_nil _ _ _ _,?_⟩
   exact mod_fresh HX.out.1 (stL_mod (S:=[w.heap.size+1]) (r:=w.heap.size+1) (w0:=w3) (fun _=>by simp) [.int .i64 0,.int .i64 0,.string ⟨#[]⟩,.int .i64 0,.slice none 0 0,.int .i64 0,.int .i64 0,.int .i64 0,.int .i64 0] 0 w3 (Mod.refl _ w3)) (by simp)
 · have ho:=HB.out.2.2.2.2
   have hst:=(H2.out.2.1.st (lh.getD k default) (by simp [hk])).1
   rw [find_at (k:=k) (by omega) (fun j hj=>by rw [hget j (by omega)];exact hno j hj) (by rw [hget k hk];exact hy),hget k hk] at ho
   subst e1
   obtain ⟨bb,hqe,-,-,hc,-,hrd⟩:=(H2.out.2.1.mod H3.out.1 (by simp)).at_ k hk
   subst hqe
   generalize lh.getD k default=x at hc hrd hst ho
   obtain ⟨⟨⟨xi,xh,xp,xm,xs,xt⟩,xe,xo,xn⟩,sv⟩:=x
   simp only at hrd hst ho
   have HO:=hide ho
   obtain ⟨qs,cs,rfl⟩:=hrd.len
   have k0:w3.cell? ⟨bb,k * 9,none⟩=some (.int .i64 xi):=hc 0 (by decide)
   have k1:w3.cell? ⟨bb,k * 9+1,none⟩=some (.int .i64 xh):=hc 1 (by decide)
   have k2:w3.cell? ⟨bb,k * 9+2,none⟩=some (.string xp):=hc 2 (by decide)
   have k3:w3.cell? ⟨bb,k * 9+3,none⟩=some (.int .i64 xm):=hc 3 (by decide)
   have k4:w3.cell? ⟨bb,k * 9+4,none⟩=some (.slice qs xs.length cs):=hc 4 (by decide)
   have k5:w3.cell? ⟨bb,k * 9+5,none⟩=some (.int .i64 xt):=hc 5 (by decide)
   have k6:w3.cell? ⟨bb,k * 9+6,none⟩=some (.int .i64 xe):=hc 6 (by decide)
   have k7:w3.cell? ⟨bb,k * 9+7,none⟩=some (.int .i64 xo):=hc 7 (by decide)
   have k8:w3.cell? ⟨bb,k * 9+8,none⟩=some (.int .i64 xn):=hc 8 (by decide)
   have hst2:=H3.out.1.row hst (by simp)
   have hz2:w.heap.size+2≤w2.heap.size:=by have:=H2.out.2.2.size;have:=HB.out.2.2.2.1;omega
   have hs1:=HB.out.2.2.2.1
   have i1:(0:Int)≤(k:Int):=by omega
   have i2:(k:Int)<(lh.length:Int):=by omega
   have i3:decide ((k:Int)<0)=false:=decide_eq_false (by omega)
   have HST:=hd3 hst2 hz2 hs1
   clear hno hy hget hmapl m03 hb3 hc hrd hst hst2 hz2 hs1 ho
   go_wp2_with fail
   refine bodyPost_ret (res_cell2 Tryz.results18 _ _ rfl (stL_all HX.out.2 [.int .i64 xi,.int .i64 xh,.string xp,.int .i64 xm,.slice qs xs.length cs,.int .i64 xt,.int .i64 xe,.int .i64 xo,.int .i64 xn] rfl) haE hzE rfl) rfl ?_
   rw [← HO.out]
   refine ⟨qs,cs,rfl,?_,?_⟩
   · refine Mod.row (stL_mod (S:=[w.heap.size+1]) (r:=w.heap.size+1) (w0:=w3) (fun _=>by simp) [.int .i64 xi,.int .i64 xh,.string xp,.int .i64 xm,.slice qs xs.length cs,.int .i64 xt,.int .i64 xe,.int .i64 xo,.int .i64 xn] 0 w3 (Mod.refl _ w3)) (row_base HST.out.1 (by have:=HST.out.2.2;omega)) (fun x hx e=>?_)
     have hx':(Value.slice qs xs.length cs).ownBlock=some x:=hx
     have h1:=(ob_of_row HST.out.1 x (by simp [ob,hx'])).1
     have h2:=HST.out.2.2
     have e':x=w.heap.size+1:=by simpa using e
     omega
   · exact mod_fresh HX.out.1 (stL_mod (S:=[w.heap.size+1]) (r:=w.heap.size+1) (w0:=w3) (fun _=>by simp) [.int .i64 xi,.int .i64 xh,.string xp,.int .i64 xm,.slice qs xs.length cs,.int .i64 xt,.int .i64 xe,.int .i64 xo,.int .i64 xn] 0 w3 (Mod.refl _ w3)) (by simp)
theorem list_len {g:Gtr} (hi:GI g):(listG g).length≤1000:=by
 have:=hi.six
 unfold listG
 rw [List.length_map]
 omega
theorem held_any (h:GM w pg b d g) (hi:GI g) (id:Int):Calls Tryz.prog 18 #[.pointer (some ⟨pg,0,none⟩),.int .i64 id] w fun e w'=>HeldTo w (heldG g id) e w' :=
 held_of (fun _ m=>list_any (h.quiet m) hi) (list_len hi) id
theorem list_nil (w:World):Calls Tryz.prog 22 #[.pointer none] w fun e w'=>ListTo w [] e w':=by
 go_enter Tryz.func22,Tryz.ntmps22
 go_wp2_with fail
 go_ret
 exact ⟨none,0,[],rfl,rfl,⟨World.ownsRow_nil _ _ _ _,fun p hp=>by cases hp⟩,Mod.refl _ _⟩
theorem held_nil (w:World) (id:Int):Calls Tryz.prog 18 #[.pointer none,.int .i64 id] w fun e w'=>HeldTo w none e w' :=
 held_of (fun W _=>list_nil W) (by simp) id
end
end Go.Proofs.YtllljngpgjkdiaaGreatDoor
/-
  WALKS: layer 16: End, Done, Mark, Blocks, Under, Quarantine, Root.
-/
namespace Go.Proofs.YtllljngpgjkdiaaGreatDoor
set_option maxRecDepth 100000
set_option maxHeartbeats 1000000
open Go.RowKit Go.Maps

section
variable {w:World} {pg:Nat} {b:GB} {d:Dk} {g:Gtr}
theorem held_mem {g:Gtr} {id:Int} {x:Hld} (h:heldG g id=some x):x.gr∈g.l.book.grants∧x.gr.id=id∧x=hldOf g.nt x.gr:=by
 unfold heldG at h
 have h1:=List.mem_of_find?_eq_some h
 have h2:=List.find?_some h
 unfold listG at h1
 obtain ⟨y,hy,rfl⟩:=List.mem_map.1 h1
 exact ⟨hy,by simpa using h2,rfl⟩
theorem mark_any (h:GM w pg b d g) (hi:GI g) (id origin number:Int) :
 Calls Tryz.prog 19 #[.pointer (some ⟨pg,0,none⟩),.int .i64 id,.int .i64 origin,.int .i64 number] w fun e w'=>e=.returned (.bool (markG g id origin number).1)∧∃ b',GM w' pg b' d (markG g id origin number).2∧GTo w pg b w' b':=by
 have hh:=held_any h hi id
 unfold HeldTo at hh
 obtain ⟨p,hp⟩:∃ p,markG g id origin number=p:=⟨_,rfl⟩
 rw [hp]
 unfold markG at hp
 obtain ⟨o,ho⟩:∃ o,heldG g id=o:=⟨_,rfl⟩
 rw [ho] at hh hp
 cases o with
 | none =>
   simp only [Option.getD_none,Option.isSome_none,aggH,encH,Hld.zero,Grt.zero] at hh hp
   have HH:=hide h
   subst hp
   clear h hi ho
   go_enter Tryz.func19,Tryz.ntmps19
   go_wp2_with (go_at_call 18;refine hh.mono ?_;rintro e w1 ⟨q,c,rfl,-,m1⟩;have H1:=hide m1;clear m1 hh)
   go_ret
   have mm:=H1.out.alloc (.cells #[.int .i64 0,.int .i64 0,.string ⟨#[]⟩,.int .i64 0,.slice q 0 c,.int .i64 0,.int .i64 0,.int .i64 0,.int .i64 0] 44 (0,0))
   exact ⟨rfl,b,HH.out.quiet mm,GTo.quiet mm⟩
 | some x =>
   obtain ⟨hmem,hid,-⟩:=held_mem ho
   have hwf:(Lit.int .i64 id).wf=true:=by rw [← hid];exact hi.wf hmem
   have hln:=hi.len.2
   obtain ⟨⟨xi,xh,xp,xm,xs,xt⟩,xe,xo,xn⟩:=x
   simp only [Option.getD_some,Option.isSome_some,aggH,encH] at hh hp
   have HH:=hide h
   obtain ⟨n1,hn1⟩:∃ r,(xn != 0)=r:=⟨_,rfl⟩
   obtain ⟨n2,hn2⟩:∃ r,decide (origin<0)=r:=⟨_,rfl⟩
   obtain ⟨n3,hn3⟩:∃ r,decide (8≤origin)=r:=⟨_,rfl⟩
   obtain ⟨n4,hn4⟩:∃ r,decide (number<1)=r:=⟨_,rfl⟩
   have hc:(xn≠0∨origin<0∨8≤origin∨number<1)↔(n1||n2||n3||n4)=true:=by rw [← hn1,← hn2,← hn3,← hn4];simp [or_assoc]
   clear h hi ho hmem hid
   by_cases hall:(n1||n2||n3||n4)=true
   · rw [if_pos (hc.2 hall)] at hp
     subst hp
     clear hc
     cases n1 <;> cases n2 <;> cases n3 <;> cases n4 <;> simp only [Bool.or_self,Bool.or_true,Bool.or_false] at hall
     case false.false.false.false=>cases hall
     all_goals
      go_enter Tryz.func19,Tryz.ntmps19
      go_wp2_with (go_at_call 18;refine hh.mono ?_;rintro e w1 ⟨q,c,rfl,-,m1⟩;have H1:=hide m1;clear m1 hh)
      go_ret
      have mm:=H1.out.alloc (.cells #[.int .i64 xi,.int .i64 xh,.string xp,.int .i64 xm,.slice q xs.length c,.int .i64 xt,.int .i64 xe,.int .i64 xo,.int .i64 xn] 44 (0,0))
      exact ⟨rfl,b,HH.out.quiet mm,GTo.quiet mm⟩
   · rw [if_neg (fun e=>hall (hc.1 e))] at hp
     subst hp
     have ha:n1=false∧n2=false∧n3=false∧n4=false:=by cases n1 <;> cases n2 <;> cases n3 <;> cases n4 <;> simp_all
     obtain ⟨rfl,rfl,rfl,rfl⟩:=ha
     clear hc hall
     go_enter Tryz.func19,Tryz.ntmps19
     go_upto_region 4 with (go_at_call 18;refine hh.mono ?_;rintro e w1 ⟨q,c,rfl,-,m1⟩;have H1:=hide m1;clear m1 hh)
     obtain ⟨W2,hW2⟩:∃ W2,W2=w1.alloc (.cells #[.int .i64 xi,.int .i64 xh,.string xp,.int .i64 xm,.slice q xs.length c,.int .i64 xt,.int .i64 xe,.int .i64 xo,.int .i64 xn] 44 (0,0)):=⟨_,rfl⟩
     rw [← hW2]
     have hb2:W2.heap[w1.heap.size]?=some (.cells #[.int .i64 xi,.int .i64 xh,.string xp,.int .i64 xm,.slice q xs.length c,.int .i64 xt,.int .i64 xe,.int .i64 xo,.int .i64 xn] 44 (0,0)):=by rw [hW2];exact heap_alloc_new w1 _
     have m2:Mod [] w W2:=by rw [hW2];exact H1.out.alloc _
     clear hW2 hn1 hn2 hn3 hn4
     have g2:=HH.out.quiet m2
     have C2:=g2.c2
     have CB:=blk_cell hb2
     have hpg2:=lt_of_block g2.blk
     have hb2lt:=lt_of_block hb2
     have HG:=hd2 g2 m2
     have hql:(g.nt.map ntV).length<maxLen:=by unfold maxLen;rw [List.length_map];omega
     clear g2 m2 hb2
     go_still_tail 10,(by kernel_rfl)
     change wpList _ _ _ _ _ W2.drew
     go_wp2_with (
      at_mapUpdate
      refine wpList_store_L (T:=iK) _ rfl _ _ _ rfl Tryz.underlying79 rfl (HG.out.1.nt.mod ((Mod.refl [] W2).drew) (by simp)) hql (key:=id) hwf rfl _ rfl ?_
      intro w3 q1 q2
      clear C2 CB)
     go_ret
     replace q1:MapL iK w3 b.nb (setM (g.nt.map ntV) id (aggN ⟨xe,origin,number⟩)):=q1
     rw [setM_ntV] at q1
     obtain ⟨h5,t5⟩:=HG.out.1.toNt q1 (((Mod.refl [b.nb] W2).drew).grown q2 (fun k e _=>by cases e;simp))
     exact ⟨rfl,_,h5,(GTo.quiet HG.out.2).trans t5⟩
theorem quar_any (h:GM w pg b d g):Calls Tryz.prog 23 #[.pointer (some ⟨pg,0,none⟩)] w fun e w'=>e=.returned (.int .i64 g.ends)∧w'=w:=by
 have C:=h.c3
 have hpg:=lt_of_block h.blk
 generalize g.ends=n at C
 clear h
 go_enter Tryz.func23,Tryz.ntmps23
 go_wp2_with fail
 go_ret
 exact ⟨rfl,rfl⟩
theorem blocks_any (h:GM w pg b d g) (hi:GI g) (now:Int) (path:ByteArray) (hp:path.size≤9223372036854775807) (mode:Int) :
 Calls Tryz.prog 20 #[.pointer (some ⟨pg,0,none⟩),.int .i64 now,.string path,.int .i64 mode] w fun e w'=>e=.returned (.bool (blocksG g now path.data.toList mode))∧Mod [] w w':=by
 obtain ⟨n,hn⟩:∃ n,(unexp g.nt (clashS5 g.es path.data.toList mode (-1)) now).length=n:=⟨_,rfl⟩
 unfold blocksG
 rw [hn]
 have hcl:=clash_eq h.q path hp mode (-1) (xs:=clashS5 g.es path.data.toList mode (-1)) rfl
 have hu:=fun (w1:World) (m:Mod [] w w1) (q:Option Addr) (c:Nat) (hr:RowN w1 w.heap.size (.slice q (clashS5 g.es path.data.toList mode (-1)).length c) (clashS5 g.es path.data.toList mode (-1)))=>unexp_new h m hr (clash_wf hi) (clash_len hi _ _ _) now hn
 have C1:=h.c1
 have hpg:=lt_of_block h.blk
 have HU:=hide hu
 generalize clashS5 g.es path.data.toList mode (-1)=ids at hcl HU
 clear h hi hn hu
 go_enter Tryz.func20,Tryz.ntmps20
 go_wp2_with (first
  | (go_at_call 65;refine hcl.mono ?_;rintro e w1 ⟨q,c,rfl,hr,m1⟩;have H1:=hd2 hr m1;clear hr m1 hcl)
  | (go_at_call 64;refine (HU.out _ H1.out.2 _ _ H1.out.1).mono ?_;rintro e w2 ⟨q2,c2,rfl,m2⟩;have H2:=hide m2;clear m2)
  | fail)
 go_ret
 exact ⟨rfl,H2.out⟩
end
end Go.Proofs.YtllljngpgjkdiaaGreatDoor
/-
  WALKS: layer 16: Renew's questions.
-/
namespace Go.Proofs.YtllljngpgjkdiaaGreatDoor
set_option maxRecDepth 100000
set_option maxHeartbeats 1000000
open Go.RowKit Go.Maps

section
variable {w:World} {pg:Nat} {b:GB} {d:Dk} {g:Gtr}
theorem known_any {b17 b16 bn bh:Nat} {o:Option Hld} {sv:Value} {now holder:Int} (h1:w.cell? ⟨b17,0,none⟩=some (.bool o.isSome)) (h2:w.heap[b16]?=some (.cells (encH (o.getD Hld.zero,sv)).toArray 44 (0,0))) (h3:w.cell? ⟨bn,0,none⟩=some (.int .i64 now)) (h4:w.cell? ⟨bh,0,none⟩=some (.int .i64 holder)) :
 Calls Tryz.prog 59 #[.pointer (some ⟨b17,0,none⟩),.pointer (some ⟨b16,0,none⟩),.pointer (some ⟨bn,0,none⟩),.pointer (some ⟨bh,0,none⟩)] w fun e w'=>Says w (knownI o now holder) e w':=by
 have CB:=blk_cell h2
 have l1:=World.block_lt_of_cell? w _ h1
 have l2:=lt_of_block h2
 have l3:=World.block_lt_of_cell? w _ h3
 have l4:=World.block_lt_of_cell? w _ h4
 obtain ⟨k,hk⟩:∃ k,knownI o now holder=k:=⟨_,rfl⟩
 rw [hk]
 cases o with
 | none =>
   simp only [Option.isSome_none] at h1
   simp only [knownI] at hk
   subst hk
   clear CB h2 h3 h4
   go_enter Tryz.func59,Tryz.ntmps59
   go_wp2_with fail
   go_ret
   exact ⟨rfl,Mod.refl _ _⟩
 | some x =>
   obtain ⟨⟨xi,xh,xp,xm,xs,xt⟩,xe,xo,xn⟩:=x
   simp only [Option.isSome_some] at h1
   simp only [Option.getD_some,encH] at CB
   simp only [knownI] at hk
   clear h2
   by_cases e1:xe≤now
   · rw [if_pos (.inl e1)] at hk
     subst hk
     have d1:decide (xe≤now)=true:=decide_eq_true e1
     clear e1
     go_enter Tryz.func59,Tryz.ntmps59
     go_wp2_with fail
     go_ret
     exact ⟨rfl,Mod.refl _ _⟩
   · have d1:decide (xe≤now)=false:=decide_eq_false e1
     by_cases e2:xh=holder
     · have d2:(xh != holder)=false:=by simpa using e2
       rw [if_neg (fun h=>h.elim e1 (fun h=>h e2))] at hk
       by_cases e3:xn=0
       · rw [if_neg (by simpa using e3)] at hk
         have d3:(xn != 0)=false:=by simpa using e3
         subst hk
         clear e1 e2 e3
         go_enter Tryz.func59,Tryz.ntmps59
         go_wp2_with fail
         go_ret
         exact ⟨rfl,Mod.refl _ _⟩
       · rw [if_pos e3] at hk
         have d3:(xn != 0)=true:=by simpa using e3
         subst hk
         clear e1 e2 e3
         go_enter Tryz.func59,Tryz.ntmps59
         go_wp2_with fail
         go_ret
         exact ⟨rfl,Mod.refl _ _⟩
     · have d2:(xh != holder)=true:=by simpa using e2
       rw [if_pos (.inr e2)] at hk
       subst hk
       clear e1 e2
       go_enter Tryz.func59,Tryz.ntmps59
       go_wp2_with fail
       go_ret
       exact ⟨rfl,Mod.refl _ _⟩
theorem rlong_any {bg bt:Nat} {t:Int} (h:GM w pg b d g) (hi:GI g) (h49:49≤d.secs.length) (h1:GBx w pg b bg (.pointer (some ⟨pg,0,none⟩))) (h2:GBx w pg b bt (.int .i64 t)) :
 Calls Tryz.prog 60 #[.pointer (some ⟨bg,0,none⟩),.pointer (some ⟨bt,0,none⟩)] w fun e w'=>GmTo w pg b (longG d g t) e w':=by
 have hl:=long_any h hi h49 t
 have c1:=h1.cell
 have c2:=h2.cell
 generalize longG d g t=p at hl ⊢
 have hl:=hl.mono (R':=fun e w'=>e=.returned (.int .i64 p.1)∧∃ b',GM w' pg b' p.2.1 p.2.2∧GTo w pg b w' b') (fun e w' hx=>hx)
 obtain ⟨k,dk,gk⟩:=p
 simp only at hl
 clear h hi h49 h1 h2
 go_enter Tryz.func60,Tryz.ntmps60
 go_wp2_with (go_at_call 47;refine hl.mono ?_;rintro e w1 ⟨rfl,b1,g1,t1⟩;have H:=hd2 g1 t1;clear g1 t1 hl c1 c2)
 go_ret
 exact ⟨rfl,b1,H.out⟩
theorem eg_r1:∀ args w,(callFunc 59 args).run Tryz.prog w=.ok (.enter 59 args) w:=enters_of Tryz.func59 (by kernel_rfl) rfl
theorem eg_r2:∀ args w,(callFunc 60 args).run Tryz.prog w=.ok (.enter 60 args) w:=enters_of Tryz.func60 (by kernel_rfl) rfl
def askA (b17 b16 bn bh:Nat) (r:Req) (v:Value):List Value :=
 [.func (.func 50) #[aggQ r v] #[],.func (.func 52) #[aggQ r v] #[],
  .func (.func 59) #[] #[.pointer (some ⟨b17,0,none⟩),.pointer (some ⟨b16,0,none⟩),.pointer (some ⟨bn,0,none⟩),.pointer (some ⟨bh,0,none⟩)],.func (.func 53) #[aggQ r v] #[]]
def askB (pg:Nat) (r:Req) (v:Value) (fresh:Bool):List Value :=
 if fresh=true then [.func (.func 54) #[aggQ r v] #[],.func (.func 55) #[aggQ r v] #[],.func (.func 56) #[.pointer (some ⟨pg,0,none⟩)] #[]]
 else [.func (.func 55) #[aggQ r v] #[]]
def askC (bg bt:Nat):List Value:=[.func (.func 60) #[] #[.pointer (some ⟨bg,0,none⟩),.pointer (some ⟨bt,0,none⟩)]]
theorem askR_any {B bg bt b17 b16 bn bh:Nat} {r:Req} {q:Option Addr} {c:Nat} {o:Option Hld} {sv:Value} {fresh:Bool} (h:GM w pg b d g) (hi:GI g) (h49:49≤d.secs.length) (hB:B<w.heap.size) (hBa:B ∉ b.all pg) (hr:RdN w (.slice q r.own.stamp.length c) r.own.stamp) (hp:r.path.size≤9223372036854775807) (hq:r.own.path.size≤9223372036854775807)
 (h1:GBx w pg b bg (.pointer (some ⟨pg,0,none⟩))) (h2:GBx w pg b bt (.int .i64 r.t)) (k1:w.cell? ⟨b17,0,none⟩=some (.bool o.isSome)) (k2:w.heap[b16]?=some (.cells (encH (o.getD Hld.zero,sv)).toArray 44 (0,0))) (k3:w.cell? ⟨bn,0,none⟩=some (.int .i64 r.now)) (k4:w.cell? ⟨bh,0,none⟩=some (.int .i64 r.holder)) :
 FirstP Tryz.prog B (askA b17 b16 bn bh r (.slice q r.own.stamp.length c)++askB pg r (.slice q r.own.stamp.length c) fresh++askC bg bt) w (GrQ w pg b (preR g r o fresh) (longG d g r.t)):=by
 unfold askA GrQ
 refine fst_says hB (Mod.refl _ _) eg_50 (fun W m=>numbers_any r _ W) (fun hk W m=>.inl ⟨?_,?_,m⟩) (fun e1 W m=>?_)
 · simp [preR,firstI,hk]
 · simp [preR,firstI,hk]
 obtain ⟨z1,z2,z3⟩:=numbers_zero e1
 refine fst_says hB m eg_52 (fun W m=>length_any r _ W) (fun hk W m=>.inl ⟨?_,?_,m⟩) (fun e2 W m=>?_)
 · simp [preR,firstI,e1,hk]
 · simp [preR,firstI,e1,hk]
 have z4:=length_zero e2
 refine fst_says hB m eg_r1 (fun W m=>known_any (m.kept k1 (by simp)) (m.at_ k2 (by simp)) (m.kept k3 (by simp)) (m.kept k4 (by simp))) (fun hk W m=>.inl ⟨?_,?_,m⟩) (fun e3 W m=>?_)
 · simp [preR,firstI,e1,e2,hk]
 · simp [preR,firstI,e1,e2,hk]
 refine fst_says hB m eg_53 (fun W m=>borne_any r _ W (hr.mod m (by simp)) hp hq) (fun hk W m=>.inl ⟨?_,?_,m⟩) (fun e4 W m=>?_)
 · simp [preR,firstI,e1,e2,e3,hk]
 · simp [preR,firstI,e1,e2,e3,hk]
 have hend:∀ W,Mod [] w W→preR g r o fresh=0→FirstP Tryz.prog B (askC bg bt) W (GrQ w pg b (preR g r o fresh) (longG d g r.t)):=fun W m hpre=>by
  refine fst_cons eg_r2 (rlong_any (h.quiet m) hi h49 (h1.quiet m) (h2.quiet m)) ?_
  rintro e w2 ⟨rfl,b2,g2,t2⟩
  exact ⟨_,rfl,t2.mod.block _ (by have:=m.size;omega) hBa,fun _=>.inr ⟨hpre,rfl,b2,g2,(GTo.quiet m).trans t2⟩,fun e=>.inr ⟨hpre,e.symm,b2,g2,(GTo.quiet m).trans t2⟩⟩
 cases fresh with
 | true =>
   refine fst_says hB m eg_54 (fun W m=>deep_any r W) (fun hk W m=>.inl ⟨?_,?_,m⟩) (fun e5 W m=>?_)
   · simp [preR,firstI,e1,e2,e3,e4,hk]
   · simp [preR,firstI,e1,e2,e3,e4,hk]
   refine fst_says hB m eg_55 (fun W m=>outlasts_any r _ W z1 z4) (fun hk W m=>.inl ⟨?_,?_,m⟩) (fun e6 W m=>?_)
   · simp [preR,firstI,e1,e2,e3,e4,e5,hk]
   · simp [preR,firstI,e1,e2,e3,e4,e5,hk]
   refine fst_says hB m eg_56 (fun W m=>gcounts_any (h.quiet m) hi) (fun hk W m=>.inl ⟨?_,?_,m⟩) (fun e7 W m=>?_)
   · simp [preR,firstI,e1,e2,e3,e4,e5,e6,hk]
   · simp [preR,firstI,e1,e2,e3,e4,e5,e6,hk]
   exact hend W m (by simp [preR,firstI,e1,e2,e3,e4,e5,e6,e7])
 | false =>
   refine fst_says hB m eg_55 (fun W m=>outlasts_any r _ W z1 z4) (fun hk W m=>.inl ⟨?_,?_,m⟩) (fun e6 W m=>?_)
   · simp [preR,firstI,e1,e2,e3,e4,hk]
   · simp [preR,firstI,e1,e2,e3,e4,hk]
   exact hend W m (by simp [preR,firstI,e1,e2,e3,e4,e6])
end
end Go.Proofs.YtllljngpgjkdiaaGreatDoor
