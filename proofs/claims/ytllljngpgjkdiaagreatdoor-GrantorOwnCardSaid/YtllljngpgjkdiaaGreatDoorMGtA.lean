/-
  LedW7 LedW8 LedW9 GtS GtI GtT LedK GtA: see the remarks below.
-/
import Derived.Test.YtllljngpgjkdiaaGreatDoorMWc
import Derived.Test.YtllljngpgjkdiaaGreatDoorMLedW6
import Derived.Test.YtllljngpgjkdiaaGreatDoorMLedC
/-
  WALKS: layer 12: Append. (Written by wip/gen_led7.py.)
-/
namespace Go.Proofs.YtllljngpgjkdiaaGreatDoor
set_option maxRecDepth 100000
set_option maxHeartbeats 8000000
open Go.RowKit Go.Shelf

theorem name_len (d:Dk) (g k:Nat):(nameD d g k).2.secs.length=d.secs.length:=write_len _ _ _
theorem comp_len (d:Dk) (l:Lg):(compactD d l).2.1.secs.length=d.secs.length:=by
 unfold compactD
 split
 · rfl
 split
 · rfl
 split
 · rfl
 simp only
 rw [lay_writes]
 split
 · exact writes_len _ _ _
 split
 · show (nameD _ _ _).2.secs.length=_
   rw [name_len,writes_len]
 · show (nameD _ _ _).2.secs.length=_
   rw [name_len,writes_len]
theorem comp_zero {d:Dk} {l:Lg} (hok:l.Ok) (h:(compactD d l).1=0):∃ gn ar sq us,(compactD d l).2.2=⟨gn,ar,sq,us,l.book,false⟩∧1≤gn∧gn≤1073741824∧ar≤1∧sq≤us∧us≤16:=by
 have hge:=maxGen_ge (sideS d.secs (1 - l.area)) l.gen
 have hg1:=hok.gen1
 have hdw:=dump_width hok.book
 have hsw:=sumW_ge ((dumpB l.book).map encB)
 rw [List.length_map] at hsw
 unfold compactD at h ⊢
 by_cases h1:l.dead=true
 · rw [if_pos h1] at h;cases h
 rw [if_neg h1] at h ⊢
 by_cases h2:d.off=true
 · rw [if_pos h2] at h;cases h
 rw [if_neg h2] at h ⊢
 by_cases h3:1073741824≤maxGen l.gen (sideS d.secs (1 - l.area))
 · rw [if_pos h3] at h;cases h
 rw [if_neg h3] at h ⊢
 simp only at h ⊢
 split at h
 · rename_i h4;exact absurd h h4
 rename_i h4
 split at h
 · rename_i h5;exact absurd h h5
 rename_i h5
 rw [if_neg h4,if_neg h5]
 have hdd:l.dead=false:=by cases hx:l.dead <;> simp_all
 exact ⟨_,_,_,_,by rw [hdd],by omega,by omega,by omega,hsw,hdw⟩
def TG (pl gn ar sq us:Nat) (w:World):Prop:=w.cell? ⟨pl,1,none⟩=some (.int .i64 (gn:Int))∧w.cell? ⟨pl,2,none⟩=some (.int .i64 (ar:Int))∧w.cell? ⟨pl,3,none⟩=some (.int .i64 (sq:Int))∧w.cell? ⟨pl,4,none⟩=some (.int .i64 (us:Int))
theorem LgM.tg {w:World} {pl pd bs:Nat} {gv:Value} {lv:List (Grt × Value)} {d:Dk} {l:Lg} (h:LgM w pl pd bs gv lv d l):TG pl l.gen l.area l.seq l.used w:=⟨blk_cell h.blk 1,blk_cell h.blk 2,blk_cell h.blk 3,blk_cell h.blk 4⟩
def ApdTo (w:World) (pl pd bs:Nat) (gv0:Value) (lv0:List (Grt × Value)) (t:Int × Dk × Lg) (e:Ending) (w':World):Prop :=
 e=.returned (.int .i64 t.1)∧∃ gv lv,LgM w' pl pd bs gv lv t.2.1 t.2.2∧Mod [pl,pd,bs] w w'∧((gv=gv0∧lv=lv0)∨GrM w' w.heap.size gv lv)
theorem append_any {w:World} {pl pd bs:Nat} {gv:Value} {lv:List (Grt × Value)} {d:Dk} {l:Lg} (h:LgM w pl pd bs gv lv d l) (hok:l.Ok) (h49:49≤d.secs.length) {r:Rcd} {sv tv:Value} (hs:RdN w sv r.grant.stamp) (ht:RdN w tv r.stamp) (hp:r.grant.path.size≤9223372036854775807) :
 Calls Tryz.prog 58 #[.pointer (some ⟨pl,0,none⟩),aggR r sv tv] w fun e w'=>ApdTo w pl pd bs gv lv (appendD d l r) e w':=by
 have hlt:=h.lt
 have hplw:=lt_of_block h.blk
 obtain ⟨R,hR⟩:∃ R,appendD d l r=R:=⟨_,rfl⟩
 rw [hR]
 unfold appendD at hR
 have hsm:=valid_small hok.book h.bk.eq
 have hap:=fun (W:World) (m:Mod [] w W) {sv tv:Value} (ha:RdN W sv r.grant.stamp) (hb:RdN W tv r.stamp)=>apply_any (b:=l.book) (r:=r) (BkM.mk (h.bk.gr.mod m (by simp)) h.bk.eq) (fun p hp=>by have:=(hsm.2 p hp).2;omega) ha hb hp
 have hav:(applyB l.book r).2=0→mayB r=true:=fun e=>(apply_zero.1 e).2.1
 have hen0:=fun (W:World) {sv tv:Value} (ha:RdN W sv r.grant.stamp) (hb:RdN W tv r.stamp)=>encode_any (w:=W) (r:=r) (sv:=sv) (tv:=tv) ha hb hp
 have hcp0:=fun (W:World) (m:Mod [] w W)=>compact_any (h.quiet m) hok.book hok.area ⟨hok.gen1,hok.genM⟩ h49
 have hcz:=comp_zero (d:=d) hok
 have hcl:=comp_len d l
 have hwd:(applyB l.book r).2=0→widthN (encB r).length≤2∧(encB r).length≤65:=fun e=>⟨(enc_width (hav e)).2,(enc_len (hav e)).2⟩
 obtain ⟨CT,hCT⟩:∃ t,compactD d l=t:=⟨_,rfl⟩
 obtain ⟨⟨⟨cn,cb,cl,cg⟩,ce⟩,hAp⟩:∃ t,applyB l.book r=t:=⟨_,rfl⟩
 obtain ⟨EB,hEB⟩:∃ t,encB r=t:=⟨_,rfl⟩
 obtain ⟨M,hM⟩:∃ t,mayB r=t:=⟨_,rfl⟩
 obtain ⟨nE,hnE⟩:∃ n,EB.length=n:=⟨_,rfl⟩
 obtain ⟨WE,hWE⟩:∃ n,widthN nE=n:=⟨_,rfl⟩
 rw [hCT,hAp,hEB,hnE,hWE] at hR
 rw [hEB,hM] at hen0
 rw [hM] at hav
 rw [hCT] at hcp0 hcz hcl
 rw [hAp] at hap hav hwd
 rw [hEB,hnE,hWE] at hwd
 obtain ⟨gn,ar,sq,us,⟨bn,bb,bl,bg⟩,dd⟩:=l
 simp only at hR hav hcp0 hcz hcl hwd
 obtain ⟨k1,k2,k3,k4,k5,k6⟩:=hok
 simp only at k1 k2 k3 k4 k5 k6
 obtain ⟨gq,gc,hgv,-⟩:=h.bk.gr.shape
 subst hgv
 obtain ⟨p1,c1,hsv⟩:=hs.len
 obtain ⟨p2,c2,htv⟩:=ht.len
 obtain ⟨kd,⟨gi,gh,gp,gm,gs,gt⟩,ri,rs,rn,rb,rl⟩:=r
 simp only at hs ht hsv htv hp
 obtain ⟨n1,hn1⟩:∃ n,gs.length=n:=⟨_,rfl⟩
 obtain ⟨n2,hn2⟩:∃ n,rs.length=n:=⟨_,rfl⟩
 rw [hn1] at hsv
 rw [hn2] at htv
 subst hsv htv
 have hwid:=fun (W:World) (hx:nE≤65)=>width_any nE (by omega) W
 have HWD:Hid (widthN nE=WE):=hWE
 have HNE:=hide hnE
 have HA:=hide @hap
 have HE0:=hide @hen0
 have HCP:=hide hcp0
 have HCZ:=hide hcz
 have HR:=hide hR
 have HH:=hd2 h hsm
 obtain ⟨W7,hW7⟩:∃ W7,W7=w.alloc (.cells #[.int .i64 kd,.int .i64 gi,.int .i64 gh,.string gp,.int .i64 gm,.slice p1 n1 c1,.int .i64 gt,.int .i64 ri,.slice p2 n2 c2,.int .i64 rn,.int .i64 rb,.int .i64 rl] 93 (0,0)):=⟨_,rfl⟩
 have hr7:W7.heap[w.heap.size]?=some (.cells #[.int .i64 kd,.int .i64 gi,.int .i64 gh,.string gp,.int .i64 gm,.slice p1 n1 c1,.int .i64 gt,.int .i64 ri,.slice p2 n2 c2,.int .i64 rn,.int .i64 rb,.int .i64 rl] 93 (0,0)):=by rw [hW7];exact heap_alloc_new w _
 have hm7:Mod [] w W7:=by rw [hW7];exact (Mod.refl _ _).alloc _
 have hz7:W7.heap.size=w.heap.size+1:=by rw [hW7];simp
 have HLow:Hid (pl<W7.heap.size∧w.heap.size<W7.heap.size):=hide (by omega)
 have hTV:TV pl w.heap.size #[.pointer (some ⟨pd,0,none⟩),.int .i64 (gn:Int),.int .i64 (ar:Int),.int .i64 (sq:Int),.int .i64 (us:Int),.int .i64 bn,.int .i64 bb,.int .i64 bl,.slice gq lv.length gc,.bool dd] #[.int .i64 kd,.int .i64 gi,.int .i64 gh,.string gp,.int .i64 gm,.slice p1 n1 c1,.int .i64 gt,.int .i64 ri,.slice p2 n2 c2,.int .i64 rn,.int .i64 rb,.int .i64 rl] W7:=⟨hm7.at_ h.blk (by simp),hr7⟩
 have HM7:=hd3 (hs.mod hm7 (by simp)) (ht.mod hm7 (by simp)) hm7
 have hC9:W7.cell? ⟨pl,9,none⟩=some (.bool dd):=blk_cell hTV.1 9
 clear hap hen0 hcp0 hcz hR h hsm hr7 hm7 hz7 hs ht hAp hCT hWE hnE hEB hM hn1 hn2 hp
 unfold aggR cellsR
 simp only
 cases dd with
 | true =>
   go_enter Tryz.func58,Tryz.ntmps58
   go_upto_region 3 with fail
   rw [← hW7]
   clear hW7
   go_wp2_with fail
   go_ret
   rw [← HR.out,if_pos (by simp)]
   exact ⟨rfl,_,_,HH.out.1.quiet HM7.out.2.2,HM7.out.2.2.mono (by simp),.inl ⟨rfl,rfl⟩⟩
 | false =>
 go_enter Tryz.func58,Tryz.ntmps58
 go_upto_region 3 with fail
 rw [← hW7]
 clear hW7
 go_upto_region 5 with fail
 go_cut [5,6] (fun s5 s6 wx=>ApR W7 (⟨cn,cb,cl,cg⟩,ce) s6 s5 wx)
 case first =>
  refine pB 11 (TV pl w.heap.size #[.pointer (some ⟨pd,0,none⟩),.int .i64 (gn:Int),.int .i64 (ar:Int),.int .i64 (sq:Int),.int .i64 (us:Int),.int .i64 bn,.int .i64 bb,.int .i64 bl,.slice gq lv.length gc,.bool false] #[.int .i64 kd,.int .i64 gi,.int .i64 gh,.string gp,.int .i64 gm,.slice p1 n1 c1,.int .i64 gt,.int .i64 ri,.slice p2 n2 c2,.int .i64 rn,.int .i64 rb,.int .i64 rl]) (hTV.mod (Mod.refl [] W7).drew (by simp) (by simp)) ?_
  refine pP 0 ?_;refine pP 1 ?_;refine pP 2 ?_
  refine pT 3 rfl [11] (fun w hSw=>by have C0:=blk_cell hSw.1;have C1:=blk_cell hSw.2;go_simp;try with_reducible rfl) ?_
  refine pT 4 rfl [11] (fun w hSw=>by have C0:=blk_cell hSw.1;have C1:=blk_cell hSw.2;go_simp;try with_reducible rfl) ?_
  refine pX2 5 9 (fun hT K HK=>?_) (fun hT K HK=>?_)
  · skip
    refine step_call rfl 83 #[.tmp 23,.tmp 24] #[75,93] rfl (enters_of Tryz.func83 (by kernel_rfl) rfl) #[aggB ⟨bn,bb,bl,bg⟩ (.slice gq lv.length gc),aggR ⟨kd,⟨gi,gh,gp,gm,gs,gt⟩,ri,rs,rn,rb,rl⟩ (.slice p1 n1 c1) (.slice p2 n2 c2)] (by simp [Act.eval,aggB,aggR,cellsR]) ?_
    have hmX:Mod [] W7 W7.drew:=(Mod.refl [] W7).drew
    refine (HA.out W7.drew (HM7.out.2.2.then hmX) (HM7.out.1.mod hmX (by simp)) (HM7.out.2.1.mod hmX (by simp))).mono ?_
    rintro e w8 ⟨gv8,lv8,rfl,hbk8,hm8⟩
    refine ⟨_,rfl,?_⟩
    obtain ⟨q8,c8,hv8,-⟩:=hbk8.gr.shape
    subst hv8
    obtain ⟨n8,hn8⟩:∃ n,lv8.length=n:=⟨_,rfl⟩
    rw [hn8] at hbk8 ⊢
    simp only [aggB]
    have hT2:TV pl w.heap.size #[.pointer (some ⟨pd,0,none⟩),.int .i64 (gn:Int),.int .i64 (ar:Int),.int .i64 (sq:Int),.int .i64 (us:Int),.int .i64 bn,.int .i64 bb,.int .i64 bl,.slice gq lv.length gc,.bool false] #[.int .i64 kd,.int .i64 gi,.int .i64 gh,.string gp,.int .i64 gm,.slice p1 n1 c1,.int .i64 gt,.int .i64 ri,.slice p2 n2 c2,.int .i64 rn,.int .i64 rb,.int .i64 rl] w8:=hT.mod hm8 (by simp) (by simp)
    have H8:=hd2 hbk8 hm8
    clear hbk8 hm8 hmX hn8
    refine HK.out _ _ _ hT2 ?_
    clear HK K hT hT2
    refine pP 6 ?_;refine pP 7 ?_;refine pP 8 ?_
    refine pX 9 fun hT K HK=>?_
    go_simp
    obtain ⟨W9,hW9⟩:∃ W9,W9=(w8.alloc (.cells #[.int .i64 0,.int .i64 0,.int .i64 0,.slice none 0 0] 75 (0,0))):=⟨_,rfl⟩
    have hk9:W9.heap[w8.heap.size]?=some (.cells #[.int .i64 0,.int .i64 0,.int .i64 0,.slice none 0 0] 75 (0,0)):=by rw [hW9];exact heap_alloc_new _ _
    have hm9:Mod [] w8 W9:=by rw [hW9];exact ((Mod.refl _ _).alloc _)
    rw [← hW9]
    have hT2:TV pl w.heap.size #[.pointer (some ⟨pd,0,none⟩),.int .i64 (gn:Int),.int .i64 (ar:Int),.int .i64 (sq:Int),.int .i64 (us:Int),.int .i64 bn,.int .i64 bb,.int .i64 bl,.slice gq lv.length gc,.bool false] #[.int .i64 kd,.int .i64 gi,.int .i64 gh,.string gp,.int .i64 gm,.slice p1 n1 c1,.int .i64 gt,.int .i64 ri,.slice p2 n2 c2,.int .i64 rn,.int .i64 rb,.int .i64 rl] W9:=hT.mod hm9 (by simp) (by simp)
    have hz9:W9.heap.size=w8.heap.size+1:=by rw [hW9];simp
    have H9:=hd3 hk9 hm9 hz9
    clear hW9 hk9 hm9 hz9
    refine HK.out _ _ _ hT2 ?_
    clear HK K hT hT2
    refine pX 10 fun hT K HK=>?_
    have hkX:=H9.out.1
    have C9:=blk_cell hkX
    have F9:=blk_free hkX
    go_simp
    obtain ⟨W10,hW10⟩:∃ W10,W10=((((W9.setCell ⟨w8.heap.size,0,none⟩ (.int .i64 cn)).setCell ⟨w8.heap.size,1,none⟩ (.int .i64 cb)).setCell ⟨w8.heap.size,2,none⟩ (.int .i64 cl)).setCell ⟨w8.heap.size,3,none⟩ (.slice q8 n8 c8)):=⟨_,rfl⟩
    rw [← hW10]
    have hb10:W10.heap[w8.heap.size]?=some (.cells #[.int .i64 cn,.int .i64 cb,.int .i64 cl,.slice q8 n8 c8] 75 (0,0)):=by rw [hW10];exact blk_set (blk_set (blk_set (blk_set hkX 0 _) 1 _) 2 _) 3 _
    have hm10:Mod [w8.heap.size] W9 W10:=by rw [hW10];exact ((((Mod.refl _ _).setCell (fun _=>by simp) _).setCell (fun _=>by simp) _).setCell (fun _=>by simp) _).setCell (fun _=>by simp) _
    have hlow:=HLow.out
    have z8:=H8.out.2.size
    have z9:=H9.out.2.1.size
    have z9':=H9.out.2.2
    have zd:W7.drew.heap.size=W7.heap.size:=rfl
    have hT2:TV pl w.heap.size #[.pointer (some ⟨pd,0,none⟩),.int .i64 (gn:Int),.int .i64 (ar:Int),.int .i64 (sq:Int),.int .i64 (us:Int),.int .i64 bn,.int .i64 bb,.int .i64 bl,.slice gq lv.length gc,.bool false] #[.int .i64 kd,.int .i64 gi,.int .i64 gh,.string gp,.int .i64 gm,.slice p1 n1 c1,.int .i64 gt,.int .i64 ri,.slice p2 n2 c2,.int .i64 rn,.int .i64 rb,.int .i64 rl] W10:=hT.mod hm10 (by simp;omega) (by simp;omega)
    have HA10:Hid (ApR W7 (⟨cn,cb,cl,cg⟩,ce) (.int .i64 ce) (.pointer (some ⟨w8.heap.size,0,none⟩)) W10):=hide ⟨w8.heap.size,q8,n8,c8,lv8,rfl,rfl,hb10,by omega,⟨H8.out.1.gr.mod (mod_fresh H9.out.2.1 hm10 (by simp)) (by simp),H8.out.1.eq⟩,mod_fresh ((Mod.refl [] W7).drew.then (H8.out.2.then H9.out.2.1)) hm10 (by simp;omega)⟩
    clear hkX C9 F9 hW10 hb10 hm10 hlow z8 z9 z9' zd
    refine HK.out _ _ _ hT2 ?_
    clear HK K hT hT2
    refine pY 11 fun hT K HK=>?_
    go_simp
    refine HK.out _ _ _ ?_
    clear HK K hT
    refine pD ?_
    go_wp2_with fail
    go_meet
    case rel=>exact HA10.out
  · skip
    go_simp
    obtain ⟨W9,hW9⟩:∃ W9,W9=(W7.alloc (.cells #[.int .i64 0,.int .i64 0,.int .i64 0,.slice none 0 0] 75 (0,0))).drew:=⟨_,rfl⟩
    have hk9:W9.heap[W7.heap.size]?=some (.cells #[.int .i64 0,.int .i64 0,.int .i64 0,.slice none 0 0] 75 (0,0)):=by rw [hW9];exact heap_alloc_new _ _
    have hm9:Mod [] W7 W9:=by rw [hW9];exact ((Mod.refl _ _).alloc _).drew
    rw [← hW9]
    have hT2:TV pl w.heap.size #[.pointer (some ⟨pd,0,none⟩),.int .i64 (gn:Int),.int .i64 (ar:Int),.int .i64 (sq:Int),.int .i64 (us:Int),.int .i64 bn,.int .i64 bb,.int .i64 bl,.slice gq lv.length gc,.bool false] #[.int .i64 kd,.int .i64 gi,.int .i64 gh,.string gp,.int .i64 gm,.slice p1 n1 c1,.int .i64 gt,.int .i64 ri,.slice p2 n2 c2,.int .i64 rn,.int .i64 rb,.int .i64 rl] W9:=hTV.mod hm9 (by simp) (by simp)
    have hz9:W9.heap.size=W7.heap.size+1:=by rw [hW9];simp
    have H9:=hd3 hk9 hm9 hz9
    clear hW9 hk9 hm9 hz9
    refine HK.out _ _ _ hT2 ?_
    clear HK K hT hT2
    refine pX 5 fun hT K HK=>?_
    refine step_call rfl 83 #[.tmp 23,.tmp 24] #[75,93] rfl (enters_of Tryz.func83 (by kernel_rfl) rfl) #[aggB ⟨bn,bb,bl,bg⟩ (.slice gq lv.length gc),aggR ⟨kd,⟨gi,gh,gp,gm,gs,gt⟩,ri,rs,rn,rb,rl⟩ (.slice p1 n1 c1) (.slice p2 n2 c2)] (by simp [Act.eval,aggB,aggR,cellsR]) ?_
    have hmX:Mod [] W7 W9:=H9.out.2.1
    refine (HA.out W9 (HM7.out.2.2.then hmX) (HM7.out.1.mod hmX (by simp)) (HM7.out.2.1.mod hmX (by simp))).mono ?_
    rintro e w8 ⟨gv8,lv8,rfl,hbk8,hm8⟩
    refine ⟨_,rfl,?_⟩
    obtain ⟨q8,c8,hv8,-⟩:=hbk8.gr.shape
    subst hv8
    obtain ⟨n8,hn8⟩:∃ n,lv8.length=n:=⟨_,rfl⟩
    rw [hn8] at hbk8 ⊢
    simp only [aggB]
    have hT2:TV pl w.heap.size #[.pointer (some ⟨pd,0,none⟩),.int .i64 (gn:Int),.int .i64 (ar:Int),.int .i64 (sq:Int),.int .i64 (us:Int),.int .i64 bn,.int .i64 bb,.int .i64 bl,.slice gq lv.length gc,.bool false] #[.int .i64 kd,.int .i64 gi,.int .i64 gh,.string gp,.int .i64 gm,.slice p1 n1 c1,.int .i64 gt,.int .i64 ri,.slice p2 n2 c2,.int .i64 rn,.int .i64 rb,.int .i64 rl] w8:=hT.mod hm8 (by simp) (by simp)
    have H8:=hd2 hbk8 hm8
    clear hbk8 hm8 hmX hn8
    refine HK.out _ _ _ hT2 ?_
    clear HK K hT hT2
    refine pP 6 ?_;refine pP 7 ?_;refine pP 8 ?_
    refine pX 10 fun hT K HK=>?_
    have hkX:=(H8.out.2.at_ H9.out.1 (by simp))
    have C9:=blk_cell hkX
    have F9:=blk_free hkX
    go_simp
    obtain ⟨W10,hW10⟩:∃ W10,W10=((((w8.setCell ⟨W7.heap.size,0,none⟩ (.int .i64 cn)).setCell ⟨W7.heap.size,1,none⟩ (.int .i64 cb)).setCell ⟨W7.heap.size,2,none⟩ (.int .i64 cl)).setCell ⟨W7.heap.size,3,none⟩ (.slice q8 n8 c8)):=⟨_,rfl⟩
    rw [← hW10]
    have hb10:W10.heap[W7.heap.size]?=some (.cells #[.int .i64 cn,.int .i64 cb,.int .i64 cl,.slice q8 n8 c8] 75 (0,0)):=by rw [hW10];exact blk_set (blk_set (blk_set (blk_set hkX 0 _) 1 _) 2 _) 3 _
    have hm10:Mod [W7.heap.size] w8 W10:=by rw [hW10];exact ((((Mod.refl _ _).setCell (fun _=>by simp) _).setCell (fun _=>by simp) _).setCell (fun _=>by simp) _).setCell (fun _=>by simp) _
    have hlow:=HLow.out
    have z8:=H8.out.2.size
    have z9:=H9.out.2.1.size
    have z9':=H9.out.2.2
    have zd:W7.drew.heap.size=W7.heap.size:=rfl
    have hT2:TV pl w.heap.size #[.pointer (some ⟨pd,0,none⟩),.int .i64 (gn:Int),.int .i64 (ar:Int),.int .i64 (sq:Int),.int .i64 (us:Int),.int .i64 bn,.int .i64 bb,.int .i64 bl,.slice gq lv.length gc,.bool false] #[.int .i64 kd,.int .i64 gi,.int .i64 gh,.string gp,.int .i64 gm,.slice p1 n1 c1,.int .i64 gt,.int .i64 ri,.slice p2 n2 c2,.int .i64 rn,.int .i64 rb,.int .i64 rl] W10:=hT.mod hm10 (by simp;omega) (by simp;omega)
    have HA10:Hid (ApR W7 (⟨cn,cb,cl,cg⟩,ce) (.int .i64 ce) (.pointer (some ⟨W7.heap.size,0,none⟩)) W10):=hide ⟨W7.heap.size,q8,n8,c8,lv8,rfl,rfl,hb10,by omega,⟨(H8.out.1.gr.mod hm10 (by simp;omega)).base (by omega),H8.out.1.eq⟩,mod_fresh (H9.out.2.1.then H8.out.2) hm10 (by simp)⟩
    clear hkX C9 F9 hW10 hb10 hm10 hlow z8 z9 z9' zd
    refine HK.out _ _ _ hT2 ?_
    clear HK K hT hT2
    refine pY 11 fun hT K HK=>?_
    go_simp
    refine HK.out _ _ _ ?_
    clear HK K hT
    refine pD ?_
    go_wp2_with fail
    go_meet
    case rel=>exact HA10.out

 case rest =>
 obtain ⟨bx,q8,n8,c8,lv8,rfl,rfl,hbx,hbxs,hbk8,hm8⟩:=hcut
 simp only at hbx hbk8
 obtain ⟨W8,rfl⟩:∃ W8:World,W8=wc:=⟨_,rfl⟩
 have hm78:Mod [] w W8:=HM7.out.2.2.then hm8
 have hlow:=HLow.out
 have hz78:=hm78.size
 by_cases hce:ce=0
 · subst hce
   have hMt:=hav rfl
   subst hMt
   obtain ⟨hw1,hw2⟩:=hwd rfl
   have hTV8:=hTV.mod hm8 (by simp) (by simp)
   have D8:=blk_cell hTV8.2
   have hen:=(HE0.out W8 (HM7.out.1.mod hm8 (by simp)) (HM7.out.2.1.mod hm8 (by simp))).mono (R':=fun e w'=>∃ p c,e=.returned (.tuple #[.slice p nE c,.int .i64 0])∧RowY w' W8.heap.size (.slice p nE c) EB∧Mod [] W8 w') (fun e w' hx=>by
    rcases hx with ⟨h0,_⟩ | ⟨_,h1⟩
    · cases h0
    · rw [HNE.out] at h1;exact h1)
   unfold aggR cellsR at hen
   simp only at hen
   have HB8:=hd4 hbx hbk8 hm78 hbxs
   clear hbx hbk8 hm78 hm8 hTV hTV8 hC9 HE0 hav hwd
   go_upto_region 9 with (go_at_call 84;refine hen.mono ?_;rintro e w9 ⟨p9,c9,rfl,hr9,hm9⟩
                          have H9:=hd2 hr9 (HB8.out.2.2.1.then hm9)
                          have HX9:=hide hm9
                          clear hr9 hm9 hen)
   clear D8
   have hp12:w9.heap[pl]?=some (.cells #[.pointer (some ⟨pd,0,none⟩),.int .i64 (gn:Int),.int .i64 (ar:Int),.int .i64 (sq:Int),.int .i64 (us:Int),.int .i64 bn,.int .i64 bb,.int .i64 bl,.slice gq lv.length gc,.bool false] 110 (0,0)):=H9.out.2.at_ HH.out.1.blk (by simp)
   have hwu0:IntKind.i64.wrap ((us:Int)+(WE:Int))=(us:Int)+(WE:Int):=by rw [IntKind.wrap_i64];omega
   by_cases hov:24<us+WE
   · have hov2:(24:Int)<(us:Int)+(WE:Int):=by omega
     refine pB 8 (TS pl #[.pointer (some ⟨pd,0,none⟩),.int .i64 (gn:Int),.int .i64 (ar:Int),.int .i64 (sq:Int),.int .i64 (us:Int),.int .i64 bn,.int .i64 bb,.int .i64 bl,.slice gq lv.length gc,.bool false]) ((Mod.refl [] w9).drew.at_ hp12 (by simp)) ?_
     refine pP 0 ?_;refine pP 1 ?_;refine pP 2 ?_
     refine pT 3 rfl [7,8] (fun w hSw=>by have C0:=blk_cell hSw;go_simp;try with_reducible rfl) ?_
     refine pP 4 ?_;refine pP 5 ?_
     refine pX 6 fun hT K HK=>?_
     refine step_call rfl 85 #[.tmp 41] #[3] rfl (enters_of Tryz.func85 (by kernel_rfl) rfl) #[.int .i64 (nE:Int)] (by simp [Act.eval]) ?_
     refine (hwid _ hw2).mono ?_
     rintro e wz ⟨rfl,hwz⟩
     rw [hwz]
     refine ⟨_,rfl,?_⟩
     rw [HWD.out]
     have hT2:TS pl #[.pointer (some ⟨pd,0,none⟩),.int .i64 (gn:Int),.int .i64 (ar:Int),.int .i64 (sq:Int),.int .i64 (us:Int),.int .i64 bn,.int .i64 bb,.int .i64 bl,.slice gq lv.length gc,.bool false] w9.drew:=hT
     clear hwz
     refine HK.out _ _ _ hT2 ?_
     clear HK K hT hT2
     refine pP 7 ?_
     refine pY 8 fun hT K HK=>?_
     go_simp
     refine HK.out _ _ _ ?_
     clear HK K hT
     refine pD ?_
     clear hp12
     obtain ⟨CE,Cd,Cl⟩:=CT
     simp only at hcl
     have hcp:=HCP.out w9.drew H9.out.2.drew
     by_cases hce:CE=0
     · subst hce
       obtain ⟨gn1,ar1,sq1,us1,hCl,j1,j2,j3,j4,j5⟩:=HCZ.out rfl
       simp only at hCl
       subst hCl
       go_upto_region 13 with (go_at_call 86;refine hcp.mono ?_;rintro e wB ⟨rfl,hlgB,hmB⟩
                               have HB:=hd4 hlgB ((H9.out.2.drew.mono (by simp)).then hmB) (HX9.out.drew) hmB
                               clear hlgB hmB hcp)
       have HQ:Hid (R=addD Cd ⟨gn1,ar1,sq1,us1,⟨bn,bb,bl,bg⟩,false⟩ ⟨cn,cb,cl,cg⟩ EB):=hide (by
        rw [← HR.out,if_neg (by simp),if_neg (by simp),if_pos hov,if_neg (by simp)])
       have hD49:49≤Cd.secs.length:=by omega
       have hfit:us1+WE≤24:=by omega
       have hbxB:wB.heap[bx]?=some (.cells #[.int .i64 cn,.int .i64 cb,.int .i64 cl,.slice q8 n8 c8] 75 (0,0)):=(HB.out.2.2.2).at_ ((HB.out.2.2.1).at_ HB8.out.1 (by simp)) (by simp;omega)
       have hrow:RowY wB W8.heap.size (.slice p9 nE c9) EB:=H9.out.1.mod ((Mod.refl [pl,pd,bs] w9).drew.then HB.out.2.2.2) (fun x hx e=>by have:=(H9.out.1.blk x hx).1;simp at e;omega)
       obtain ⟨F1,hF1⟩:∃ F,1+ar1 * 24=F:=⟨_,rfl⟩
       have hFle:F1≤25:=by omega
       have hput0:=fun (W:World) (m:Mod [] wB W)=>lput_any (HB.out.1.quiet m) (F1+us1) gn1 sq1 (hrow.mod m (by simp)).rd (by omega) (by omega) (by rw [HNE.out];omega) (fun k hk=>Nat.lt_of_lt_of_le (hrow.blk k hk).2 m.size) (by omega)
       have herr0:=writes_err Cd (F1+us1) (packL gn1 sq1 EB) (by rw [packL_len,HNE.out,HWD.out];omega) pack_64
       have herr:(putD Cd (F1+us1) gn1 sq1 EB).1=0∨(putD Cd (F1+us1) gn1 sq1 EB).1=40:=herr0
       have hQ2:=HQ.out
       unfold addD at hQ2
       simp only at hQ2
       rw [hF1] at hQ2
       obtain ⟨⟨te,td⟩,hPt⟩:∃ t,putD Cd (F1+us1) gn1 sq1 EB=t:=⟨_,rfl⟩
       rw [hPt] at hput0 herr hQ2
       simp only at herr hQ2
       rw [HNE.out,HWD.out] at hQ2
       have HPut:=hide hput0
       have HF1:=hide hF1
       have HQ2:=hide hQ2
       have HErr:=hide herr
       have hwf:IntKind.i64.wrap ((F1:Int)+(us1:Int))=(F1:Int)+(us1:Int):=by rw [IntKind.wrap_i64];omega
       have hwu:IntKind.i64.wrap ((us1:Int)+(WE:Int))=(us1:Int)+(WE:Int):=by rw [IntKind.wrap_i64];omega
       have hws:IntKind.i64.wrap ((sq1:Int)+1)=(sq1:Int)+1:=by rw [IntKind.wrap_i64];omega
       have HBX:=hide hbxB
       clear hrow hput0 herr0 herr hQ2 hPt hF1 HQ hbxB
       refine pB 21 (TG pl gn1 ar1 sq1 us1) (((HB.out.1).quiet (Mod.refl [] wB).drew).tg) ?_
       refine pP 0 ?_;refine pP 1 ?_;refine pP 2 ?_;refine pP 3 ?_
       refine pT 4 rfl [21] (fun w hSw=>by have C1:=hSw.1;have C2:=hSw.2.1;have C3:=hSw.2.2.1;have C4:=hSw.2.2.2;go_simp;try with_reducible rfl) ?_
       refine pP 6 ?_;refine pP 7 ?_;refine pP 8 ?_
       refine pT 9 rfl [21] (fun w hSw=>by have C1:=hSw.1;have C2:=hSw.2.1;have C3:=hSw.2.2.1;have C4:=hSw.2.2.2;go_simp;try with_reducible rfl) ?_
       refine pP 11 ?_;refine pP 12 ?_;refine pP 13 ?_
       refine pT 14 rfl [21] (fun w hSw=>by have C1:=hSw.1;have C2:=hSw.2.1;have C3:=hSw.2.2.1;have C4:=hSw.2.2.2;go_simp;try with_reducible rfl) ?_
       refine pP 15 ?_;refine pP 16 ?_;refine pP 17 ?_
       refine pT 18 rfl [21] (fun w hSw=>by have C1:=hSw.1;have C2:=hSw.2.1;have C3:=hSw.2.2.1;have C4:=hSw.2.2.2;go_simp;try with_reducible rfl) ?_
       refine pP 19 ?_
       refine pX 5 fun hT K HK=>?_
       refine step_call rfl 88 #[.tmp 54] #[3] rfl (enters_of Tryz.func88 (by kernel_rfl) rfl) #[.int .i64 (ar1:Int)] (by simp [Act.eval]) ?_
       refine (first_any ar1 (by omega) _).mono ?_
       rintro e wz ⟨rfl,hwz⟩
       rw [hwz]
       refine ⟨_,rfl,?_⟩
       rw [HF1.out]
       have hT2:TG pl gn1 ar1 sq1 us1 wB.drew:=hT
       clear hwz
       refine HK.out _ _ _ hT2 ?_
       clear HK K hT hT2
       refine pP 10 ?_
       refine pX 20 fun hT K HK=>?_
       refine step_call rfl 87 #[.tmp 50,.tmp 60,.tmp 64,.tmp 68,.tmp 69] #[65,3,3,3,127] rfl (enters_of Tryz.func87 (by kernel_rfl) rfl) #[.pointer (some ⟨pl,0,none⟩),.int .i64 ((F1:Int)+(us1:Int)),.int .i64 (gn1:Int),.int .i64 (sq1:Int),.slice p9 nE c9] (by simp [Act.eval]) ?_
       refine (HPut.out _ (Mod.refl [] wB).drew).mono ?_
       rintro e w10 ⟨rfl,hlg10,hm10⟩
       refine ⟨_,rfl,?_⟩
       have hT2:TG pl gn1 ar1 sq1 us1 w10:=by
        by_cases h4:te=40
        · rw [if_pos h4] at hlg10;exact hlg10.tg
        · rw [if_neg h4] at hlg10;exact hlg10.tg
       have H10:=hd2 hlg10 ((Mod.refl [pl,pd,bs] wB).drew.then hm10)
       clear hlg10 hm10
       refine HK.out _ _ _ hT2 ?_
       clear HK K hT hT2
       refine pY 21 fun hT K HK=>?_
       go_simp
       refine HK.out _ _ _ ?_
       clear HK K hT
       refine pD ?_
       rcases HErr.out with hte | hte
       · subst hte
         have hlg10:LgM w10 pl pd bs (.slice gq lv.length gc) lv td ⟨gn1,ar1,sq1,us1,⟨bn,bb,bl,bg⟩,false⟩:=by simpa using H10.out.1
         have C10:=blk_cell hlg10.blk
         have F10:=blk_free hlg10.blk
         unfold lgCells at C10
         have HL10:=hide hlg10
         clear hlg10
         go_upto_region 17 with fail
         obtain ⟨W12,hW12⟩:∃ W12,W12=w10.setCell ⟨pl,3,none⟩ (.int .i64 ((sq1:Int)+1)):=⟨_,rfl⟩
         rw [← hW12]
         have hp12:W12.heap[pl]?=some (.cells #[.pointer (some ⟨pd,0,none⟩),.int .i64 (gn1:Int),.int .i64 (ar1:Int),.int .i64 ((sq1:Int)+1),.int .i64 (us1:Int),.int .i64 bn,.int .i64 bb,.int .i64 bl,.slice gq lv.length gc,.bool false] 110 (0,0)):=by rw [hW12];exact blk_set HL10.out.blk 3 _
         have hm12:Mod [pl] w10 W12:=by rw [hW12];exact (Mod.refl _ _).setCell (fun _=>by simp) _
         clear C10 F10 hW12
         refine pB 10 (TS pl #[.pointer (some ⟨pd,0,none⟩),.int .i64 (gn1:Int),.int .i64 (ar1:Int),.int .i64 ((sq1:Int)+1),.int .i64 (us1:Int),.int .i64 bn,.int .i64 bb,.int .i64 bl,.slice gq lv.length gc,.bool false]) ((Mod.refl [] W12).drew.at_ hp12 (by simp)) ?_
         refine pP 0 ?_;refine pP 1 ?_;refine pP 2 ?_
         refine pT 3 rfl [10] (fun w hSw=>by have C0:=blk_cell hSw;go_simp;try with_reducible rfl) ?_
         refine pP 4 ?_;refine pP 5 ?_
         refine pX 6 fun hT K HK=>?_
         refine step_call rfl 85 #[.tmp 86] #[3] rfl (enters_of Tryz.func85 (by kernel_rfl) rfl) #[.int .i64 (nE:Int)] (by simp [Act.eval]) ?_
         refine (width_any nE (by omega) _).mono ?_
         rintro e wz ⟨rfl,hwz⟩
         rw [hwz]
         refine ⟨_,rfl,?_⟩
         rw [HWD.out]
         have hT2:TS pl #[.pointer (some ⟨pd,0,none⟩),.int .i64 (gn1:Int),.int .i64 (ar1:Int),.int .i64 ((sq1:Int)+1),.int .i64 (us1:Int),.int .i64 bn,.int .i64 bb,.int .i64 bl,.slice gq lv.length gc,.bool false] W12.drew:=hT
         clear hwz
         refine HK.out _ _ _ hT2 ?_
         clear HK K hT hT2
         refine pP 7 ?_;refine pP 8 ?_;refine pP 9 ?_
         refine pY 10 fun hT K HK=>?_
         have C3:=blk_cell (w:=W12) hp12
         have F3:=blk_free (w:=W12) hp12
         go_simp
         clear C3 F3
         refine HK.out _ _ _ ?_
         clear HK K hT
         refine pD ?_
         obtain ⟨W13,hW13⟩:∃ W13,W13=W12.setCell ⟨pl,4,none⟩ (.int .i64 ((us1:Int)+(WE:Int))):=⟨_,rfl⟩
         have hp13:W13.heap[pl]?=some (.cells #[.pointer (some ⟨pd,0,none⟩),.int .i64 (gn1:Int),.int .i64 (ar1:Int),.int .i64 ((sq1:Int)+1),.int .i64 ((us1:Int)+(WE:Int)),.int .i64 bn,.int .i64 bb,.int .i64 bl,.slice gq lv.length gc,.bool false] 110 (0,0)):=by rw [hW13];exact blk_set hp12 4 _
         have hm13:Mod [pl] w10 W13:=by rw [hW13];exact hm12.setCell (fun _=>by simp) _
         rw [← hW13]
         have hbx13:W13.heap[bx]?=some (.cells #[.int .i64 cn,.int .i64 cb,.int .i64 cl,.slice q8 n8 c8] 75 (0,0)):=hm13.at_ (H10.out.2.at_ HBX.out (by have:=HB8.out.2.2.2;simp;omega)) (by have:=HB8.out.2.2.2;simp;omega)
         have C13:=blk_cell (w:=W13) hp13
         have F13:=blk_free (w:=W13) hp13
         have Cbx:=blk_cell (w:=W13) hbx13
         have hnbx:bx≠pl:=by have:=HB8.out.2.2.2;omega
         have HM13:=hd2 hp13 hm13
         clear hp12 hm12 hW13 hp13 hm13 hbx13
         go_wp2_with fail
         go_ret
         obtain ⟨hp13,hm13⟩:=HM13.out
         obtain ⟨W14,hW14⟩:∃ W14,W14=(((W13.setCell ⟨pl,5,none⟩ (.int .i64 cn)).setCell ⟨pl,6,none⟩ (.int .i64 cb)).setCell ⟨pl,7,none⟩ (.int .i64 cl)).setCell ⟨pl,8,none⟩ (.slice q8 n8 c8):=⟨_,rfl⟩
         rw [← hW14]
         have hb14:W14.heap[pl]?=some (.cells #[.pointer (some ⟨pd,0,none⟩),.int .i64 (gn1:Int),.int .i64 (ar1:Int),.int .i64 ((sq1:Int)+1),.int .i64 ((us1:Int)+(WE:Int)),.int .i64 cn,.int .i64 cb,.int .i64 cl,.slice q8 n8 c8,.bool false] 110 (0,0)):=by rw [hW14];exact blk_set (blk_set (blk_set (blk_set (w:=W13) hp13 5 _) 6 _) 7 _) 8 _
         have hm14:Mod [pl] w10 W14:=by rw [hW14];exact (((hm13.setCell (fun _=>by simp) _).setCell (fun _=>by simp) _).setCell (fun _=>by simp) _).setCell (fun _=>by simp) _
         have hm14:=hm14.drew
         have hb14:W14.drew.heap[pl]?=_:=hb14
         have hz1:=HM7.out.2.2.size
         have hmB14:Mod [pl,pd,bs] wB W14.drew:=H10.out.2.then (hm14.mono (T:=[pl,pd,bs]) (by simp))
         have hm814:Mod [pl,pd,bs] W8 W14.drew:=((HX9.out.mono (by simp)).then ((Mod.refl [pl,pd,bs] w9).drew.then HB.out.2.2.2)).then hmB14
         have hq:=HQ2.out
         rw [if_neg (by simp)] at hq
         rw [hq]
         refine ⟨rfl,.slice q8 n8 c8,lv8,?_,HB.out.2.1.then hmB14,.inr ((HB8.out.2.1.gr.mod hm814 (fun k hk=>by simp at hk;omega)).base (by omega))⟩
         exact HL10.out.cells (l':=⟨gn1,ar1,sq1+1,us1+WE,⟨cn,cb,cl,cg⟩,false⟩) (by rw [show lgCells pd (.slice q8 n8 c8) ⟨gn1,ar1,sq1+1,us1+WE,⟨cn,cb,cl,cg⟩,false⟩=#[.pointer (some ⟨pd,0,none⟩),.int .i64 (gn1:Int),.int .i64 (ar1:Int),.int .i64 ((sq1:Int)+1),.int .i64 ((us1:Int)+(WE:Int)),.int .i64 cn,.int .i64 cb,.int .i64 cl,.slice q8 n8 c8,.bool false] from by simp [lgCells]];exact hb14) hm14 ⟨(HB8.out.2.1.gr.mod hm814 (fun k hk=>by simp at hk;omega)).base (by omega),HB8.out.2.1.eq⟩
       · subst hte
         have hlg10:LgM w10 pl pd bs (.slice gq lv.length gc) lv td (deadL ⟨gn1,ar1,sq1,us1,⟨bn,bb,bl,bg⟩,false⟩):=by simpa using H10.out.1
         have HL10:=hide hlg10
         clear hlg10
         go_wp2_with fail
         go_ret
         have hq:=HQ2.out
         rw [if_pos (by simp)] at hq
         rw [hq]
         exact ⟨rfl,_,_,HL10.out,HB.out.2.1.then H10.out.2,.inl ⟨rfl,rfl⟩⟩

     · have hcb:(CE != 0)=true:=by simpa using hce
       go_wp2_with (go_at_call 86;refine hcp.mono ?_;rintro e wB ⟨rfl,hlgB,hmB⟩
                    have HB:=hd2 hlgB ((H9.out.2.drew.mono (by simp)).then hmB)
                    clear hlgB hmB hcp)
       go_ret
       rw [← HR.out,if_neg (by simp),if_neg (by simp),if_pos hov,if_pos hce]
       exact ⟨rfl,_,_,HB.out.1,HB.out.2,.inl ⟨rfl,rfl⟩⟩
   · have hov2:¬ (24:Int)<(us:Int)+(WE:Int):=by omega
     refine pB 8 (TS pl #[.pointer (some ⟨pd,0,none⟩),.int .i64 (gn:Int),.int .i64 (ar:Int),.int .i64 (sq:Int),.int .i64 (us:Int),.int .i64 bn,.int .i64 bb,.int .i64 bl,.slice gq lv.length gc,.bool false]) ((Mod.refl [] w9).drew.at_ hp12 (by simp)) ?_
     refine pP 0 ?_;refine pP 1 ?_;refine pP 2 ?_
     refine pT 3 rfl [7,8] (fun w hSw=>by have C0:=blk_cell hSw;go_simp;try with_reducible rfl) ?_
     refine pP 4 ?_;refine pP 5 ?_
     refine pX 6 fun hT K HK=>?_
     refine step_call rfl 85 #[.tmp 41] #[3] rfl (enters_of Tryz.func85 (by kernel_rfl) rfl) #[.int .i64 (nE:Int)] (by simp [Act.eval]) ?_
     refine (hwid _ hw2).mono ?_
     rintro e wz ⟨rfl,hwz⟩
     rw [hwz]
     refine ⟨_,rfl,?_⟩
     rw [HWD.out]
     have hT2:TS pl #[.pointer (some ⟨pd,0,none⟩),.int .i64 (gn:Int),.int .i64 (ar:Int),.int .i64 (sq:Int),.int .i64 (us:Int),.int .i64 bn,.int .i64 bb,.int .i64 bl,.slice gq lv.length gc,.bool false] w9.drew:=hT
     clear hwz
     refine HK.out _ _ _ hT2 ?_
     clear HK K hT hT2
     refine pP 7 ?_
     refine pY 8 fun hT K HK=>?_
     go_simp
     refine HK.out _ _ _ ?_
     clear HK K hT
     refine pD ?_
     clear hp12 HCP HCZ hcl
     obtain ⟨wB,hwB⟩:∃ wB,wB=w9.drew:=⟨_,rfl⟩
     have HB:Hid (LgM wB pl pd bs (.slice gq lv.length gc) lv d ⟨gn,ar,sq,us,⟨bn,bb,bl,bg⟩,false⟩∧Mod [pl,pd,bs] w wB∧Mod [] W8 wB∧Mod [pl,pd,bs] w9.drew wB):=hide (by
      rw [hwB]
      exact ⟨HH.out.1.quiet H9.out.2.drew,H9.out.2.drew.mono (by simp),HX9.out.drew,Mod.refl _ _⟩)
     rw [← hwB]
     have HQ:Hid (R=addD d ⟨gn,ar,sq,us,⟨bn,bb,bl,bg⟩,false⟩ ⟨cn,cb,cl,cg⟩ EB):=hide (by
      rw [← HR.out,if_neg (by simp),if_neg (by simp),if_neg hov])
     have hfit:us+WE≤24:=by omega
     have hbxB:wB.heap[bx]?=some (.cells #[.int .i64 cn,.int .i64 cb,.int .i64 cl,.slice q8 n8 c8] 75 (0,0)):=(HB.out.2.2.1).at_ HB8.out.1 (by simp)
     clear hwB
     go_upto_region 13 with fail
     have hrow:RowY wB W8.heap.size (.slice p9 nE c9) EB:=H9.out.1.mod ((Mod.refl [pl,pd,bs] w9).drew.then HB.out.2.2.2) (fun x hx e=>by have:=(H9.out.1.blk x hx).1;simp at e;omega)
     obtain ⟨F1,hF1⟩:∃ F,1+ar * 24=F:=⟨_,rfl⟩
     have hFle:F1≤25:=by omega
     have hput0:=fun (W:World) (m:Mod [] wB W)=>lput_any (HB.out.1.quiet m) (F1+us) gn sq (hrow.mod m (by simp)).rd (by omega) (by omega) (by rw [HNE.out];omega) (fun k hk=>Nat.lt_of_lt_of_le (hrow.blk k hk).2 m.size) (by omega)
     have herr0:=writes_err d (F1+us) (packL gn sq EB) (by rw [packL_len,HNE.out,HWD.out];omega) pack_64
     have herr:(putD d (F1+us) gn sq EB).1=0∨(putD d (F1+us) gn sq EB).1=40:=herr0
     have hQ2:=HQ.out
     unfold addD at hQ2
     simp only at hQ2
     rw [hF1] at hQ2
     obtain ⟨⟨te,td⟩,hPt⟩:∃ t,putD d (F1+us) gn sq EB=t:=⟨_,rfl⟩
     rw [hPt] at hput0 herr hQ2
     simp only at herr hQ2
     rw [HNE.out,HWD.out] at hQ2
     have HPut:=hide hput0
     have HF1:=hide hF1
     have HQ2:=hide hQ2
     have HErr:=hide herr
     have hwf:IntKind.i64.wrap ((F1:Int)+(us:Int))=(F1:Int)+(us:Int):=by rw [IntKind.wrap_i64];omega
     have hwu:IntKind.i64.wrap ((us:Int)+(WE:Int))=(us:Int)+(WE:Int):=by rw [IntKind.wrap_i64];omega
     have hws:IntKind.i64.wrap ((sq:Int)+1)=(sq:Int)+1:=by rw [IntKind.wrap_i64];omega
     have HBX:=hide hbxB
     clear hrow hput0 herr0 herr hQ2 hPt hF1 HQ hbxB
     refine pB 21 (TG pl gn ar sq us) (((HB.out.1).quiet (Mod.refl [] wB).drew).tg) ?_
     refine pP 0 ?_;refine pP 1 ?_;refine pP 2 ?_;refine pP 3 ?_
     refine pT 4 rfl [21] (fun w hSw=>by have C1:=hSw.1;have C2:=hSw.2.1;have C3:=hSw.2.2.1;have C4:=hSw.2.2.2;go_simp;try with_reducible rfl) ?_
     refine pP 6 ?_;refine pP 7 ?_;refine pP 8 ?_
     refine pT 9 rfl [21] (fun w hSw=>by have C1:=hSw.1;have C2:=hSw.2.1;have C3:=hSw.2.2.1;have C4:=hSw.2.2.2;go_simp;try with_reducible rfl) ?_
     refine pP 11 ?_;refine pP 12 ?_;refine pP 13 ?_
     refine pT 14 rfl [21] (fun w hSw=>by have C1:=hSw.1;have C2:=hSw.2.1;have C3:=hSw.2.2.1;have C4:=hSw.2.2.2;go_simp;try with_reducible rfl) ?_
     refine pP 15 ?_;refine pP 16 ?_;refine pP 17 ?_
     refine pT 18 rfl [21] (fun w hSw=>by have C1:=hSw.1;have C2:=hSw.2.1;have C3:=hSw.2.2.1;have C4:=hSw.2.2.2;go_simp;try with_reducible rfl) ?_
     refine pP 19 ?_
     refine pX 5 fun hT K HK=>?_
     refine step_call rfl 88 #[.tmp 54] #[3] rfl (enters_of Tryz.func88 (by kernel_rfl) rfl) #[.int .i64 (ar:Int)] (by simp [Act.eval]) ?_
     refine (first_any ar (by omega) _).mono ?_
     rintro e wz ⟨rfl,hwz⟩
     rw [hwz]
     refine ⟨_,rfl,?_⟩
     rw [HF1.out]
     have hT2:TG pl gn ar sq us wB.drew:=hT
     clear hwz
     refine HK.out _ _ _ hT2 ?_
     clear HK K hT hT2
     refine pP 10 ?_
     refine pX 20 fun hT K HK=>?_
     refine step_call rfl 87 #[.tmp 50,.tmp 60,.tmp 64,.tmp 68,.tmp 69] #[65,3,3,3,127] rfl (enters_of Tryz.func87 (by kernel_rfl) rfl) #[.pointer (some ⟨pl,0,none⟩),.int .i64 ((F1:Int)+(us:Int)),.int .i64 (gn:Int),.int .i64 (sq:Int),.slice p9 nE c9] (by simp [Act.eval]) ?_
     refine (HPut.out _ (Mod.refl [] wB).drew).mono ?_
     rintro e w10 ⟨rfl,hlg10,hm10⟩
     refine ⟨_,rfl,?_⟩
     have hT2:TG pl gn ar sq us w10:=by
      by_cases h4:te=40
      · rw [if_pos h4] at hlg10;exact hlg10.tg
      · rw [if_neg h4] at hlg10;exact hlg10.tg
     have H10:=hd2 hlg10 ((Mod.refl [pl,pd,bs] wB).drew.then hm10)
     clear hlg10 hm10
     refine HK.out _ _ _ hT2 ?_
     clear HK K hT hT2
     refine pY 21 fun hT K HK=>?_
     go_simp
     refine HK.out _ _ _ ?_
     clear HK K hT
     refine pD ?_
     rcases HErr.out with hte | hte
     · subst hte
       have hlg10:LgM w10 pl pd bs (.slice gq lv.length gc) lv td ⟨gn,ar,sq,us,⟨bn,bb,bl,bg⟩,false⟩:=by simpa using H10.out.1
       have C10:=blk_cell hlg10.blk
       have F10:=blk_free hlg10.blk
       unfold lgCells at C10
       have HL10:=hide hlg10
       clear hlg10
       go_upto_region 17 with fail
       obtain ⟨W12,hW12⟩:∃ W12,W12=w10.setCell ⟨pl,3,none⟩ (.int .i64 ((sq:Int)+1)):=⟨_,rfl⟩
       rw [← hW12]
       have hp12:W12.heap[pl]?=some (.cells #[.pointer (some ⟨pd,0,none⟩),.int .i64 (gn:Int),.int .i64 (ar:Int),.int .i64 ((sq:Int)+1),.int .i64 (us:Int),.int .i64 bn,.int .i64 bb,.int .i64 bl,.slice gq lv.length gc,.bool false] 110 (0,0)):=by rw [hW12];exact blk_set HL10.out.blk 3 _
       have hm12:Mod [pl] w10 W12:=by rw [hW12];exact (Mod.refl _ _).setCell (fun _=>by simp) _
       clear C10 F10 hW12
       refine pB 10 (TS pl #[.pointer (some ⟨pd,0,none⟩),.int .i64 (gn:Int),.int .i64 (ar:Int),.int .i64 ((sq:Int)+1),.int .i64 (us:Int),.int .i64 bn,.int .i64 bb,.int .i64 bl,.slice gq lv.length gc,.bool false]) ((Mod.refl [] W12).drew.at_ hp12 (by simp)) ?_
       refine pP 0 ?_;refine pP 1 ?_;refine pP 2 ?_
       refine pT 3 rfl [10] (fun w hSw=>by have C0:=blk_cell hSw;go_simp;try with_reducible rfl) ?_
       refine pP 4 ?_;refine pP 5 ?_
       refine pX 6 fun hT K HK=>?_
       refine step_call rfl 85 #[.tmp 86] #[3] rfl (enters_of Tryz.func85 (by kernel_rfl) rfl) #[.int .i64 (nE:Int)] (by simp [Act.eval]) ?_
       refine (width_any nE (by omega) _).mono ?_
       rintro e wz ⟨rfl,hwz⟩
       rw [hwz]
       refine ⟨_,rfl,?_⟩
       rw [HWD.out]
       have hT2:TS pl #[.pointer (some ⟨pd,0,none⟩),.int .i64 (gn:Int),.int .i64 (ar:Int),.int .i64 ((sq:Int)+1),.int .i64 (us:Int),.int .i64 bn,.int .i64 bb,.int .i64 bl,.slice gq lv.length gc,.bool false] W12.drew:=hT
       clear hwz
       refine HK.out _ _ _ hT2 ?_
       clear HK K hT hT2
       refine pP 7 ?_;refine pP 8 ?_;refine pP 9 ?_
       refine pY 10 fun hT K HK=>?_
       have C3:=blk_cell (w:=W12) hp12
       have F3:=blk_free (w:=W12) hp12
       go_simp
       clear C3 F3
       refine HK.out _ _ _ ?_
       clear HK K hT
       refine pD ?_
       obtain ⟨W13,hW13⟩:∃ W13,W13=W12.setCell ⟨pl,4,none⟩ (.int .i64 ((us:Int)+(WE:Int))):=⟨_,rfl⟩
       have hp13:W13.heap[pl]?=some (.cells #[.pointer (some ⟨pd,0,none⟩),.int .i64 (gn:Int),.int .i64 (ar:Int),.int .i64 ((sq:Int)+1),.int .i64 ((us:Int)+(WE:Int)),.int .i64 bn,.int .i64 bb,.int .i64 bl,.slice gq lv.length gc,.bool false] 110 (0,0)):=by rw [hW13];exact blk_set hp12 4 _
       have hm13:Mod [pl] w10 W13:=by rw [hW13];exact hm12.setCell (fun _=>by simp) _
       rw [← hW13]
       have hbx13:W13.heap[bx]?=some (.cells #[.int .i64 cn,.int .i64 cb,.int .i64 cl,.slice q8 n8 c8] 75 (0,0)):=hm13.at_ (H10.out.2.at_ HBX.out (by have:=HB8.out.2.2.2;simp;omega)) (by have:=HB8.out.2.2.2;simp;omega)
       have C13:=blk_cell (w:=W13) hp13
       have F13:=blk_free (w:=W13) hp13
       have Cbx:=blk_cell (w:=W13) hbx13
       have hnbx:bx≠pl:=by have:=HB8.out.2.2.2;omega
       have HM13:=hd2 hp13 hm13
       clear hp12 hm12 hW13 hp13 hm13 hbx13
       go_wp2_with fail
       go_ret
       obtain ⟨hp13,hm13⟩:=HM13.out
       obtain ⟨W14,hW14⟩:∃ W14,W14=(((W13.setCell ⟨pl,5,none⟩ (.int .i64 cn)).setCell ⟨pl,6,none⟩ (.int .i64 cb)).setCell ⟨pl,7,none⟩ (.int .i64 cl)).setCell ⟨pl,8,none⟩ (.slice q8 n8 c8):=⟨_,rfl⟩
       rw [← hW14]
       have hb14:W14.heap[pl]?=some (.cells #[.pointer (some ⟨pd,0,none⟩),.int .i64 (gn:Int),.int .i64 (ar:Int),.int .i64 ((sq:Int)+1),.int .i64 ((us:Int)+(WE:Int)),.int .i64 cn,.int .i64 cb,.int .i64 cl,.slice q8 n8 c8,.bool false] 110 (0,0)):=by rw [hW14];exact blk_set (blk_set (blk_set (blk_set (w:=W13) hp13 5 _) 6 _) 7 _) 8 _
       have hm14:Mod [pl] w10 W14:=by rw [hW14];exact (((hm13.setCell (fun _=>by simp) _).setCell (fun _=>by simp) _).setCell (fun _=>by simp) _).setCell (fun _=>by simp) _
       have hm14:=hm14.drew
       have hb14:W14.drew.heap[pl]?=_:=hb14
       have hz1:=HM7.out.2.2.size
       have hmB14:Mod [pl,pd,bs] wB W14.drew:=H10.out.2.then (hm14.mono (T:=[pl,pd,bs]) (by simp))
       have hm814:Mod [pl,pd,bs] W8 W14.drew:=((HX9.out.mono (by simp)).then ((Mod.refl [pl,pd,bs] w9).drew.then HB.out.2.2.2)).then hmB14
       have hq:=HQ2.out
       rw [if_neg (by simp)] at hq
       rw [hq]
       refine ⟨rfl,.slice q8 n8 c8,lv8,?_,HB.out.2.1.then hmB14,.inr ((HB8.out.2.1.gr.mod hm814 (fun k hk=>by simp at hk;omega)).base (by omega))⟩
       exact HL10.out.cells (l':=⟨gn,ar,sq+1,us+WE,⟨cn,cb,cl,cg⟩,false⟩) (by rw [show lgCells pd (.slice q8 n8 c8) ⟨gn,ar,sq+1,us+WE,⟨cn,cb,cl,cg⟩,false⟩=#[.pointer (some ⟨pd,0,none⟩),.int .i64 (gn:Int),.int .i64 (ar:Int),.int .i64 ((sq:Int)+1),.int .i64 ((us:Int)+(WE:Int)),.int .i64 cn,.int .i64 cb,.int .i64 cl,.slice q8 n8 c8,.bool false] from by simp [lgCells]];exact hb14) hm14 ⟨(HB8.out.2.1.gr.mod hm814 (fun k hk=>by simp at hk;omega)).base (by omega),HB8.out.2.1.eq⟩
     · subst hte
       have hlg10:LgM w10 pl pd bs (.slice gq lv.length gc) lv td (deadL ⟨gn,ar,sq,us,⟨bn,bb,bl,bg⟩,false⟩):=by simpa using H10.out.1
       have HL10:=hide hlg10
       clear hlg10
       go_wp2_with fail
       go_ret
       have hq:=HQ2.out
       rw [if_pos (by simp)] at hq
       rw [hq]
       exact ⟨rfl,_,_,HL10.out,HB.out.2.1.then H10.out.2,.inl ⟨rfl,rfl⟩⟩

 · have hcb:(ce != 0)=true:=by simpa using hce
   have HM:=hide hm78
   clear hm78 hbk8 hm8 hbx hTV hC9
   go_wp2_with fail
   go_ret
   rw [← HR.out,if_neg (by simp),if_pos hce]
   exact ⟨rfl,_,_,HH.out.1.quiet HM.out,HM.out.mono (by simp),.inl ⟨rfl,rfl⟩⟩
end Go.Proofs.YtllljngpgjkdiaaGreatDoor
/-
  WALKS: layer 12: Open.
-/
namespace Go.Proofs.YtllljngpgjkdiaaGreatDoor
set_option maxRecDepth 100000
set_option maxHeartbeats 4000000
open Go.RowKit Go.Shelf

def OpTo (w:World) (pd bs:Nat) (t:Int × Dk × Option Lg) (e:Ending) (w':World):Prop :=
 Mod [pd,bs] w w'∧match t.2.2 with
  | none=>e=.returned (.tuple #[.pointer none,.int .i64 t.1])∧DkM w' pd bs t.2.1
  | some l=>∃ pl gv lv,e=.returned (.tuple #[.pointer (some ⟨pl,0,none⟩),.int .i64 0])∧LgM w' pl pd bs gv lv t.2.1 l∧w.heap.size≤pl
theorem head_area {b:B8} {g k:Nat} (h:headS b=some (g,k)):k≤1∧1≤g∧g≤1073741824:=by
 unfold headS at h
 cases hl:lookS b with
 | none=>rw [hl] at h;cases h
 | some p =>
   rw [hl,Option.bind_some] at h
   by_cases hc:p.seq=0∧p.parts=1∧p.data.length=1∧(p.data.getD 0 0).toNat≤1
   · rw [if_pos hc] at h
     cases h
     have:=(look_fits hl).2.1
     exact ⟨hc.2.2.2,this.1,this.2.1⟩
   · rw [if_neg hc] at h;cases h
theorem mod_fresh2 {w W W':World} {pl:Nat} {S:List Nat} (m:Mod [] w W) (m2:Mod [pl] W W') (h:w.heap.size≤pl):Mod S w W':=(mod_fresh m m2 (by simp;exact h)).mono (by simp)
theorem mod_fresh3 {w W W' W2:World} {pl:Nat} {S:List Nat} (m:Mod [] w W) (m2:Mod S W W') (m3:Mod [pl] W' W2) (h:w.heap.size≤pl):Mod S w W2 :=
 ((m.mono (T:=S) (by simp)).then m2).trans m3 (fun _ x _=>x) (fun x hx hlt=>by simp at hx;omega)
theorem open_any {w:World} {pd bs:Nat} {d:Dk} (h:DkM w pd bs d) :
 Calls Tryz.prog 31 #[.pointer (some ⟨pd,0,none⟩)] w fun e w'=>OpTo w pd bs (openD d) e w':=by
 obtain ⟨R,hR⟩:∃ R,openD d=R:=⟨_,rfl⟩
 rw [hR]
 unfold openD at hR
 have hpdw:pd<w.heap.size∧bs<w.heap.size:=by
  obtain ⟨c,hb,hr⟩:=h.blk
  exact ⟨lt_of_block hb,(hr.lt bs rfl).2⟩
 have hln:=fun (W:World) (m:Mod [] w W)=>dlen_any (h.mod m (by simp) (by simp))
 have h512:=h.ok.most
 by_cases h49:d.secs.length<49
 · rw [if_pos h49] at hR
   have hi:(d.secs.length:Int)<49:=by omega
   have HH:=hide h
   clear h
   go_enter Tryz.func31,Tryz.ntmps31
   go_wp2_with (go_at_call 70;refine (hln _ (Mod.refl _ _)).mono ?_;rintro e w1 ⟨rfl,hx⟩;rw [hx];clear hx)
   go_ret2
   subst hR
   exact ⟨Mod.refl _ _,rfl,HH.out⟩
 rw [if_neg h49] at hR
 have hi:¬ (d.secs.length:Int)<49:=by omega
 have hlg0:∀ (W:World) (pl:Nat),Mod [] w W→w.heap.size≤pl→W.heap[pl]?=some (.cells (lgCells pd (.slice none 0 0) ⟨0,0,0,0,Bk.new,false⟩) 110 (0,0))→LgM W pl pd bs (.slice none 0 0) [] d ⟨0,0,0,0,Bk.new,false⟩:=fun W pl m hp hb=>⟨hb,h.mod m (by simp) (by simp),⟨GrM.nil _ _,rfl⟩,by omega⟩
 have HL:=hide hlg0
 have hN:=fun (W:World)=>(bnew_any W).mono (R':=fun e w'=>e=.returned (.agg #[.int .i64 1,.int .i64 0,.int .i64 0,.slice none 0 0])∧Mod [] W w') (fun e w' hx=>hx)
 have hw1:IntKind.i64.wrap 1=1:=rfl
 have hw0:IntKind.i64.wrap 0=0:=rfl
 have H49:=hide h49
 have HR:=hide hR
 clear h hlg0 h49 hR
 go_enter Tryz.func31,Tryz.ntmps31
 go_upto_region 6 with (first
  | (go_at_call 70;refine (hln _ (Mod.refl _ _)).mono ?_;rintro e w1 ⟨rfl,hx⟩;rw [hx];clear hx)
  | (go_at_call 71;refine (hN _).mono ?_;rintro e w2 ⟨rfl,hm2⟩;have H2:=hide hm2;clear hm2)
  | fail)
 obtain ⟨W3,hW3⟩:∃ W3,W3=w2.alloc (.cells #[.pointer (some ⟨pd,0,none⟩),.int .i64 0,.int .i64 0,.int .i64 0,.int .i64 0,.int .i64 1,.int .i64 0,.int .i64 0,.slice none 0 0,.bool false] 110 (0,0)):=⟨_,rfl⟩
 rw [← hW3]
 have hb3:W3.heap[w2.heap.size]?=some (.cells (lgCells pd (.slice none 0 0) ⟨0,0,0,0,Bk.new,false⟩) 110 (0,0)):=by rw [hW3];exact heap_alloc_new w2 _
 have hm3:Mod [] w W3:=by rw [hW3];exact H2.out.alloc _
 have hlg3:=HL.out W3 w2.heap.size hm3 H2.out.size hb3
 obtain ⟨pl,hpl⟩:∃ pl,w2.heap.size=pl:=⟨_,rfl⟩
 have hple:=H2.out.size
 rw [hpl] at hlg3 hple ⊢
 have hnm:=named_any hlg3
 have HM3:=hd2 hm3 hlg3
 clear hW3 hb3 hm3 hlg3 hpl H2 hln hN hi
 cases hoff:d.off with
 | true =>
   have hnm2:=hnm.mono (R':=fun e w'=>e=.returned (.tuple #[.bool false,.int .i64 40])∧Mod [] W3 w') (fun e w' hx=>by
    rcases hx with ⟨_,h1,_,h2⟩ | ⟨h0,_⟩ | ⟨h0,_⟩
    · exact ⟨h1,h2⟩
    · rw [hoff] at h0;cases h0
    · rw [hoff] at h0;cases h0)
   have HO:=hide hoff
   clear hnm hoff
   go_wp2_with (go_at_call 72;refine hnm2.mono ?_;rintro e w4 ⟨rfl,hm4⟩;have H4:=hide hm4;clear hm4 hnm2)
   go_ret2
   have hq:=HR.out
   rw [if_pos HO.out] at hq
   subst hq
   exact ⟨(HM3.out.1.then H4.out).mono (by simp),rfl,(HM3.out.2.quiet H4.out).dk⟩
 | false =>
 have hq:=HR.out
 rw [if_neg (by rw [hoff];decide)] at hq
 unfold stateS at hq
 cases hhd:headS (d.secs.getD 0 []) with
 | some gk =>
   obtain ⟨g,k⟩:=gk
   obtain ⟨ha1,ha2,ha3⟩:=head_area hhd
   rw [hhd] at hq
   simp only [Option.map_some] at hq
   have hnm2:=hnm.mono (R':=fun e w'=>e=.returned (.tuple #[.bool true,.int .i64 0])∧LgM w' pl pd bs (.slice none 0 0) [] d ⟨g,k,0,0,Bk.new,false⟩∧Mod [pl] W3 w') (fun e w' hx=>by
    rcases hx with ⟨h0,_⟩ | ⟨_,h0,_⟩ | ⟨_,g',k',h0,h1,h2,h3⟩
    · rw [hoff] at h0;cases h0
    · rw [hhd] at h0;cases h0
    · rw [hhd] at h0;cases h0;exact ⟨h1,h2,h3⟩)
   have HO:=hide hoff
   have HQ:=hide hq
   clear hnm hoff hhd hq
   go_upto_region 11 with (go_at_call 72;refine hnm2.mono ?_;rintro e w4 ⟨rfl,hlg4,hm4⟩;have H4:=hd2 hlg4 hm4;clear hlg4 hm4 hnm2)
   have hrc:=(recover_any H4.out.1 new_valid ha1 (Nat.zero_le _) (Nat.zero_le _) (by have:=H49.out;omega)).mono (R':=fun e w'=>e=.returned (.int .i64 0)∧∃ gv lv,LgM w' pl pd bs gv lv d (readL d.secs g k)∧Mod [pl] w4 w') (fun e w' hx=>by
    rcases hx with ⟨h0,_⟩ | ⟨_,h1,gv,lv,h2,h3⟩
    · rw [HO.out] at h0;cases h0
    · refine ⟨h1,gv,lv,?_,h3⟩
      simp only [Nat.zero_add] at h2
      exact h2)
   go_wp2_with (go_at_call 74;refine hrc.mono ?_;rintro e w5 ⟨rfl,gv5,lv5,hlg5,hm5⟩;have H5:=hd2 hlg5 hm5;clear hlg5 hm5 hrc)
   go_ret2
   rw [← HQ.out]
   exact ⟨mod_fresh2 HM3.out.1 (H4.out.2.then H5.out.2) hple,pl,gv5,lv5,rfl,H5.out.1,hple⟩
 | none =>
   rw [hhd] at hq
   simp only [Option.map_none] at hq
   have hnm2:=hnm.mono (R':=fun e w'=>e=.returned (.tuple #[.bool false,.int .i64 0])∧LgM w' pl pd bs (.slice none 0 0) [] d ⟨0,0,0,0,Bk.new,false⟩∧Mod [] W3 w') (fun e w' hx=>by
    rcases hx with ⟨h0,_⟩ | ⟨_,_,h1,h2,h3⟩ | ⟨_,g',k',h0,_⟩
    · rw [hoff] at h0;cases h0
    · exact ⟨h1,h2,h3⟩
    · rw [hhd] at h0;cases h0)
   have HQ:=hide hq
   clear hnm hoff hhd hq
   go_upto_region 8 with (go_at_call 72;refine hnm2.mono ?_;rintro e w4 ⟨rfl,hlg4,hm4⟩;have H4:=hd2 hlg4 hm4;clear hlg4 hm4 hnm2)
   have C4:=blk_cell H4.out.1.blk
   have F4:=blk_free H4.out.1.blk
   unfold lgCells at C4
   go_upto_region 9 with fail
   clear C4 F4
   obtain ⟨W5,hW5⟩:∃ W5,W5=(w4.setCell ⟨pl,1,none⟩ (.int .i64 1)).setCell ⟨pl,2,none⟩ (.int .i64 0):=⟨_,rfl⟩
   rw [← hW5]
   have hms:Mod [pl] w4 W5:=by rw [hW5];exact ((Mod.refl _ _).setCell (fun _=>by simp) _).setCell (fun _=>by simp) _
   have hlg5:LgM W5 pl pd bs (.slice none 0 0) [] d ⟨1,0,0,0,Bk.new,false⟩:=H4.out.1.cells (l':=⟨1,0,0,0,Bk.new,false⟩) (by rw [hW5];exact blk_set (blk_set H4.out.1.blk 1 _) 2 _) hms (H4.out.1.bkm hms)
   have hnn:=name_any hlg5 1 0 (by omega) (by omega)
   obtain ⟨⟨ue,ud⟩,hU⟩:∃ t,nameD d 1 0=t:=⟨_,rfl⟩
   have hlen:=name_len d 1 0
   have hoff2:(nameD d 1 0).1=0→(nameD d 1 0).2.off=false:=fun e=>(write_zero e).2.2.1
   rw [hU] at hnn hlen hoff2
   have hq:=HQ.out
   rw [hU] at hq
   simp only at hq hlen hoff2
   have HM5:=hide (H4.out.2.mono (T:=[pl]) (by simp) |>.then hms)
   have HQ2:=hide hq
   have HO:=hide hoff2
   clear hW5 hms hlg5 hU hq HQ hoff2
   by_cases hue:ue=0
   · subst hue
     go_upto_region 11 with (go_at_call 73;refine hnn.mono ?_;rintro e w6 ⟨rfl,hlg6,hm6⟩;have H6:=hd2 hlg6 hm6;clear hlg6 hm6 hnn)
     have hrc:=(recover_any H6.out.1 new_valid (Nat.zero_le _) (Nat.zero_le _) (Nat.zero_le _) (by have:=H49.out;omega)).mono (R':=fun e w'=>e=.returned (.int .i64 0)∧∃ gv lv,LgM w' pl pd bs gv lv ud (readL ud.secs 1 0)∧Mod [pl] w6 w') (fun e w' hx=>by
      rcases hx with ⟨h0,_⟩ | ⟨_,h1,gv,lv,h2,h3⟩
      · rw [HO.out (by simp)] at h0;cases h0
      · refine ⟨h1,gv,lv,?_,h3⟩
        simp only [Nat.zero_add] at h2
        exact h2)
     go_wp2_with (go_at_call 74;refine hrc.mono ?_;rintro e w7 ⟨rfl,gv7,lv7,hlg7,hm7⟩;have H7:=hd2 hlg7 hm7;clear hlg7 hm7 hrc)
     go_ret2
     have hq:=HQ2.out
     rw [if_pos (by simp)] at hq
     rw [← hq]
     exact ⟨mod_fresh3 (mod_fresh HM3.out.1 HM5.out (by simp;exact hple)) H6.out.2 H7.out.2 hple,pl,gv7,lv7,rfl,H7.out.1,hple⟩
   · have hub:(ue==0)=false:=by simpa using hue
     have hub2:(ue != 0)=true:=by simpa using hue
     have HUE:=hide hue
     clear hue
     go_wp2_with (go_at_call 73;refine hnn.mono ?_;rintro e w6 ⟨rfl,hlg6,hm6⟩;have H6:=hd2 hlg6 hm6;clear hlg6 hm6 hnn)
     go_ret2
     have hq:=HQ2.out
     rw [if_neg HUE.out] at hq
     rw [← hq]
     exact ⟨((mod_fresh HM3.out.1 HM5.out (by simp;exact hple)).mono (by simp)).then H6.out.2,rfl,H6.out.1.dk⟩
end Go.Proofs.YtllljngpgjkdiaaGreatDoor
/-
  WALKS: layer 12: Book, Records, Gen, Used; the nil ledger.
-/
namespace Go.Proofs.YtllljngpgjkdiaaGreatDoor
set_option maxRecDepth 100000
set_option maxHeartbeats 4000000
open Go.RowKit Go.Shelf

theorem append_nil (w:World) (r:Rcd) (p1 p2:Option Addr) (n1 c1 n2 c2:Nat):Calls Tryz.prog 58 #[.pointer none,aggR r (.slice p1 n1 c1) (.slice p2 n2 c2)] w fun e w'=>e=.returned (.int .i64 1)∧Mod [] w w':=by
 obtain ⟨kd,⟨gi,gh,gp,gm,gs,gt⟩,ri,rs,rn,rb,rl⟩:=r
 unfold aggR cellsR
 simp only
 go_enter Tryz.func58,Tryz.ntmps58
 go_wp2_with fail
 go_ret
 exact ⟨rfl,(Mod.refl _ _).alloc _⟩
def SepL (l:List (Grt × Value)):Prop:=l.Pairwise fun p q=>∀ k,k∈ob q.2→k ∉ ob p.2
theorem SepL.snoc {l:List (Grt × Value)} (h:SepL l) {x:Grt × Value} (hx:∀ p,p∈l→∀ k,k∈ob x.2→k ∉ ob p.2):SepL (l++[x]) :=
 List.pairwise_append.2 ⟨h,List.pairwise_singleton _ _,fun p hp q hq=>by rw [List.mem_singleton.1 hq];exact hx p hp⟩
def BokRel (w W1:World) (nx bo lo:Int) (lv:List (Grt × Value)) (i:Value) (wr:World):Prop :=
 ∃ (k:Nat) (sl:List (Grt × Value)) (q:Option Addr) (c:Nat),i=.int .i64 (k:Int)∧k≤lv.length∧sl.map Prod.fst=(lv.take k).map Prod.fst∧GrM wr (w.heap.size+2) (.slice q k c) sl ∧
   wr.heap[w.heap.size+1]?=some (.cells #[.int .i64 nx,.int .i64 bo,.int .i64 lo,.slice q k c] 75 (0,0))∧Mod [w.heap.size+1] W1 wr∧SepL sl
theorem book_sep {w:World} {pl pd bs:Nat} {gv:Value} {lv:List (Grt × Value)} {d:Dk} {l:Lg} (h:LgM w pl pd bs gv lv d l) (hv:validB l.book=true) :
 Calls Tryz.prog 38 #[.pointer (some ⟨pl,0,none⟩)] w fun e w'=>∃ gv' lv',e=.returned (aggB l.book gv')∧BkM w' w.heap.size gv' l.book lv'∧Mod [] w w'∧SepL lv':=by
 obtain ⟨i0,hi0,hz0,hs0,hb0⟩:=info_parts info_int
 obtain ⟨gn,ar,sq,us,⟨nx,bo,lo,gs⟩,dd⟩:=l
 simp only at hv ⊢
 have hsm:=valid_small hv h.bk.eq
 have heq:gs=lv.map Prod.fst:=h.bk.eq
 obtain ⟨q,c,rfl,hmx⟩:=h.bk.gr.shape
 have hmx':lv.length≤9223372036854775807:=hmx
 have hplw:=lt_of_block h.blk
 obtain ⟨W1,hW1⟩:∃ W1,W1=(w.alloc (.cells #[.int .i64 0,.int .i64 0,.int .i64 0,.slice none 0 0] 75 (0,0))).alloc (.cells #[.int .i64 nx,.int .i64 bo,.int .i64 lo,.slice none 0 0] 75 (0,0)):=⟨_,rfl⟩
 have hm1:Mod [] w W1:=by rw [hW1];exact ((Mod.refl [] w).alloc _).alloc _
 have hb0':W1.heap[w.heap.size]?=some (.cells #[.int .i64 0,.int .i64 0,.int .i64 0,.slice none 0 0] 75 (0,0)):=by rw [hW1];exact blk_alloc (heap_alloc_new w _) _
 have hb1:W1.heap[w.heap.size+1]?=some (.cells #[.int .i64 nx,.int .i64 bo,.int .i64 lo,.slice none 0 0] 75 (0,0)):=by
  rw [hW1]
  have:=heap_alloc_new (w.alloc (.cells #[.int .i64 0,.int .i64 0,.int .i64 0,.slice none 0 0] 75 (0,0))) (.cells #[.int .i64 nx,.int .i64 bo,.int .i64 lo,.slice none 0 0] 75 (0,0))
  simpa using this
 have hsz:W1.heap.size=w.heap.size+2:=by rw [hW1];simp
 have C0:=blk_cell (hm1.at_ h.blk (by simp))
 have C1:=blk_cell h.blk
 unfold lgCells at C0 C1
 have HH:=hd3 h hsm heq
 have HB:=hd4 hb0' hb1 hm1 hsz
 clear h hsm heq hb0' hb1 hm1 hsz hmx hv
 go_enter Tryz.func38,Tryz.ntmps38
 go_upto_region 5 with fail
 rw [← hW1]
 clear hW1 C1
 go_upto_region 6 with fail
 clear C0
 go_loopw [20] (fun i wr=>BokRel w W1 nx bo lo lv i wr) (fun i _=>lv.length - (intOf i).toNat)
 case atStart=>exact ⟨0,[],none,0,rfl,Nat.zero_le _,rfl,GrM.nil _ _,HB.out.2.1,Mod.refl _ _,List.Pairwise.nil⟩
 case round =>
  obtain ⟨k,sl,bq,bc,rfl,hk,hmap,hgm,hbx,hm,hsep⟩:=hrel
  have HSep:=hide hsep
  clear hsep
  have hsl:sl.length=k:=by have:=congrArg List.length hmap;simp at this;omega
  have hz2:=HB.out.2.2.2
  have hzr:=hm.size
  have hmw:Mod [] w wr:=mod_fresh HB.out.2.2.1 hm (by simp)
  by_cases hlt:k<lv.length
  · have hki:(k:Int)<(lv.length:Int):=by omega
    obtain ⟨bb,rfl,hbb,hb1,hc,hf,hrd⟩:=(HH.out.1.bk.gr.mod hmw (by simp)).at_ k hlt
    have hls:=(HH.out.2.1.2 _ (show lv.getD k default∈lv by simp [hlt])).1
    have htk:(lv.take (k+1)).map Prod.fst=(lv.take k).map Prod.fst++[(lv.getD k default).1]:=by rw [List.take_add_one,List.map_append];simp [hlt]
    generalize lv.getD k default=pr at hc hrd hls htk
    obtain ⟨⟨id,ho,pa,mo,st,te⟩,sv⟩:=pr
    simp only at hrd hls htk
    have c0:=hc 0 (by decide)
    have c1:=hc 1 (by decide)
    have c2:=hc 2 (by decide)
    have c3:=hc 3 (by decide)
    have c4:=hc 4 (by decide)
    have c5:=hc 5 (by decide)
    simp [encG,cellsG] at c0 c1 c2 c3 c4 c5
    obtain ⟨qs,cs,hsv⟩:=hrd.len
    obtain ⟨nst,hnst⟩:∃ n,st.length=n:=⟨_,rfl⟩
    rw [hnst] at hsv
    subst hsv
    obtain ⟨Wa,hWa⟩:∃ Wa,Wa=wr.alloc (.cells #[.int .i64 id,.int .i64 ho,.string pa,.int .i64 mo,.slice qs nst cs,.int .i64 te] 35 (0,0)):=⟨_,rfl⟩
    have hka:Wa.heap[wr.heap.size]?=some (.cells #[.int .i64 id,.int .i64 ho,.string pa,.int .i64 mo,.slice qs nst cs,.int .i64 te] 35 (0,0)):=by rw [hWa];exact heap_alloc_new wr _
    have hma:Mod [] wr Wa:=by rw [hWa];exact (Mod.refl _ _).alloc _
    have hza:Wa.heap.size=wr.heap.size+1:=by rw [hWa];simp
    have ca:=blk_cell hka 4
    have hrda:=hrd.mod hma (by simp)
    have HM:=hd6 hgm hbx hm hmw htk hmap
    have HA:=hd3 hka hma hza
    have HS:=hd2 hsl hls
    clear hc hrd hls htk hmap hgm hbx hm hmw hsl hka hma hza
    go_upto_region 8 with fail
    rw [← hWa]
    clear hWa c0 c1 c2 c3 c4 c5
    go_upto_region 9 with (
     at_builtin
     refine wpList_append_copy _ rfl _ _ 23 rfl 3 i0 Tryz.underlying23 hi0 hz0 hs0 hb0 rfl rfl hrda (by have:=HS.out.2;omega) ?_
     intro v' w2 ho2 hm2
     obtain ⟨p',c',hv'⟩:=(rdN_of_row ho2).len
     rw [hnst] at hv'
     subst hv'
     have hk2:=hm2.at_ HA.out.1 (by simp)
     have C2:=blk_cell hk2
     have F2:=blk_free hk2
     have H2:=hd3 ho2 hm2 hk2
     clear ho2 hm2 hk2 ca hrda)
    obtain ⟨W3,hW3⟩:∃ W3,W3=w2.setCell ⟨wr.heap.size,4,none⟩ (.slice p' nst c'):=⟨_,rfl⟩
    rw [← hW3]
    clear C2 F2
    obtain ⟨ho2,hm2,hk2⟩:=H2.out
    obtain ⟨hka,hma,hza⟩:=HA.out
    have hk3:W3.heap[wr.heap.size]?=some (.cells #[.int .i64 id,.int .i64 ho,.string pa,.int .i64 mo,.slice p' nst c',.int .i64 te] 35 (0,0)):=by rw [hW3];exact blk_set hk2 4 _
    have hs3:Mod [wr.heap.size] w2 W3:=by rw [hW3];exact (Mod.refl _ _).setCell (fun _=>by simp) _
    have hm3:Mod [] wr W3:=mod_fresh (hma.then hm2) hs3 (by simp)
    have hst3:W3.ownsRow Wa.heap.size 3 1 (.slice p' nst c') st.length (st.map (Value.int .i64)):=hs3.row ho2 (fun x hx=>by have:=(ob_of_row ho2 x (by simpa [ob] using hx)).1;simp;omega)
    have hz3:=hm2.size
    have hz3':=hs3.size
    have D3:=blk_cell hk3
    have hbx3:=hm3.at_ HM.out.2.1 (by simp)
    have B3:=blk_cell hbx3
    obtain ⟨W4,hW4⟩:∃ W4,W4=W3.alloc (.cells #[.int .i64 id,.int .i64 ho,.string pa,.int .i64 mo,.slice p' nst c',.int .i64 te] 35 (0,0)):=⟨_,rfl⟩
    have hk4:W4.heap[W3.heap.size]?=some (.cells (cellsG ⟨id,ho,pa,mo,st,te⟩ (.slice p' nst c')).toArray 35 (0,0)):=by rw [hW4];exact heap_alloc_new W3 _
    have hm4:Mod [] W3 W4:=by rw [hW4];exact (Mod.refl _ _).alloc _
    have hgm4:=HM.out.1.mod (hm3.then hm4) (by simp)
    have hst4:=World.ownsRow.mono (hm4.row hst3 (by simp)) (show w.heap.size+2≤Wa.heap.size by omega)
    have hap:∀ x,x∈ob (.slice p' nst c')→x ∉ ob (.slice bq k bc):=fun x hx hx2=>by
     have h1:=(ob_of_row ho2 x hx).1
     have h2:=(ob_of_row HM.out.1.row x hx2).2
     omega
    have HNS:=hide (show ∀ p,p∈sl→∀ x,x∈ob (.slice p' nst c')→x ∉ ob p.2 from fun p hp x hx hx2=>by
     have h1:=(ob_of_row ho2 x hx).1
     have h2:=(ob_of_row (HM.out.1.st p hp).1 x hx2).2
     omega)
    have hobu:∀ x,x∈ob (.slice bq k bc)→w.heap.size+2≤x:=fun x hx=>(ob_of_row HM.out.1.row x hx).1
    have hz4:w.heap.size+2≤W4.heap.size:=by have:=hm4.size;omega
    have HG:=hd6 hgm4 hst4 hap hk4 hobu (hm3.then hm4)
    have HX:=hd2 (hm4.at_ hbx3 (by simp)) hz4
    clear ho2 hm2 hk2 hka hma hza hk3 hs3 hm3 hst3 hz3 hz3' hbx3 hk4 hm4 hgm4 hst4 hap hobu hz4 hW3 H2
    go_wp2_with (
     at_builtin
     rw [← hW4]
     refine wpList_app_gr (g:=⟨id,ho,pa,mo,st,te⟩) (sv:=.slice p' nst c') (sl:=sl) (base:=w.heap.size+2) W4 rfl _ _ rfl rfl HG.out.1 (by have:=HS.out.1;have:=HH.out.2.1.1;omega) HX.out.2 (k:=W3.heap.size) rfl HG.out.2.2.2.1 HG.out.2.1 HG.out.2.2.1 ?_
     rintro u' w5 hgm5 hm5 ⟨p3,c3,hu5⟩ -
     rw [HS.out.1] at hu5
     subst hu5
     have hb5:=hm5.at_ HX.out.1 (fun e=>by have:=HG.out.2.2.2.2.1 _ e;omega)
     have B5:=blk_cell hb5
     have F5:=blk_free hb5
     have H5:=hd3 hgm5 hm5 hb5
     clear hgm5 hm5 hb5 D3 B3)
    go_roundw
    case rel =>
     obtain ⟨hgm5,hm5,hb5⟩:=H5.out
     obtain ⟨hgm,hbx,hm,hmw,htk,hmap⟩:=HM.out
     have hms:Mod [w.heap.size+1] w5 (w5.setCell ⟨w.heap.size+1,3,none⟩ (.slice p3 (k+1) c3)):=(Mod.refl _ _).setCell (fun _=>by simp) _
     refine ⟨k+1,sl++[(⟨id,ho,pa,mo,st,te⟩,.slice p' nst c')],p3,c3,by go_num,by omega,?_,hgm5.mod hms (fun x hx=>by simp at hx;omega),blk_set hb5 3 _,?_,HSep.out.snoc HNS.out⟩
     · rw [htk,List.map_append,hmap];rfl
     · refine ((hm.then (HG.out.2.2.2.2.2.mono (by simp))).trans hm5 (fun x hx _=>hx) (fun x hx hlt=>?_)).then hms
       have:=HG.out.2.2.2.2.1 x hx
       omega
    case measure=>simp [intOf];omega
  · obtain rfl:k=lv.length:=by omega
    have d0:=hm.at_ HB.out.1 (by simp)
    have C0:=blk_cell d0
    have F0:=blk_free d0
    have C1:=blk_cell hbx
    have HE:=hd5 d0 hgm hmw hmap hm
    clear d0 hgm hmw hmap hm hsl
    go_wp2_with fail
    obtain ⟨d0,hgm,hmw,hmap,hm⟩:=HE.out
    have q':=stL_all d0 [.int .i64 nx,.int .i64 bo,.int .i64 lo,.slice bq lv.length bc] rfl
    have qm:=stL_mod (S:=[w.heap.size]) (w0:=wr) (r:=w.heap.size) (fun _=>by simp) [.int .i64 nx,.int .i64 bo,.int .i64 lo,.slice bq lv.length bc] 0 _ (Mod.refl [w.heap.size] wr)
    refine bodyPost_ret (v:=.agg #[.int .i64 nx,.int .i64 bo,.int .i64 lo,.slice bq lv.length bc]) (res_cell1 Tryz.results38 _ _ rfl q' Tryz.isAgg75 Tryz.sizeOf75) rfl ⟨_,sl,rfl,⟨?_,?_⟩,?_,HSep.out⟩
    · exact (hgm.mod qm (fun k hk=>by simp at hk;omega)).base (by omega)
    · have:=HH.out.2.2
      simp only
      rw [this,hmap,List.take_length]
    · exact mod_fresh hmw qm (by simp)
end Go.Proofs.YtllljngpgjkdiaaGreatDoor
/-
  PLAIN, NO WALK: layer 12, once more: generations and writes over any calls; a ledger that lives, or whose power is off.
-/
namespace Go.Proofs.YtllljngpgjkdiaaGreatDoor
open Go.RowKit

/-! ### generations -/
def gensLe (s:List B8) (G:Nat):Prop:=∀ b p,b∈s→lookS b=some p→p.gen≤G
theorem gensLe.mono {s:List B8} {G H:Nat} (h:gensLe s G) (k:G≤H):gensLe s H:=fun b p hb hp=>Nat.le_trans (h b p hb hp) k
theorem write_gens {d:Dk} {i:Nat} {b:B8} {G:Nat} (h:gensLe d.secs G) (hb:∀ p,lookS b=some p→p.gen≤G):gensLe (writeD d i b).2.secs G:=by
 by_cases h0:(writeD d i b).1=0
 · rw [(write_zero h0).1]
   intro x p hx hp
   rcases List.mem_or_eq_of_mem_set hx with hx | rfl
   · exact h x p hx hp
   · exact hb p hp
 · rw [(write_fail h0).1];exact h
theorem writes_gens:∀ {l:List B8} {d:Dk} {a:Nat} {G:Nat},gensLe d.secs G→(∀ b p,b∈l→lookS b=some p→p.gen≤G)→gensLe (writesD d a l).2.secs G
 | [],d,a,G,h,_=>h
 | b::l,d,a,G,h,hb=>by
   have h1:=write_gens (i:=a) h (fun p hp=>hb b p List.mem_cons_self hp)
   unfold writesD
   split
   · exact writes_gens h1 (fun x p hx hp=>hb x p (List.mem_cons_of_mem _ hx) hp)
   · exact h1
/-! ### writes are counted, and nothing happens to a disk that is off -/
structure Wr (d d':Dk) (n:Nat):Prop where
 cnt:0≤d.writes→d.writes+n<9223372036854775808→d.writes≤d'.writes∧d'.writes≤d.writes+n
 arm:d.armed=false→d'.armed=false
 on:d.armed=false→d.off=false→d'.off=false
 off:d.off=true→d'=d
theorem Wr.refl (d:Dk):Wr d d 0:=⟨fun _ _=>⟨Int.le_refl _,by simp⟩,fun h=>h,fun _ h=>h,fun _=>rfl⟩
theorem Wr.trans {a b c:Dk} {n m:Nat} (h:Wr a b n) (k:Wr b c m):Wr a c (n+m):=by
 refine ⟨fun h0 h1=>?_,fun e=>k.arm (h.arm e),fun e e2=>k.on (h.arm e) (h.on e e2),fun e=>?_⟩
 · have h2:=h.cnt h0 (by omega)
   have h3:=k.cnt (by omega) (by omega)
   omega
 · have:=h.off e;subst this;exact k.off e
theorem Wr.mono {a b:Dk} {n m:Nat} (h:Wr a b n) (k:n≤m):Wr a b m:=⟨fun h0 h1=>by have:=h.cnt h0 (by omega);omega,h.arm,h.on,h.off⟩
theorem write_wr (d:Dk) (i:Nat) (b:B8):Wr d (writeD d i b).2 1:=by
 unfold writeD
 by_cases h1:d.off=true
 · rw [if_pos h1];exact (Wr.refl d).mono (by omega)
 rw [if_neg h1]
 by_cases h2:d.secs.length≤i
 · rw [if_pos h2];exact (Wr.refl d).mono (by omega)
 rw [if_neg h2]
 by_cases h3:b.length≠64
 · rw [if_pos h3];exact (Wr.refl d).mono (by omega)
 rw [if_neg h3]
 by_cases h4:d.armed=true∧d.left=0
 · rw [if_pos h4]
   refine ⟨fun _ _=>⟨Int.le_refl _,?_⟩,fun _=>rfl,fun e=>?_,fun e=>absurd e h1⟩
   · show d.writes≤d.writes+_;omega
   · rw [h4.1] at e;cases e
 rw [if_neg h4]
 refine ⟨fun h0 hm=>?_,fun e=>e,fun _ e=>e,fun e=>absurd e h1⟩
 have hw:(wroteD d i b).writes=d.writes+1:=wrap64_small (by omega) (by omega)
 simp only
 rw [hw]
 omega
theorem write_more {d:Dk} {i:Nat} {b:B8} (h:(writeD d i b).1=0) (h0:0≤d.writes) (h1:d.writes+1<9223372036854775808):(writeD d i b).2.writes=d.writes+1:=by
 unfold writeD at h ⊢
 split at h
 · cases h
 rename_i e1
 split at h
 · cases h
 rename_i e2
 split at h
 · cases h
 rename_i e3
 split at h
 · cases h
 rename_i e4
 rw [if_neg e1,if_neg e2,if_neg e3,if_neg e4]
 exact wrap64_small (by omega) (by omega)
theorem writes_wr:∀ (l:List B8) (d:Dk) (a:Nat),Wr d (writesD d a l).2 l.length
 | [],d,a=>Wr.refl d
 | b::l,d,a=>by
   have h1:=write_wr d a b
   unfold writesD
   split
   · exact (h1.trans (writes_wr l (writeD d a b).2 (a+1))).mono (by rw [List.length_cons];omega)
   · exact h1.mono (by simp)
theorem put_wr (d:Dk) (at_ gen seq:Nat) (data:B8):Wr d (putD d at_ gen seq data).2 (widthN data.length):=by
 have:=writes_wr (packL gen seq data) d at_
 rw [packL_len] at this
 exact this
theorem put_more {d:Dk} {at_ gen seq:Nat} {data:B8} (h:(putD d at_ gen seq data).1=0) (h0:0≤d.writes) (h1:d.writes+widthN data.length<9223372036854775808):d.writes<(putD d at_ gen seq data).2.writes:=by
 have hl:(packL gen seq data).length=widthN data.length:=packL_len _ _ _
 have hw:=width_pos data.length
 unfold putD at h ⊢
 generalize packL gen seq data=l at h hl
 cases l with
 | nil=>simp at hl;omega
 | cons b l =>
   unfold writesD at h ⊢
   split at h
   · rename_i e
     rw [if_pos e]
     have h2:=write_more e h0 (by omega)
     simp only [List.length_cons] at hl
     have h3:=(writes_wr l (writeD d at_ b).2 (at_+1)).cnt (by omega) (by omega)
     omega
   · rename_i e;exact absurd h e
theorem lay_wr (gen:Nat) (l:List B8) (d:Dk) (a i:Nat):Wr d (layD d a gen i l).2 (sumW l):=by
 rw [lay_writes]
 have:=writes_wr (flatR gen i l) d a
 rw [flatR_len] at this
 exact this
theorem name_wr (d:Dk) (gen k:Nat):Wr d (nameD d gen k).2 1:=write_wr d 0 _
theorem compact_wr {d:Dk} {l:Lg} (h:validB l.book=true):Wr d (compactD d l).2.1 17:=by
 have hd:=dump_width h
 have h1:=lay_wr (maxGen l.gen (sideS d.secs (1 - l.area))+1) ((dumpB l.book).map encB) d (1+(1 - l.area) * 24) 0
 have h2:=h1.trans (name_wr (layD d (1+(1 - l.area) * 24) (maxGen l.gen (sideS d.secs (1 - l.area))+1) 0 ((dumpB l.book).map encB)).2 (maxGen l.gen (sideS d.secs (1 - l.area))+1) (1 - l.area))
 unfold compactD
 split
 · exact (Wr.refl d).mono (by omega)
 split
 · exact (Wr.refl d).mono (by omega)
 split
 · exact (Wr.refl d).mono (by omega)
 simp only
 split
 · exact h1.mono (by omega)
 split
 · exact h2.mono (by omega)
 · exact h2.mono (by omega)
theorem width_enc {r:Rcd} (h:mayB r=true):widthN (encB r).length≤2:=by
 have:=enc_len h
 unfold widthN
 omega
theorem add_wr {d:Dk} {l:Lg} {c:Bk} {b:B8} (hb:widthN b.length≤2):Wr d (addD d l c b).2.1 2:=by
 have h:=(put_wr d (1+l.area * 24+l.used) l.gen l.seq b).mono hb
 unfold addD
 simp only
 split <;> exact h
theorem append_wr {d:Dk} {l:Lg} (h:validB l.book=true) (r:Rcd):Wr d (appendD d l r).2.1 20:=by
 unfold appendD
 split
 · exact (Wr.refl d).mono (by omega)
 split
 · exact (Wr.refl d).mono (by omega)
 rename_i e
 have hm:mayB r=true:=(apply_zero.1 (Decidable.not_not.1 e)).2.1
 split
 · split
   · exact (compact_wr h).mono (by omega)
   · exact ((compact_wr h).trans (add_wr (width_enc hm))).mono (by omega)
 · exact (add_wr (width_enc hm)).mono (by omega)
theorem add_more {d:Dk} {l:Lg} {c:Bk} {b:B8} (hb:widthN b.length≤2) (h:(addD d l c b).1=0) (h0:0≤d.writes) (h1:d.writes+2<9223372036854775808):d.writes<(addD d l c b).2.1.writes:=by
 unfold addD at h ⊢
 simp only at h ⊢
 split at h
 · rename_i e;exact absurd h e
 · rename_i e
   rw [if_neg e]
   exact put_more (Decidable.not_not.1 e) h0 (by omega)
theorem append_more {d:Dk} {l:Lg} (h:validB l.book=true) {r:Rcd} (he:(appendD d l r).1=0) (h0:0≤d.writes) (h1:d.writes+20<9223372036854775808):d.writes<(appendD d l r).2.1.writes:=by
 unfold appendD at he ⊢
 split at he
 · cases he
 rename_i e1
 rw [if_neg e1]
 split at he
 · rename_i e2;exact absurd he e2
 rename_i e2
 rw [if_neg e2]
 have hm:mayB r=true:=(apply_zero.1 (Decidable.not_not.1 e2)).2.1
 split at he
 · rename_i e3
   rw [if_pos e3]
   split at he
   · rename_i e4;exact absurd he e4
   · rename_i e4
     rw [if_neg e4]
     have h2:=(compact_wr (d:=d) h).cnt h0 (by omega)
     have:=add_more (width_enc hm) he (by omega) (by omega)
     omega
 · rename_i e3
   rw [if_neg e3]
   exact add_more (width_enc hm) he h0 (by omega)
/-! ### generations over a call -/
theorem head_gens {g k:Nat} (hg:g<4294967296) {p:Prt} (h:lookS (headB g k)=some p):p.gen=g:=look_gen hg h
theorem compact_gens {d:Dk} {l:Lg} {G:Nat} (h:gensLe d.secs G) (hl:l.gen≤G) (hG:G+1<4294967296):gensLe (compactD d l).2.1.secs (G+1)∧(compactD d l).2.2.gen≤G+1:=by
 have hm:maxGen l.gen (sideS d.secs (1 - l.area))≤G:=maxGen_most _ _ _ hl (fun b p hb hp=>h b p (List.mem_of_mem_drop (List.mem_of_mem_take hb)) hp)
 have h0:=h.mono (Nat.le_succ G)
 have h1:gensLe (layD d (1+(1 - l.area) * 24) (maxGen l.gen (sideS d.secs (1 - l.area))+1) 0 ((dumpB l.book).map encB)).2.secs (G+1):=by
  rw [lay_writes]
  exact writes_gens h0 (fun b p hb hp=>by rw [flat_gen (by omega) hb hp];omega)
 unfold compactD
 split
 · exact ⟨h0,by show l.gen≤_;omega⟩
 split
 · exact ⟨h0,by show l.gen≤_;omega⟩
 split
 · exact ⟨h0,by show l.gen≤_;omega⟩
 simp only
 have h2:gensLe (nameD (layD d (1+(1 - l.area) * 24) (maxGen l.gen (sideS d.secs (1 - l.area))+1) 0 ((dumpB l.book).map encB)).2 (maxGen l.gen (sideS d.secs (1 - l.area))+1) (1 - l.area)).2.secs (G+1) :=
  write_gens h1 (fun p hp=>by rw [head_gens (by omega) hp];omega)
 split
 · exact ⟨h1,by show l.gen≤_;omega⟩
 split
 · exact ⟨h2,by show l.gen≤_;omega⟩
 · exact ⟨h2,by show _+1≤_;omega⟩
theorem add_gens {d:Dk} {l:Lg} {c:Bk} {b:B8} {G:Nat} (h:gensLe d.secs G) (hl:l.gen≤G) (hG:G<4294967296):gensLe (addD d l c b).2.1.secs G∧(addD d l c b).2.2.gen≤G:=by
 have h1:gensLe (putD d (1+l.area * 24+l.used) l.gen l.seq b).2.secs G:=writes_gens h (fun x p hx hp=>by rw [pack_gen (by omega) hx hp];exact hl)
 unfold addD
 simp only
 split
 · exact ⟨h1,hl⟩
 · exact ⟨h1,hl⟩
theorem append_gens {d:Dk} {l:Lg} {r:Rcd} {G:Nat} (h:gensLe d.secs G) (hl:l.gen≤G) (hG:G+1<4294967296):gensLe (appendD d l r).2.1.secs (G+1)∧(appendD d l r).2.2.gen≤G+1:=by
 have h0:=h.mono (Nat.le_succ G)
 unfold appendD
 split
 · exact ⟨h0,by show l.gen≤_;omega⟩
 split
 · exact ⟨h0,by show l.gen≤_;omega⟩
 obtain ⟨c1,c2⟩:=compact_gens h hl hG
 split
 · split
   · exact ⟨c1,c2⟩
   · exact add_gens c1 c2 hG
 · exact add_gens h0 (by omega) hG
/-! ### a ledger that lives, or whose power is off -/
structure LgS (d:Dk) (l:Lg) (G:Nat):Prop where
 lok:l.Ok
 n49:49≤d.secs.length
 gens:gensLe d.secs G
 gen:l.gen≤G
 dok:d.Ok
 way:(d.off=false∧l.dead=false∧Inv d l)∨(d.off=true∧l.dead=true∧∃ l',Inv d l'∧l'.book=l.book∧l'.dead=false∧l'.gen≤G)
theorem add_dead {d:Dk} {l:Lg} {c:Bk} {b:B8} (h:(addD d l c b).1≠0):(addD d l c b).2.2.dead=true∧(addD d l c b).2.2.book=l.book:=by
 unfold addD at h ⊢
 simp only at h ⊢
 split
 · exact ⟨rfl,rfl⟩
 · rename_i e;rw [if_neg e] at h;exact absurd rfl h
theorem compact_dead {d:Dk} {l:Lg} (h:(compactD d l).1=40):(compactD d l).2.2.dead=true:=by
 unfold compactD at h ⊢
 split
 · assumption
 rename_i e0
 rw [if_neg e0] at h
 split
 · rfl
 rename_i e1
 rw [if_neg e1] at h
 split
 · rename_i e2;rw [if_pos e2] at h;cases h
 rename_i e2
 rw [if_neg e2] at h
 simp only at h ⊢
 split
 · rfl
 rename_i e3
 rw [if_neg e3] at h
 split
 · rfl
 rename_i e4
 rw [if_neg e4] at h
 cases h
theorem append_dead {d:Dk} {l:Lg} {r:Rcd} (h:(appendD d l r).1=40):(appendD d l r).2.2.dead=true:=by
 unfold appendD at h ⊢
 split
 · assumption
 rename_i e0
 rw [if_neg e0] at h
 split
 · rename_i e1
   rw [if_pos e1] at h
   rcases apply_errs l.book r with e | e | e | e <;> rw [e] at h <;> cases h
 rename_i e1
 rw [if_neg e1] at h
 split
 · rename_i e2
   rw [if_pos e2] at h
   split
   · rename_i e3
     rw [if_pos e3] at h
     exact compact_dead h
   · rename_i e3
     rw [if_neg e3] at h
     exact (add_dead (by rw [h];decide)).1
 · rename_i e2
   rw [if_neg e2] at h
   exact (add_dead (by rw [h];decide)).1
theorem append_dead40 {d:Dk} {l:Lg} (r:Rcd) (h:l.dead=true):appendD d l r=(40,d,l):=by unfold appendD;rw [if_pos h]
theorem append_len (d:Dk) (l:Lg) (r:Rcd):(appendD d l r).2.1.secs.length=d.secs.length:=by
 have ha:∀ (d:Dk) (l:Lg) c b,(addD d l c b).2.1.secs.length=d.secs.length:=by
  intro d l c b
  unfold addD
  simp only
  split <;> exact writes_len _ _ _
 have hc:(compactD d l).2.1.secs.length=d.secs.length:=by
  unfold compactD
  repeat' split
  all_goals first | rfl | skip
  all_goals simp only
  all_goals repeat' split
  all_goals first | (rw [lay_writes];exact writes_len _ _ _) | (refine (write_len _ _ _).trans ?_;rw [lay_writes];exact writes_len _ _ _)
 unfold appendD
 repeat' split
 all_goals first | rfl | exact hc | (rw [ha,hc]) | exact ha _ _ _ _
theorem inv_gen {d:Dk} {l:Lg} {G:Nat} (h:Inv d l) (hg:gensLe d.secs G):l.gen≤G:=by
 have hh:=h.head
 unfold headS at hh
 rw [Option.bind_eq_some_iff] at hh
 obtain ⟨p,hp,h2⟩:=hh
 have hm:d.secs.getD 0 []∈d.secs:=by
  have:=h.n49
  have h0:0<d.secs.length:=by omega
  simp [List.getD,h0]
 have:=hg _ _ hm hp
 split at h2
 · have h3:=congrArg Prod.fst (Option.some.inj h2)
   simp only at h3
   omega
 · cases h2
theorem Lg.Ok.dead_ {l:Lg} (h:l.Ok):(deadL l).Ok:=⟨h.gen1,h.genM,h.area,h.seq,h.used,h.book⟩
theorem add_deadL {d:Dk} {l:Lg} {c:Bk} {b:B8} (h:(addD d l c b).1≠0):(addD d l c b).2.2=deadL l:=by
 unfold addD at h ⊢
 simp only at h ⊢
 split
 · rfl
 · rename_i e;rw [if_neg e] at h;exact absurd rfl h
theorem compact_deadL {d:Dk} {l:Lg} (h:(compactD d l).1≠0):(compactD d l).2.2=deadL l∨(compactD d l).2.2=l:=by
 unfold compactD at h ⊢
 split
 · exact .inr rfl
 rename_i e0
 rw [if_neg e0] at h
 split
 · exact .inl rfl
 rename_i e1
 rw [if_neg e1] at h
 split
 · exact .inr rfl
 rename_i e2
 rw [if_neg e2] at h
 simp only at h ⊢
 split
 · exact .inl rfl
 rename_i e3
 rw [if_neg e3] at h
 split
 · exact .inl rfl
 rename_i e4
 rw [if_neg e4] at h
 exact absurd rfl h
theorem append_ok_bad {d:Dk} {l:Lg} {r:Rcd} (hk:l.Ok) (h:(appendD d l r).1≠0):(appendD d l r).2.2.Ok:=by
 unfold appendD at h ⊢
 split
 · exact hk
 rename_i e0
 rw [if_neg e0] at h
 split
 · exact hk
 rename_i e1
 rw [if_neg e1] at h
 split
 · rename_i e2
   rw [if_pos e2] at h
   split
   · rename_i e3
     rcases compact_deadL e3 with e | e <;> rw [e]
     · exact hk.dead_
     · exact hk
   · rename_i e3
     rw [if_neg e3] at h
     rw [add_deadL h]
     obtain ⟨gn,ar,sq,us,e,h1,h2,h3,h4,h5⟩:=comp_zero (d:=d) hk (Decidable.not_not.1 e3)
     rw [e]
     exact ⟨h1,h2,h3,h4,by show us≤24;omega,hk.book⟩
 · rename_i e2
   rw [if_neg e2] at h
   rw [add_deadL h]
   exact hk.dead_
inductive ApW (d:Dk) (l:Lg) (r:Rcd) (p:Int × Dk × Lg):Prop
 | ok (h:p.1=0) (a:(applyB l.book r).2=0) (b:p.2.2.book=(applyB l.book r).1) (o:p.2.1.off=false) (w:0≤d.writes→d.writes+20<9223372036854775808→d.writes<p.2.1.writes)
 | cut (h:p.1=40) (b:p.2.2.book=l.book) (o:p.2.1.off=true) (a:l.dead=true∨d.armed=true)
 | bad (h:p.1≠0) (h2:p.1≠40) (a:p.1=(applyB l.book r).2∨p.1=42) (e:p.2=(d,l)) (o:l.dead=false)
theorem LgS.append {d:Dk} {l:Lg} {G:Nat} (h:LgS d l G) (hG:G+1<1073741824) (r:Rcd) :
 LgS (appendD d l r).2.1 (appendD d l r).2.2 (G+1)∧Wr d (appendD d l r).2.1 20∧ApW d l r (appendD d l r)∧(appendD d l r).1≠42:=by
 obtain ⟨g1,g2⟩:=append_gens (r:=r) h.gens h.gen (by omega)
 have hw:=append_wr (d:=d) h.lok.book r
 have hlen:=append_len d l r
 rcases h.way with ⟨ho,hd,hi⟩ | ⟨ho,hd,l',h1,h2,h3,h4⟩
 · rcases append_law hi hd ho r with ⟨a1,a2,e,a3⟩ | ⟨e0,e1,e2,e3,e4,e5⟩ | ⟨e0,e1,e2,e3,l',e4,e5,e6⟩
   · have hng:(appendD d l r).1≠42:=by
      rcases a3 with a3 | ⟨_,_,a3⟩
      · rw [a3];rcases apply_errs l.book r with e | e | e | e <;> rw [e] <;> decide
      · have:compG d l≤G:=maxGen_most _ _ _ h.gen (fun b p hb hp=>h.gens b p (List.mem_of_mem_drop (List.mem_of_mem_take hb)) hp)
        omega
     refine ⟨?_,hw,.bad a1 a2 ?_ e hd,hng⟩
     · rw [e]
       exact ⟨h.lok,h.n49,h.gens.mono (Nat.le_succ _),Nat.le_succ_of_le h.gen,h.dok,.inl ⟨ho,hd,hi⟩⟩
     · rcases a3 with a3 | a3
       · exact .inl a3
       · exact .inr a3.2.1
   · refine ⟨⟨e2.lok,e2.n49,g1,g2,e2.ok,.inl ⟨e5,e4,e2⟩⟩,hw,.ok e1 e0 e3 e5 (fun h0 h1=>append_more h.lok.book e1 h0 h1),by rw [e1];decide⟩
   · refine ⟨⟨?_,by rw [hlen];exact h.n49,g1,g2,e4.ok,.inr ⟨e2,append_dead e1,l',e4,e5.trans e3.symm,e6,?_⟩⟩,hw,.cut e1 e3 e2 (.inr ?_),by rw [e1];decide⟩
     · exact append_ok_bad h.lok (by rw [e1];decide)
     · exact inv_gen e4 g1
     · cases ha:d.armed with
       | true=>rfl
       | false=>have:=hw.on ha ho;rw [e2] at this;cases this
 · have e:=append_dead40 (d:=d) r hd
   rw [e]
   exact ⟨⟨h.lok,h.n49,h.gens.mono (Nat.le_succ _),Nat.le_succ_of_le h.gen,h.dok,.inr ⟨ho,hd,l',h1,h2,h3,Nat.le_succ_of_le h4⟩⟩,(Wr.refl d).mono (by omega),.cut rfl rfl ho (.inl hd),(by show (40:Int)≠42;decide)⟩
end Go.Proofs.YtllljngpgjkdiaaGreatDoor
/-
  PLAIN, NO WALK: layer 16: what holds of every grantor; it stays, whatever is called.
-/
namespace Go.Proofs.YtllljngpgjkdiaaGreatDoor
open Go.RowKit

/-! ### a record that was taken, or not -/
theorem add_zero {d:Dk} {l:Lg} {c:Bk} {b:B8} (h:(addD d l c b).1=0):(addD d l c b).2.2={ l with seq:=l.seq+1,used:=l.used+widthN b.length,book:=c }:=by
 unfold addD at h ⊢
 simp only at h ⊢
 split at h
 · rename_i e;exact absurd h e
 · rename_i e
   rw [if_neg e]
theorem append_zero {d:Dk} {l:Lg} {r:Rcd} (hk:l.Ok) (h:(appendD d l r).1=0):(applyB l.book r).2=0∧(appendD d l r).2.2.book=(applyB l.book r).1∧(appendD d l r).2.2.Ok:=by
 unfold appendD at h ⊢
 split at h
 · cases h
 rename_i e1
 rw [if_neg e1]
 split at h
 · rename_i e2;exact absurd h e2
 rename_i e2
 rw [if_neg e2]
 have ha:(applyB l.book r).2=0:=Decidable.not_not.1 e2
 have hv:=apply_valid ha
 have hwd:=width_enc (apply_zero.1 ha).2.1
 have hwp:=width_pos (encB r).length
 refine ⟨ha,?_⟩
 split at h
 · rename_i e3
   rw [if_pos e3]
   split at h
   · rename_i e4;exact absurd h e4
   rename_i e4
   rw [if_neg e4]
   obtain ⟨gn,ar,sq,us,e,h1,h2,h3,h4,h5⟩:=comp_zero (d:=d) hk (Decidable.not_not.1 e4)
   rw [add_zero h,e]
   exact ⟨rfl,h1,h2,h3,by show sq+1≤us+_;omega,by show us+_≤24;omega,hv⟩
 · rename_i e3
   rw [if_neg e3,add_zero h]
   exact ⟨rfl,hk.gen1,hk.genM,hk.area,by have:=hk.seq;show l.seq+1≤l.used+_;omega,by show l.used+_≤24;omega,hv⟩
theorem append_book {d:Dk} {l:Lg} {r:Rcd} (hk:l.Ok) (h:(appendD d l r).1≠0):(appendD d l r).2.2.book=l.book∧(appendD d l r).2.2.Ok:=by
 refine ⟨?_,append_ok_bad hk h⟩
 unfold appendD at h ⊢
 split
 · rfl
 rename_i e0
 rw [if_neg e0] at h
 split
 · rfl
 rename_i e1
 rw [if_neg e1] at h
 split
 · rename_i e2
   rw [if_pos e2] at h
   split
   · rename_i e3
     rcases compact_deadL e3 with e | e <;> rw [e] <;> rfl
   · rename_i e3
     rw [if_neg e3] at h
     rw [add_deadL h]
     obtain ⟨gn,ar,sq,us,e,_⟩:=comp_zero (d:=d) hk (Decidable.not_not.1 e3)
     rw [e]
     rfl
 · rename_i e2
   rw [if_neg e2] at h
   rw [add_deadL h]
   rfl
/-! ### the invariant -/
structure GI (g:Gtr):Prop where
 lok:g.l.Ok
 es:g.es.Perm (g.l.book.grants.map entOf)
 srt:SrtE g.es
 keys:(g.nt.map Prod.fst).Perm (g.l.book.grants.map Grt.id)
theorem GI.val {g:Gtr} (h:GI g):validB g.l.book=true:=h.lok.book
theorem GI.six {g:Gtr} (h:GI g):g.l.book.grants.length≤6:=(valid_iff.1 h.val).2.2.1
theorem GI.srtG {g:Gtr} (h:GI g):SrtG g.l.book.grants:=okFrom_sorted (valid_iff.1 h.val).2.2.2
theorem GI.gr {g:Gtr} (h:GI g) {x:Grt} (hx:x∈g.l.book.grants):grantB x=true∧lastI x.stamp<g.l.book.next∧0<x.id:=okFrom_mem (valid_iff.1 h.val).2.2.2 x hx
theorem GI.led {g:Gtr} (h:GI g) {l:Lg} (hl:l.Ok) (hb:l.book.grants=g.l.book.grants):GI { g with l:=l }:=⟨hl,by rw [hb];exact h.es,h.srt,by rw [hb];exact h.keys⟩
theorem GI.ids {g:Gtr} (h:GI g):(g.l.book.grants.map Grt.id).Pairwise (· < ·):=by
 rw [List.pairwise_map];exact h.srtG
theorem GI.under {g:Gtr} (h:GI g):underS5 g.es []=g.l.book.grants.map Grt.id:=by
 unfold underS5
 have h1:(g.es.filter fun e=>coversB [] e.bs)=g.es:=by
  refine List.filter_eq_self.2 fun e he=>?_
  obtain ⟨x,hx,rfl⟩:=List.mem_map.1 (h.es.mem_iff.1 he)
  have hp:=(grant_iff.1 (h.gr hx).1).2.2.1
  unfold coversB
  simp only [Ent.bs,entOf]
  rw [hp]
  simp [pathOk]
 rw [h1]
 refine sortI_eq (h.ids.imp fun h=>by omega) ?_
 have:=h.es.map Ent.id
 rw [List.map_map] at this
 exact this.symm
theorem GI.ent {g:Gtr} (h:GI g) {e:Ent} (he:e∈g.es):∃ x,x∈g.l.book.grants∧entOf x=e:=by
 obtain ⟨x,hx,rfl⟩:=List.mem_map.1 (h.es.mem_iff.1 he)
 exact ⟨x,hx,rfl⟩
theorem count_wf {n:Int} (h:countOk n):(Lit.int .i64 n).wf=true:=by
 have e1:IntKind.i64.min = -9223372036854775808:=rfl
 have e2:IntKind.i64.max=9223372036854775807:=rfl
 obtain ⟨h1,h2⟩:=h
 simp [Lit.wf,e1,e2]
 omega
theorem GI.wf {g:Gtr} (h:GI g) {x:Grt} (hx:x∈g.l.book.grants):(Lit.int .i64 x.id).wf=true:=count_wf (grant_iff.1 (h.gr hx).1).1
theorem GI.len {g:Gtr} (h:GI g):g.es.length≤6∧g.nt.length≤6:=by
 have h1:=h.es.length_eq
 have h2:=h.keys.length_eq
 have:=h.six
 simp only [List.length_map] at h1 h2
 omega
theorem GI.clash {g:Gtr} (h:GI g) {p:List UInt8} {m who i:Int} (hi:i∈clashS5 g.es p m who):∃ x,x∈g.l.book.grants∧x.id=i∧standsB p m who (entOf x)=true:=by
 unfold clashS5 at hi
 rw [(sortI_perm _).mem_iff] at hi
 obtain ⟨e,he,rfl⟩:=List.mem_map.1 hi
 obtain ⟨he,hs⟩:=List.mem_filter.1 he
 obtain ⟨x,hx,rfl⟩:=h.ent he
 exact ⟨x,hx,rfl,hs⟩
theorem nodup_keys {g:Gtr} (h:GI g):(g.nt.map Prod.fst).Nodup:=h.keys.nodup_iff.2 (h.ids.imp fun h=>by omega)
theorem ntDel_len (n:List (Int × Nt)) (id:Int):(ntDel n id).length≤n.length:=List.length_filter_le _ _
theorem ntDel_keys (n:List (Int × Nt)) (id:Int):(ntDel n id).map Prod.fst=(n.map Prod.fst).filter fun k=>decide (k≠id):=by
 unfold ntDel
 rw [List.filter_map]
 rfl
theorem GI.note {g:Gtr} (h:GI g) {x:Grt} (hx:x∈g.l.book.grants) (v:Nt):GI { g with nt:=ntSet g.nt x.id v }:=by
 refine ⟨h.lok,h.es,h.srt,?_⟩
 show (x.id::(ntDel g.nt x.id).map Prod.fst).Perm _
 rw [ntDel_keys]
 have hm:x.id∈g.nt.map Prod.fst:=h.keys.mem_iff.2 (List.mem_map.2 ⟨x,hx,rfl⟩)
 refine List.Perm.trans ?_ h.keys
 have hn:=nodup_keys h
 generalize g.nt.map Prod.fst=l at hm hn
 induction l with
 | nil=>cases hm
 | cons y r ih =>
   have hn':=List.nodup_cons.1 hn
   rw [List.filter_cons]
   by_cases e:y=x.id
   · subst e
     rw [if_neg (by simp),List.filter_eq_self.2 (fun k hk=>by simpa using fun e=>hn'.1 (by rw [← e];exact hk))]
   · rw [if_pos (by simpa using e)]
     have:=ih (by rcases List.mem_cons.1 hm with h | h;exact absurd h.symm e;exact h) hn'.2
     exact (List.Perm.swap y x.id _).trans (List.Perm.cons y this)
theorem no_id {l:List Ent} {g:List Grt} (h:l.Perm (g.map entOf)) {i:Int} (hi:∀ x,x∈g→x.id≠i):hasId l i=false:=by
 unfold hasId
 rw [List.any_eq_false]
 intro e he
 obtain ⟨x,hx,rfl⟩:=List.mem_map.1 (h.mem_iff.1 he)
 rw [show decide ((entOf x).id=i)=false from decide_eq_false (hi x hx)]
 decide
theorem keep_put {es:List Ent} {x:Grt} (hx:grantB x=true) (hl:es.length<64) (hn:hasId es x.id=false):putS5 es (entOf x)=(insE (entOf x) es,0):=by
 obtain ⟨_,_,h3,h4,_⟩:=grant_iff.1 hx
 have hm:modE x.mode=true:=by unfold modE;rcases h4 with e | e <;> rw [e] <;> decide
 unfold putS5
 rw [if_neg (show ¬ pathOk (entOf x).bs=false by show ¬ pathOk x.path.data.toList=false;rw [h3];decide),if_neg (show ¬ modE (entOf x).mode=false by show ¬ modE x.mode=false;rw [hm];decide),if_neg (show ¬ hasId es (entOf x).id=true by show ¬ hasId es x.id=true;rw [hn];decide),if_neg (by omega)]
theorem keep_step {es:List Ent} {nt:List (Int × Nt)} {l:List Grt} {x:Grt} {e:Int} {led:Lg} {ends:Int} (h1:es.Perm (l.map entOf)) (h2:SrtE es) (h3:(nt.map Prod.fst).Perm (l.map Grt.id)) (hx:grantB x=true) (hl:l.length<64) (hn:∀ y,y∈l→y.id≠x.id) :
 (keepG ⟨led,es,nt,ends⟩ x e).es.Perm ((l++[x]).map entOf)∧SrtE (keepG ⟨led,es,nt,ends⟩ x e).es∧((keepG ⟨led,es,nt,ends⟩ x e).nt.map Prod.fst).Perm ((l++[x]).map Grt.id):=by
 have hlen:=h1.length_eq
 rw [List.length_map] at hlen
 have hno:=no_id h1 hn
 have hp:=keep_put hx (by omega) hno
 unfold keepG
 simp only
 rw [hp]
 refine ⟨?_,insE_srt h2 (fun y hy e2=>?_),?_⟩
 · rw [List.map_append]
   exact (insE_perm _ _).trans ((List.Perm.cons _ h1).trans (List.perm_append_comm (l₁:=[entOf x])))
 · unfold hasId at hno
   rw [List.any_eq_false] at hno
   exact hno y hy (by simpa [entOf] using e2)
 · unfold ntSet
   rw [List.map_cons,ntDel_keys,List.filter_eq_self.2 (fun k hk=>?_),List.map_append]
   · exact (List.Perm.cons _ h3).trans (List.perm_append_comm (l₁:=[x.id]))
   · obtain ⟨y,hy,rfl⟩:=List.mem_map.1 (h3.mem_iff.1 hk)
     simpa using hn y hy
theorem open_fold (e:Int) (led:Lg) (ends:Int):∀ (r l:List Grt) (es:List Ent) (nt:List (Int × Nt)),es.Perm (l.map entOf)→SrtE es→(nt.map Prod.fst).Perm (l.map Grt.id)→(∀ x,x∈r→grantB x=true)→(l++r).length<64→(l++r).Pairwise (fun a b=>a.id≠b.id) →
 ∃ es' nt',r.foldl (fun g x=>keepG g x e) ⟨led,es,nt,ends⟩=⟨led,es',nt',ends⟩∧es'.Perm ((l++r).map entOf)∧SrtE es'∧(nt'.map Prod.fst).Perm ((l++r).map Grt.id)
 | [],l,es,nt,h1,h2,h3,_,_,_=>⟨es,nt,rfl,by simpa using h1,h2,by simpa using h3⟩
 | x::r,l,es,nt,h1,h2,h3,hx,hl,hn=>by
   rw [List.append_cons] at hl hn
   have hn':=List.pairwise_append.1 hn
   have hq:=List.pairwise_append.1 hn'.1
   obtain ⟨k1,k2,k3⟩:=keep_step (e:=e) (led:=led) (ends:=ends) h1 h2 h3 (hx x List.mem_cons_self) (by simp only [List.length_append,List.length_cons,List.length_nil] at hl;omega) (fun y hy=>hq.2.2 y hy x (by simp))
   rw [List.append_cons,List.foldl_cons]
   exact open_fold e led ends r (l++[x]) _ _ k1 k2 k3 (fun y hy=>hx y (List.mem_cons_of_mem _ hy)) hl hn
theorem open_GI {l:Lg} (h:l.Ok) (now:Int):GI (openG l now)∧(openG l now).l=l∧(openG l now).ends=now+l.book.longest:=by
 have hv:=valid_iff.1 h.book
 obtain ⟨es,nt,e,h1,h2,h3⟩:=open_fold (now+l.book.longest) l (now+l.book.longest) l.book.grants [] [] [] (.refl _) List.Pairwise.nil (.refl _) (fun x hx=>(okFrom_mem hv.2.2.2 x hx).1) (by simp only [List.nil_append];omega) ((okFrom_sorted hv.2.2.2).imp fun h=>by omega)
 unfold openG
 rw [e]
 exact ⟨⟨h,h1,h2,h3⟩,rfl,rfl⟩
/-! ### calls -/
theorem GI.long {g:Gtr} (h:GI g) (d:Dk) (t:Int):GI (longG d g t).2.2∧(longG d g t).2.2.es=g.es∧(longG d g t).2.2.nt=g.nt∧(longG d g t).2.2.ends=g.ends∧(longG d g t).2.2.l.book.grants=g.l.book.grants∧(longG d g t).2.2.l.book.next=g.l.book.next ∧
 ((longG d g t).1=0→t≤(longG d g t).2.2.l.book.longest)∧g.l.book.longest≤(longG d g t).2.2.l.book.longest:=by
 by_cases e:t≤g.l.book.longest
 · have hif:longG d g t=(0,d,g):=if_pos e
   rw [hif]
   exact ⟨h,rfl,rfl,rfl,rfl,rfl,fun _=>e,Int.le_refl _⟩
 have hif:longG d g t=((appendD d g.l (recL t)).1,(appendD d g.l (recL t)).2.1,{ g with l:=(appendD d g.l (recL t)).2.2 }):=if_neg e
 rw [hif]
 simp only
 by_cases h0:(appendD d g.l (recL t)).1=0
 · obtain ⟨a,b,c⟩:=append_zero h.lok h0
   have hc:(applyB g.l.book (recL t)).1={ g.l.book with longest:=t }:=by
    obtain ⟨h1,h2,h3,cc,h4⟩:=apply_zero.1 a
    rw [apply_eq h1 h2 h3 h4]
    unfold changeB recL at h4
    simp only [Rcd.zero] at h4
    rw [if_neg (by decide),if_pos (by decide)] at h4
    split at h4
    · exact (Option.some.inj h4).symm
    · cases h4
   rw [hc] at b
   exact ⟨h.led c (by rw [b]),trivial,trivial,trivial,by rw [b],by rw [b],fun _=>by rw [b];exact Int.le_refl _,by rw [b];show g.l.book.longest≤t;omega⟩
 · obtain ⟨b,c⟩:=append_book h.lok h0
   exact ⟨h.led c (by rw [b]),trivial,trivial,trivial,by rw [b],by rw [b],fun e=>absurd e h0,by rw [b];exact Int.le_refl _⟩
theorem end_apply {b:Bk} {id:Int} (a:(applyB b (recE id)).2=0):hasG b.grants id=true∧(applyB b (recE id)).1={ b with grants:=delG b.grants id }:=by
 obtain ⟨h1,h2,h3,cc,h4⟩:=apply_zero.1 a
 rw [apply_eq h1 h2 h3 h4]
 unfold changeB recE at h4
 simp only [Rcd.zero] at h4
 rw [if_neg (by decide),if_neg (by decide),if_neg (by decide),if_neg (by decide),if_neg (by decide),if_pos (by decide)] at h4
 split at h4
 · rename_i e;exact ⟨e,(Option.some.inj h4).symm⟩
 · cases h4
theorem GI.over {g:Gtr} (h:GI g) (d:Dk) (id:Int):GI (overG d g id).2.2∧(overG d g id).2.2.ends=g.ends∧(overG d g id).2.2.l.book.next=g.l.book.next∧(overG d g id).2.2.l.book.longest=g.l.book.longest ∧
 ((overG d g id).1=0→(overG d g id).2.2.l.book.grants=g.l.book.grants.filter (fun x=>decide (x.id≠id))∧(overG d g id).2.2.es=dropS5 g.es id∧(overG d g id).2.2.nt=ntDel g.nt id) ∧
 ((overG d g id).1≠0→(overG d g id).2.2.l.book=g.l.book∧(overG d g id).2.2.es=g.es∧(overG d g id).2.2.nt=g.nt):=by
 unfold overG
 simp only
 by_cases h0:(appendD d g.l (recE id)).1=0
 · rw [if_pos h0]
   obtain ⟨a,b,c⟩:=append_zero h.lok h0
   obtain ⟨hg,he⟩:=end_apply a
   rw [he,delG_filter h.srtG hg] at b
   have hb:(appendD d g.l (recE id)).2.2.book.grants=g.l.book.grants.filter (fun x=>decide (x.id≠id)):=by rw [b]
   refine ⟨⟨c,?_,List.Pairwise.filter _ h.srt,?_⟩,rfl,by rw [b],by rw [b],fun _=>⟨hb,rfl,rfl⟩,fun e=>absurd rfl e⟩
   · show (dropS5 g.es id).Perm _
     rw [hb]
     unfold dropS5
     have:=h.es.filter (fun e=>decide (e.id≠id))
     rw [List.filter_map] at this
     exact this
   · show ((ntDel g.nt id).map Prod.fst).Perm _
     rw [hb,ntDel_keys]
     have:=h.keys.filter (fun k=>decide (k≠id))
     rw [List.filter_map (l:=g.l.book.grants)] at this
     exact this
 · rw [if_neg h0]
   obtain ⟨b,c⟩:=append_book h.lok h0
   exact ⟨h.led c (by rw [b]),rfl,by show (appendD d g.l (recE id)).2.2.book.next=_;rw [b],by show (appendD d g.l (recE id)).2.2.book.longest=_;rw [b],fun e=>absurd e h0,fun _=>⟨b,rfl,rfl⟩⟩
theorem over_len (d:Dk) (g:Gtr) (id:Int):(overG d g id).2.1.secs.length=d.secs.length:=by
 unfold overG
 simp only
 split <;> exact append_len _ _ _
theorem long_len (d:Dk) (g:Gtr) (t:Int):(longG d g t).2.1.secs.length=d.secs.length:=by
 unfold longG
 split
 · rfl
 · exact append_len _ _ _
theorem sweep_GI (now:Int):∀ (ids:List Int) (d:Dk) (g:Gtr),GI g→GI (sweepG now ids d g).2.2∧(sweepG now ids d g).2.1.secs.length=d.secs.length∧(sweepG now ids d g).2.2.ends=g.ends∧(sweepG now ids d g).2.2.l.book.next=g.l.book.next∧(sweepG now ids d g).2.2.l.book.longest=g.l.book.longest
 | [],d,g,h=>⟨h,rfl,rfl,rfl,rfl⟩
 | id::r,d,g,h=>by
   unfold sweepG
   split
   · exact sweep_GI now r d g h
   obtain ⟨h1,h2,h3,h4,_⟩:=h.over d id
   have hl:=over_len d g id
   split
   · obtain ⟨k1,k2,k3,k4,k5⟩:=sweep_GI now r _ _ h1
     exact ⟨k1,k2.trans hl,k3.trans h2,k4.trans h3,k5.trans h4⟩
   · exact ⟨h1,hl,h2,h3,h4⟩
theorem write_GI {g:Gtr} (h:GI g) (d:Dk) (r:Req):GI (writeG d g r).2.2∧(writeG d g r).2.1.secs.length=d.secs.length∧(writeG d g r).2.2.ends=g.ends∧(writeG d g r).2.2.l.book.next=g.l.book.next∧((writeG d g r).1=0→r.t≤(writeG d g r).2.2.l.book.longest)∧g.l.book.longest≤(writeG d g r).2.2.l.book.longest:=by
 obtain ⟨h1,_,_,h4,_,h6,h7,h8⟩:=h.long d r.t
 have hl:=long_len d g r.t
 unfold writeG
 simp only
 split
 · rename_i e
   obtain ⟨k1,k2,k3,k4,k5⟩:=sweep_GI r.now (underS5 (longG d g r.t).2.2.es []) _ _ h1
   exact ⟨k1,k2.trans hl,k3.trans h4,k4.trans h6,fun _=>by rw [k5];exact h7 e,by rw [k5];exact h8⟩
 · rename_i e
   exact ⟨h1,hl,h4,h6,fun e2=>absurd e2 e,h8⟩
end Go.Proofs.YtllljngpgjkdiaaGreatDoor
/-
  PLAIN, NO WALK: layer 16: what each call on a grantor does, when its ledger lives or the power is off.
-/
namespace Go.Proofs.YtllljngpgjkdiaaGreatDoor
open Go.RowKit

structure Sub (g g':Gtr):Prop where
 gr:g'.l.book.grants.Sublist g.l.book.grants
 nt:∀ x,x∈g'.l.book.grants→ntAt g'.nt x.id=ntAt g.nt x.id
 ends:g'.ends=g.ends
 next:g'.l.book.next=g.l.book.next
 long:g.l.book.longest≤g'.l.book.longest
theorem Sub.refl (g:Gtr):Sub g g:=⟨List.Sublist.refl _,fun _ _=>rfl,rfl,rfl,Int.le_refl _⟩
theorem Sub.trans {a b c:Gtr} (h:Sub a b) (k:Sub b c):Sub a c :=
 ⟨k.gr.trans h.gr,fun x hx=>(k.nt x hx).trans (h.nt x (k.gr.subset hx)),k.ends.trans h.ends,k.next.trans h.next,Int.le_trans h.long k.long⟩
/-! ### Longest -/
/-! ### ends -/
theorem LgS.dead_off {d:Dk} {l:Lg} {G:Nat} (h:LgS d l G) (hd:l.dead=true):d.off=true:=by
 rcases h.way with ⟨_,a,_⟩ | ⟨a,_⟩
 · rw [hd] at a;cases a
 · exact a
theorem LgS.mono {d:Dk} {l:Lg} {G H:Nat} (h:LgS d l G) (k:G≤H):LgS d l H:=⟨h.lok,h.n49,h.gens.mono k,Nat.le_trans h.gen k,h.dok,by
 rcases h.way with w | ⟨a,b,l',c1,c2,c3,c4⟩
 · exact .inl w
 · exact .inr ⟨a,b,l',c1,c2,c3,Nat.le_trans c4 k⟩⟩
end Go.Proofs.YtllljngpgjkdiaaGreatDoor
/-
  WALKS: layer 12: contracts for the laws: a ledger and its disk in new memory; awake.
-/
namespace Go.Proofs.YtllljngpgjkdiaaGreatDoor
open Go.RowKit Go.Shelf

structure LS (w0 w:World) (pl pd bs:Nat) (d:Dk) (l:Lg):Prop where
 mem:∃ gv lv,LgM w pl pd bs gv lv d l
 lo:w0.heap.size≤pl∧w0.heap.size≤pd∧w0.heap.size≤bs
 md:Mod [] w0 w
section
variable {w0 w:World} {pl pd bs:Nat} {d:Dk} {l:Lg}
theorem LS.step (s:LS w0 w pl pd bs d l) {w':World} {d':Dk} {l':Lg} (m:Mod [pl,pd,bs] w w') (h:∃ gv lv,LgM w' pl pd bs gv lv d' l'):LS w0 w' pl pd bs d' l' :=
 ⟨h,s.lo,mod_fresh s.md m (by have:=s.lo;simp;omega)⟩
theorem LS.quiet (s:LS w0 w pl pd bs d l) {w':World} (m:Mod [] w w'):LS w0 w' pl pd bs d l:=by
 obtain ⟨gv,lv,h⟩:=s.mem
 exact ⟨⟨gv,lv,h.quiet m⟩,s.lo,s.md.then m⟩
theorem LS.dk (s:LS w0 w pl pd bs d l):DkM w pd bs d:=by
 obtain ⟨gv,lv,h⟩:=s.mem
 exact h.dk
end
/-! ### awake -/
/-! ### the law's names -/
end Go.Proofs.YtllljngpgjkdiaaGreatDoor
/-
  PLAIN, NO WALK: layer 16: a grant's stamp anew; a grant more: what holds of every grantor stays.
-/
namespace Go.Proofs.YtllljngpgjkdiaaGreatDoor
open Go.RowKit

def setSt (id:Int) (s:List Int) (x:Grt):Grt:=if x.id=id then { x with stamp:=s } else x
theorem set_map {l:List Grt} (hs:SrtG l) {id:Int} (h:hasG l id=true) (s:List Int):setG l id s=l.map (setSt id s):=by
 induction l with
 | nil=>simp [hasG] at h
 | cons x r ih =>
   have h':=List.pairwise_cons.1 hs
   unfold setG
   rw [posG_cons]
   by_cases e:x.id<id
   · rw [if_pos e]
     have hr:hasG r id=true:=by
      obtain ⟨y,hy,he⟩:=hasG_iff.1 h
      rcases List.mem_cons.1 hy with rfl | hy
      · omega
      · exact hasG_iff.2 ⟨y,hy,he⟩
     have hx:setSt id s x=x:=if_neg (by omega)
     have:=ih h'.2 hr
     unfold setG at this
     rw [List.map_cons,hx,← this]
     simp
   · rw [if_neg e]
     have hx:x.id=id:=by
      obtain ⟨y,hy,he⟩:=hasG_iff.1 h
      rcases List.mem_cons.1 hy with rfl | hy
      · exact he
      · have:=h'.1 y hy
        omega
     have hr:r.map (setSt id s)=r:=by
      conv=>rhs;rw [← List.map_id r]
      refine List.map_congr_left fun y hy=>?_
      have:=h'.1 y hy
      exact if_neg (by omega)
     rw [List.map_cons,hr]
     simp [setSt,hx]
theorem fresh_apply {b:Bk} {id:Int} {s:List Int} (a:(applyB b (recF id s)).2=0):hasG b.grants id=true∧lastI s=b.next∧(applyB b (recF id s)).1={ b with next:=b.next+1,grants:=setG b.grants id s }:=by
 obtain ⟨h1,h2,h3,cc,h4⟩:=apply_zero.1 a
 rw [apply_eq h1 h2 h3 h4]
 unfold changeB recF at h4
 simp only [Rcd.zero] at h4
 rw [if_neg (by decide),if_neg (by decide),if_neg (by decide),if_neg (by decide),if_pos (by decide)] at h4
 split at h4
 · rename_i e;exact ⟨e.1,e.2,(Option.some.inj h4).symm⟩
 · cases h4
theorem grant_apply {b:Bk} {x:Grt} (a:(applyB b (recG x)).2=0):x.id=b.next∧(applyB b (recG x)).1={ b with next:=b.next+1,grants:=putG b.grants x }:=by
 obtain ⟨h1,h2,h3,cc,h4⟩:=apply_zero.1 a
 rw [apply_eq h1 h2 h3 h4]
 unfold changeB recG at h4
 simp only [Rcd.zero] at h4
 rw [if_neg (by decide),if_neg (by decide),if_pos (by decide)] at h4
 split at h4
 · rename_i e;exact ⟨e,(Option.some.inj h4).symm⟩
 · cases h4
theorem GI.idlt {g:Gtr} (h:GI g) {x:Grt} (hx:x∈g.l.book.grants):x.id<g.l.book.next:=by
 obtain ⟨h1,h2,_⟩:=h.gr hx
 have:=(grant_iff.1 h1).2.2.2.2.2.1
 omega
theorem GI.fresh {g:Gtr} (h:GI g) (d:Dk) (id:Int) (s:List Int) :
 GI { g with l:=(appendD d g.l (recF id s)).2.2 }∧(appendD d g.l (recF id s)).2.1.secs.length=d.secs.length∧((appendD d g.l (recF id s)).1=0→lastI s=g.l.book.next∧(appendD d g.l (recF id s)).2.2.book={ g.l.book with next:=g.l.book.next+1,grants:=g.l.book.grants.map (setSt id s) }) ∧
  ((appendD d g.l (recF id s)).1≠0→(appendD d g.l (recF id s)).2.2.book=g.l.book):=by
 have hlen:=append_len d g.l (recF id s)
 by_cases h0:(appendD d g.l (recF id s)).1=0
 · obtain ⟨a,b,c⟩:=append_zero h.lok h0
   obtain ⟨hg,hl,he⟩:=fresh_apply a
   rw [he,set_map h.srtG hg] at b
   refine ⟨⟨c,?_,h.srt,?_⟩,hlen,fun _=>⟨hl,b⟩,fun e=>absurd h0 e⟩
   · show g.es.Perm _
     rw [b]
     simp only [List.map_map]
     refine h.es.trans (.of_eq (List.map_congr_left fun x _=>?_))
     show entOf x=entOf (setSt id s x)
     unfold setSt
     split <;> rfl
   · show (g.nt.map Prod.fst).Perm _
     rw [b]
     simp only [List.map_map]
     refine h.keys.trans (.of_eq (List.map_congr_left fun x _=>?_))
     show x.id=(setSt id s x).id
     unfold setSt
     split <;> rfl
 · obtain ⟨b,c⟩:=append_book h.lok h0
   exact ⟨h.led c (by rw [b]),hlen,fun e=>absurd e h0,fun _=>b⟩
theorem GI.grant {g:Gtr} (h:GI g) (d:Dk) {x:Grt} (e:Int) :
 (appendD d g.l (recG x)).2.1.secs.length=d.secs.length∧((appendD d g.l (recG x)).1=0→GI (keepG { g with l:=(appendD d g.l (recG x)).2.2 } x e)∧x.id=g.l.book.next∧grantB x=true∧(appendD d g.l (recG x)).2.2.book={ g.l.book with next:=g.l.book.next+1,grants:=g.l.book.grants++[x] }) ∧
   ((appendD d g.l (recG x)).1≠0→GI { g with l:=(appendD d g.l (recG x)).2.2 }∧(appendD d g.l (recG x)).2.2.book=g.l.book):=by
 refine ⟨append_len d g.l (recG x),fun h0=>?_,fun h0=>?_⟩
 · obtain ⟨a,b,c⟩:=append_zero h.lok h0
   obtain ⟨hid,he⟩:=grant_apply a
   have hgb:grantB x=true:=by
    have:=(apply_zero.1 a).2.1
    unfold mayB recG at this
    simp only [Rcd.zero] at this
    rw [if_neg (by decide),if_neg (by decide),if_pos (by decide)] at this
    simp only [Bool.and_eq_true] at this
    exact this.2.1
   rw [he,putG_end (fun y hy=>by rw [hid];exact h.idlt hy)] at b
   have hsix:=h.six
   obtain ⟨k1,k2,k3⟩:=keep_step (e:=e) (led:=(appendD d g.l (recG x)).2.2) (ends:=g.ends) h.es h.srt h.keys hgb (by omega) (fun y hy=>by have:=h.idlt hy;omega)
   exact ⟨⟨c,by show (keepG ⟨(appendD d g.l (recG x)).2.2,g.es,g.nt,g.ends⟩ x e).es.Perm ((appendD d g.l (recG x)).2.2.book.grants.map entOf);rw [b];exact k1,k2,by show ((keepG ⟨(appendD d g.l (recG x)).2.2,g.es,g.nt,g.ends⟩ x e).nt.map Prod.fst).Perm ((appendD d g.l (recG x)).2.2.book.grants.map Grt.id);rw [b];exact k3⟩,hid,hgb,b⟩
 · obtain ⟨b,c⟩:=append_book h.lok h0
   exact ⟨h.led c (by rw [b]),b⟩
theorem GI.raise {g:Gtr} (h:GI g) {id:Int} (hx:∃ x,x∈g.l.book.grants∧x.id=id) (e:Int):GI (raiseG g id e):=by
 obtain ⟨x,hx,rfl⟩:=hx
 exact h.note hx _
theorem mem_setSt {l:List Grt} {id:Int} {s:List Int} {k:Int} (h:∃ x,x∈l∧x.id=k):∃ x,x∈l.map (setSt id s)∧x.id=k:=by
 obtain ⟨x,hx,rfl⟩:=h
 refine ⟨setSt id s x,List.mem_map.2 ⟨x,hx,rfl⟩,?_⟩
 unfold setSt
 split <;> rfl
end Go.Proofs.YtllljngpgjkdiaaGreatDoor
