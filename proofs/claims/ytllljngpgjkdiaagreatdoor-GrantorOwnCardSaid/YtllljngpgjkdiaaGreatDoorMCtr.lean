/-
  BookW3 BookW4 BookW5 BookW6 Enc Enc2 GrA Ctr: see the remarks below.
-/
import Derived.Test.YtllljngpgjkdiaaGreatDoorMWc
import Derived.Test.YtllljngpgjkdiaaGreatDoorMGrM
import Derived.Deep.RegionHeld3
import Derived.Deep.DeepCutAuto
import Derived.Test.YtllljngpgjkdiaaGreatDoorMResC
import Derived.Test.YtllljngpgjkdiaaGreatDoorMAppend
import Derived.Test.YtllljngpgjkdiaaGreatDoorMCmpI
import Derived.Test.YtllljngpgjkdiaaGreatDoorMBookD
import Derived.Test.YtllljngpgjkdiaaGreatDoorMOctR
/-
  WALKS: layer 11: may it be a book?
-/
namespace Go.Proofs.YtllljngpgjkdiaaGreatDoor
set_option maxRecDepth 100000
set_option maxHeartbeats 4000000
open Go.RowKit

def aggB (b:Bk) (gv:Value):Value:=.agg #[.int .i64 b.next,.int .i64 b.boots,.int .i64 b.longest,gv]
structure BkM (w:World) (base:Nat) (gv:Value) (b:Bk) (lv:List (Grt × Value)):Prop where
 gr:GrM w base gv lv
 eq:b.grants=lv.map Prod.fst
theorem BkM.gr' {w w':World} {base:Nat} {gv:Value} {b:Bk} {lv:List (Grt × Value)} (h:BkM w base gv b lv) (g:Gr w w'):BkM w' base gv b lv:=⟨h.gr.gr g,h.eq⟩
theorem okFrom_take {next:Int} {id:Int} {l:List Grt} {k:Nat} (hk:okFrom next id (l.take k)=true) (hlt:k<l.length)
 (hn:grantB (l.getD k default)=true∧lastI (l.getD k default).stamp<next∧(∀ x,x∈l.take k→x.id<(l.getD k default).id)∧id<(l.getD k default).id):okFrom next id (l.take (k+1))=true:=by
 have e:l.take (k+1)=l.take k++[l.getD k default]:=by rw [List.take_add_one];simp [hlt]
 rw [e]
 obtain ⟨h1,h2⟩:=okFrom_iff.1 hk
 refine okFrom_iff.2 ⟨fun g hg=>?_,List.pairwise_append.2 ⟨h2,List.pairwise_singleton _ _,fun a ha b hb=>?_⟩⟩
 · rcases List.mem_append.1 hg with hg | hg
   · exact h1 g hg
   · obtain rfl:=List.mem_singleton.1 hg
     exact ⟨hn.1,hn.2.1,hn.2.2.2⟩
 · obtain rfl:=List.mem_singleton.1 hb
   exact hn.2.2.1 a ha
theorem okFrom_bad {next idp:Int} {l:List Grt} {k:Nat} (hlt:k<l.length) (ha:idp=0∨∃ x,x∈l.take k∧x.id=idp)
 (hn:grantB (l.getD k default)=false∨next≤lastI (l.getD k default).stamp∨(l.getD k default).id≤idp):okFrom next 0 l=false:=by
 cases h:okFrom next 0 l with
 | false=>rfl
 | true =>
   exfalso
   obtain ⟨h1,h2⟩:=okFrom_iff.1 h
   have hm:l.getD k default∈l:=by simp [hlt]
   obtain ⟨g1,g2,g3⟩:=h1 _ hm
   rcases hn with hn | hn | hn
   · rw [hn] at g1;cases g1
   · omega
   · rcases ha with ha | ⟨x,hx,rfl⟩
     · omega
     · have e:l=l.take k++l.drop k:=(List.take_append_drop k l).symm
       rw [e] at h2
       have hd:l.getD k default∈l.drop k:=by
        rw [List.drop_eq_getElem_cons hlt]
        exact List.mem_cons.2 (.inl (by simp [List.getD,hlt]))
       have:=(List.pairwise_append.1 h2).2.2 x hx _ hd
       omega
theorem vs_of {X:World} {x p:Nat} {id ho mo te nx bo lo:Int} {pa:ByteArray} {sv gv:Value} (hx:X.heap[x]?=some (.cells #[.int .i64 id,.int .i64 ho,.string pa,.int .i64 mo,sv,.int .i64 te] 35 (0,0))) (hp:X.heap[p]?=some (.cells #[.int .i64 nx,.int .i64 bo,.int .i64 lo,gv] 75 (0,0))) {w':World} (m:Mod [] X w') :
 Mod [] X w'∧w'.cell? ⟨x,0,none⟩=some (.int .i64 id)∧w'.cell? ⟨x,1,none⟩=some (.int .i64 ho)∧w'.cell? ⟨x,2,none⟩=some (.string pa)∧w'.cell? ⟨x,3,none⟩=some (.int .i64 mo)∧w'.cell? ⟨x,4,none⟩=some sv∧w'.cell? ⟨x,5,none⟩=some (.int .i64 te)∧w'.cell? ⟨p,0,none⟩=some (.int .i64 nx) :=
 ⟨m,blk_cell (m.at_ hx (by simp)) 0,blk_cell (m.at_ hx (by simp)) 1,blk_cell (m.at_ hx (by simp)) 2,blk_cell (m.at_ hx (by simp)) 3,blk_cell (m.at_ hx (by simp)) 4,blk_cell (m.at_ hx (by simp)) 5,blk_cell (m.at_ hp (by simp)) 0⟩
def ValRel (W0:World) (nx:Int) (gs:List Grt) (u i:Value) (wr:World):Prop :=
 ∃ (k:Nat) (idp:Int),u=.int .i64 idp∧i=.int .i64 (k:Int)∧k≤gs.length∧okFrom nx 0 (gs.take k)=true∧(∀ x,x∈gs.take k→x.id≤idp)∧0≤idp∧(idp=0∨∃ x,x∈gs.take k∧x.id=idp)∧Mod [] W0 wr
theorem bvalid_any {w:World} {base:Nat} {gv:Value} {b:Bk} {lv:List (Grt × Value)} (h:BkM w base gv b lv) (hps:∀ p,p∈lv→p.1.path.size≤9223372036854775807) :
 Calls Tryz.prog 112 #[aggB b gv] w fun e w'=>e=.returned (.bool (validB b))∧Mod [] w w':=by
 obtain ⟨nx,bo,lo,gs⟩:=b
 have hg:=h.gr
 have heq:gs=lv.map Prod.fst:=h.eq
 obtain ⟨q,c,rfl,hmx⟩:=hg.shape
 have hmx':lv.length≤9223372036854775807:=hmx
 have kh:=fun (W:World)=>heads_any nx bo W
 have kl:∀ W:World,Calls Tryz.prog 81 #[.int .i64 lo] W fun e w'=>e=.returned (.bool (decide (legalT lo)))∧w'=W:=fun W=>legal_any lo W
 obtain ⟨V,hV⟩:∃ V,validB ⟨nx,bo,lo,gs⟩=V:=⟨_,rfl⟩
 rw [hV]
 unfold validB at hV
 simp only at hV
 have hlen:gs.length=lv.length:=by rw [heq];simp
 rw [hlen] at hV
 generalize headsB nx bo=b1 at kh hV
 unfold aggB
 simp only
 have HH:=hd3 h hps heq
 clear h hps heq hg hlen
 have HV:=hide hV
 clear hV
 obtain ⟨W0,hW0⟩:∃ W0,W0=w.alloc (.cells #[.int .i64 nx,.int .i64 bo,.int .i64 lo,.slice q lv.length c] 75 (0,0)):=⟨_,rfl⟩
 have hb0:W0.heap[w.heap.size]?=some (.cells #[.int .i64 nx,.int .i64 bo,.int .i64 lo,.slice q lv.length c] 75 (0,0)):=by rw [hW0];exact heap_alloc_new w _
 have hgr:Gr w W0:=by rw [hW0];exact (Gr.refl w).alloc _
 have B0:=blk_cell hb0
 go_enter Tryz.func112,Tryz.ntmps112
 go_upto_region 1 with fail
 rw [← hW0]
 clear hW0
 obtain ⟨C,hC⟩:∃ C,(b1&&(decide (lo=0∨legalT lo)&&decide (lv.length≤6)))=C:=⟨_,rfl⟩
 go_cut [28] (fun s wx=>s=.bool (!C)∧wx=W0)
 case first =>
  have HC:=hide hC
  clear hC hb0
  by_cases hlo:lo=0
  · subst hlo
    go_wp2_with (first
     | (go_at_call 144;refine (kh _).mono ?_;rintro e w1 ⟨rfl,rfl⟩)
     | (go_at_call 81;refine (kl _).mono ?_;rintro e w1 ⟨rfl,rfl⟩)
     | fail)
    all_goals
     go_meet
     exact ⟨by rw [← HC.out];first | (simp [*];done) | (simp [*];intros;omega) | (simp [*];omega) | (simp [*];rw [Bool.eq_iff_iff];simp;omega) | (rw [Bool.eq_iff_iff];simp [*];omega),rfl⟩
  · go_wp2_with (first
     | (go_at_call 144;refine (kh _).mono ?_;rintro e w1 ⟨rfl,rfl⟩)
     | (go_at_call 81;refine (kl _).mono ?_;rintro e w1 ⟨rfl,rfl⟩)
     | fail)
    all_goals
     go_meet
     exact ⟨by rw [← HC.out];first | (simp [*];done) | (simp [*];intros;omega) | (simp [*];omega) | (simp [*];rw [Bool.eq_iff_iff];simp;omega) | (rw [Bool.eq_iff_iff];simp [*];omega),rfl⟩
 case rest =>
 obtain ⟨rfl,rfl⟩:=hcut
 have hV2:(C&&okFrom nx 0 gs)=V:=by
  rw [← HV.out,← hC]
  simp [Bool.and_assoc]
 clear hC
 cases C with
 | false =>
   have HV2:=hide hV2
   clear hV2
   go_wp2_with fail
   go_ret
   exact ⟨by rw [← HV2.out];rfl,hgr.mod []⟩
 | true =>
 have HV2:=hide (show okFrom nx 0 gs=V by rw [← hV2];rfl)
 clear hV2
 obtain ⟨W0,rfl⟩:∃ x:World,x=wc:=⟨_,rfl⟩
 go_wp2_with fail
 go_loopw [3,32] (fun u i wr=>ValRel W0 nx gs u i wr) (fun _ i _=>lv.length - (intOf i).toNat)
 case atStart=>exact ⟨0,0,rfl,rfl,Nat.zero_le _,rfl,by simp,Int.le_refl _,.inl rfl,Mod.refl _ _⟩
 case round =>
  obtain ⟨k,idp,rfl,rfl,hk,hok,hall,hid0,hat0,hm⟩:=hrel
  obtain ⟨h,hps,heq⟩:=HH.out
  have hgl:gs.length=lv.length:=by rw [heq];simp
  by_cases hlt:k<lv.length
  · obtain ⟨b,rfl,hbb,hb1,hc,hf,hrd⟩:=((h.gr.gr hgr).mod hm (by simp)).at_ k hlt
    have hpa:=hps _ (show lv.getD k default∈lv by simp [hlt])
    have hgk:gs.getD k default=(lv.getD k default).1:=by rw [heq];simp [hlt]
    have hbk:=hm.at_ hb0 (by simp)
    generalize lv.getD k default=pr at hc hrd hpa hgk
    obtain ⟨g,sv⟩:=pr
    simp only at hrd hpa hgk
    have c0:=hc 0 (by decide)
    have c1:=hc 1 (by decide)
    have c2:=hc 2 (by decide)
    have c3:=hc 3 (by decide)
    have c4:=hc 4 (by decide)
    have c5:=hc 5 (by decide)
    simp [encG,cellsG] at c0 c1 c2 c3 c4 c5
    have km:=fun {W:World} (m:Mod [] wr W)=>mayGrant_any (g:=g) (hrd.mod m (by simp)) hpa
    have kn:=fun {W:World} (m:Mod [] wr W)=>newest_any (hrd.mod m (by simp))
    obtain ⟨qs,cs,rfl⟩:=hrd.len
    have HG:=hide hgk
    have hbx:=heap_alloc_new wr (.cells (cellsG g (.slice qs g.stamp.length cs)).toArray 35 (0,0))
    have hmX:Mod [] wr (wr.alloc (.cells (cellsG g (.slice qs g.stamp.length cs)).toArray 35 (0,0))):=(Mod.refl _ _).alloc _
    have HX:=hd3 hbx (blk_alloc hbk (.cells (cellsG g (.slice qs g.stamp.length cs)).toArray 35 (0,0))) hmX
    clear hc hgk hps h hbx hmX
    obtain ⟨id,ho,pa,mo,st,te⟩:=g
    simp only at c0 c1 c2 c3 c4 c5 hpa hrd kn
    generalize hG:grantB ⟨id,ho,pa,mo,st,te⟩=G at km
    generalize hN:lastI st=n at kn
    unfold aggG cellsG at km
    simp only at km
    have HGN:=hd2 hG hN
    clear hG hN
    unfold cellsG at HX
    simp only at HX
    obtain ⟨X,hX⟩:∃ X,X=wr.alloc (.cells #[.int .i64 id,.int .i64 ho,.string pa,.int .i64 mo,.slice qs st.length cs,.int .i64 te] 35 (0,0)):=⟨_,rfl⟩
    have HX2:Hid (X.heap[wr.heap.size]?=some (.cells #[.int .i64 id,.int .i64 ho,.string pa,.int .i64 mo,.slice qs st.length cs,.int .i64 te] 35 (0,0))∧X.heap[w.heap.size]?=some (.cells #[.int .i64 nx,.int .i64 bo,.int .i64 lo,.slice (some ⟨b,0,none⟩) lv.length c] 75 (0,0))∧Mod [] wr X):=by rw [hX];exact HX
    clear HX
    have t7:=hide trivial
    have t8:=hide trivial
    go_upto_region 7 with fail
    rw [← hX]
    clear hX c0 c1 c2 c3 c4 c5
    cases G with
    | false =>
      refine pB 999 (fun w'=>Mod [] X w'∧w'.cell? ⟨wr.heap.size,0,none⟩=some (.int .i64 id)∧w'.cell? ⟨wr.heap.size,1,none⟩=some (.int .i64 ho)∧w'.cell? ⟨wr.heap.size,2,none⟩=some (.string pa)∧w'.cell? ⟨wr.heap.size,3,none⟩=some (.int .i64 mo)∧w'.cell? ⟨wr.heap.size,4,none⟩=some (.slice qs st.length cs)∧w'.cell? ⟨wr.heap.size,5,none⟩=some (.int .i64 te)∧w'.cell? ⟨w.heap.size,0,none⟩=some (.int .i64 nx)) (by exact vs_of HX2.out.1 HX2.out.2.1 ((Mod.refl [] X).drew)) ?_
      refine pH 0 rfl (fun w hSw=>by (try dsimp only at hSw);go_simp;try with_reducible rfl) ?_
      refine pX 1 fun hHeld K hK=>?_
      go_simp
      refine (km (HX2.out.2.2.then hHeld.1)).mono ?_;rintro e x7 ⟨rfl,m7⟩;have m8:=hHeld.1.then m7
      refine hK.out _ _ _ ?_ ?_
      · exact vs_of HX2.out.1 HX2.out.2.1 m8
      clear hK K hHeld
      refine pP 2 ?_;refine pP 3 ?_;refine pN 4 ?_;refine pN 5 ?_;refine pN 6 ?_;refine pN 7 ?_;refine pN 8 ?_;refine pN 9 ?_;refine pP 10 ?_;refine pP 11 ?_;refine pN 12 ?_;refine pN 13 ?_;refine pN 14 ?_;refine pN 15 ?_;refine pP 16 ?_
      refine pE fun hHeld=>?_
      go_wp2_with fail
      go_ret
      exact ⟨by rw [← HV2.out,okFrom_bad (k:=k) (by omega) hat0 (by rw [HG.out];exact .inl HGN.out.1)];rfl,(((hgr.mod []).then hm).then HX2.out.2.2).then m8⟩
    | true =>
      by_cases hn:nx≤n
      · have dn:decide (nx≤n)=true:=decide_eq_true hn
        refine pB 999 (fun w'=>Mod [] X w'∧w'.cell? ⟨wr.heap.size,0,none⟩=some (.int .i64 id)∧w'.cell? ⟨wr.heap.size,1,none⟩=some (.int .i64 ho)∧w'.cell? ⟨wr.heap.size,2,none⟩=some (.string pa)∧w'.cell? ⟨wr.heap.size,3,none⟩=some (.int .i64 mo)∧w'.cell? ⟨wr.heap.size,4,none⟩=some (.slice qs st.length cs)∧w'.cell? ⟨wr.heap.size,5,none⟩=some (.int .i64 te)∧w'.cell? ⟨w.heap.size,0,none⟩=some (.int .i64 nx)) (by exact vs_of HX2.out.1 HX2.out.2.1 ((Mod.refl [] X).drew)) ?_
        refine pH 0 rfl (fun w hSw=>by (try dsimp only at hSw);go_simp;try with_reducible rfl) ?_
        refine pX 1 fun hHeld K hK=>?_
        go_simp
        refine (km (HX2.out.2.2.then hHeld.1)).mono ?_;rintro e x7 ⟨rfl,m7⟩;have m8:=hHeld.1.then m7
        refine hK.out _ _ _ ?_ ?_
        · exact vs_of HX2.out.1 HX2.out.2.1 m8
        clear hK K hHeld
        refine pP 2 ?_;refine pP 3 ?_;refine pP 4 ?_
        refine pH 5 rfl (fun w hSw=>by (try dsimp only at hSw);go_simp;try with_reducible rfl) ?_
        refine pP 7 ?_
        refine pH 8 rfl (fun w hSw=>by (try dsimp only at hSw);go_simp;try with_reducible rfl) ?_
        refine pX 6 fun hHeld K hK=>?_
        go_simp
        refine (kn (HX2.out.2.2.then hHeld.1)).mono ?_;rintro e x8 ⟨rfl,rfl⟩;have m9:=hHeld.1
        refine hK.out _ _ _ ?_ ?_
        · exact vs_of HX2.out.1 HX2.out.2.1 m9
        clear hK K hHeld
        refine pP 9 ?_;refine pP 10 ?_;refine pP 11 ?_;refine pN 12 ?_;refine pN 13 ?_;refine pN 14 ?_;refine pN 15 ?_;refine pP 16 ?_
        refine pE fun hHeld=>?_
        go_wp2_with fail
        go_ret
        exact ⟨by rw [← HV2.out,okFrom_bad (k:=k) (by omega) hat0 (by rw [HG.out];exact .inr (.inl (by rw [HGN.out.2];exact hn)))];rfl,(((hgr.mod []).then hm).then HX2.out.2.2).then m9⟩
      · have dn:decide (nx≤n)=false:=decide_eq_false hn
        by_cases hi:id≤idp
        · have di:decide (id≤idp)=true:=decide_eq_true hi
          refine pB 999 (fun w'=>Mod [] X w'∧w'.cell? ⟨wr.heap.size,0,none⟩=some (.int .i64 id)∧w'.cell? ⟨wr.heap.size,1,none⟩=some (.int .i64 ho)∧w'.cell? ⟨wr.heap.size,2,none⟩=some (.string pa)∧w'.cell? ⟨wr.heap.size,3,none⟩=some (.int .i64 mo)∧w'.cell? ⟨wr.heap.size,4,none⟩=some (.slice qs st.length cs)∧w'.cell? ⟨wr.heap.size,5,none⟩=some (.int .i64 te)∧w'.cell? ⟨w.heap.size,0,none⟩=some (.int .i64 nx)) (by exact vs_of HX2.out.1 HX2.out.2.1 ((Mod.refl [] X).drew)) ?_
          refine pH 0 rfl (fun w hSw=>by (try dsimp only at hSw);go_simp;try with_reducible rfl) ?_
          refine pX 1 fun hHeld K hK=>?_
          go_simp
          refine (km (HX2.out.2.2.then hHeld.1)).mono ?_;rintro e x7 ⟨rfl,m7⟩;have m8:=hHeld.1.then m7
          refine hK.out _ _ _ ?_ ?_
          · exact vs_of HX2.out.1 HX2.out.2.1 m8
          clear hK K hHeld
          refine pP 2 ?_;refine pP 3 ?_;refine pP 4 ?_
          refine pH 5 rfl (fun w hSw=>by (try dsimp only at hSw);go_simp;try with_reducible rfl) ?_
          refine pP 7 ?_
          refine pH 8 rfl (fun w hSw=>by (try dsimp only at hSw);go_simp;try with_reducible rfl) ?_
          refine pX 6 fun hHeld K hK=>?_
          go_simp
          refine (kn (HX2.out.2.2.then hHeld.1)).mono ?_;rintro e x8 ⟨rfl,rfl⟩;have m9:=hHeld.1
          refine hK.out _ _ _ ?_ ?_
          · exact vs_of HX2.out.1 HX2.out.2.1 m9
          clear hK K hHeld
          refine pP 9 ?_;refine pP 10 ?_;refine pP 11 ?_;refine pP 12 ?_
          refine pH 13 rfl (fun w hSw=>by (try dsimp only at hSw);go_simp;try with_reducible rfl) ?_
          refine pP 14 ?_;refine pP 15 ?_;refine pP 16 ?_
          refine pE fun hHeld=>?_
          go_wp2_with fail
          go_ret
          exact ⟨by rw [← HV2.out,okFrom_bad (k:=k) (by omega) hat0 (by rw [HG.out];exact .inr (.inr hi))];rfl,(((hgr.mod []).then hm).then HX2.out.2.2).then m9⟩
        · have di:decide (id≤idp)=false:=decide_eq_false hi
          refine pB 999 (fun w'=>Mod [] X w'∧w'.cell? ⟨wr.heap.size,0,none⟩=some (.int .i64 id)∧w'.cell? ⟨wr.heap.size,1,none⟩=some (.int .i64 ho)∧w'.cell? ⟨wr.heap.size,2,none⟩=some (.string pa)∧w'.cell? ⟨wr.heap.size,3,none⟩=some (.int .i64 mo)∧w'.cell? ⟨wr.heap.size,4,none⟩=some (.slice qs st.length cs)∧w'.cell? ⟨wr.heap.size,5,none⟩=some (.int .i64 te)∧w'.cell? ⟨w.heap.size,0,none⟩=some (.int .i64 nx)) (by exact vs_of HX2.out.1 HX2.out.2.1 ((Mod.refl [] X).drew)) ?_
          refine pH 0 rfl (fun w hSw=>by (try dsimp only at hSw);go_simp;try with_reducible rfl) ?_
          refine pX 1 fun hHeld K hK=>?_
          go_simp
          refine (km (HX2.out.2.2.then hHeld.1)).mono ?_;rintro e x7 ⟨rfl,m7⟩;have m8:=hHeld.1.then m7
          refine hK.out _ _ _ ?_ ?_
          · exact vs_of HX2.out.1 HX2.out.2.1 m8
          clear hK K hHeld
          refine pP 2 ?_;refine pP 3 ?_;refine pP 4 ?_
          refine pH 5 rfl (fun w hSw=>by (try dsimp only at hSw);go_simp;try with_reducible rfl) ?_
          refine pP 7 ?_
          refine pH 8 rfl (fun w hSw=>by (try dsimp only at hSw);go_simp;try with_reducible rfl) ?_
          refine pX 6 fun hHeld K hK=>?_
          go_simp
          refine (kn (HX2.out.2.2.then hHeld.1)).mono ?_;rintro e x8 ⟨rfl,rfl⟩;have m9:=hHeld.1
          refine hK.out _ _ _ ?_ ?_
          · exact vs_of HX2.out.1 HX2.out.2.1 m9
          clear hK K hHeld
          refine pP 9 ?_;refine pP 10 ?_;refine pP 11 ?_;refine pP 12 ?_
          refine pH 13 rfl (fun w hSw=>by (try dsimp only at hSw);go_simp;try with_reducible rfl) ?_
          refine pP 14 ?_;refine pP 15 ?_;refine pP 16 ?_
          refine pE fun hHeld=>?_
          go_wp2_with fail
          go_roundw
          case measure=>simp [intOf];omega
          case rel =>
           have hx1:=HG.out
           have htk:gs.take (k+1)=gs.take k++[gs.getD k default]:=by rw [List.take_add_one];simp [show k<gs.length by omega]
           refine ⟨_,_,_,_,?_,rfl,rfl,rfl,rfl⟩
           rw [← heq]
           refine ⟨k+1,id,rfl,by simp,by omega,?_,?_,by omega,.inr ⟨⟨id,ho,pa,mo,st,te⟩,by rw [htk,hx1];simp,rfl⟩,(hm.then HX2.out.2.2).then m9⟩
           · refine okFrom_take hok (by omega) ⟨by rw [hx1];exact HGN.out.1,by rw [hx1,HGN.out.2];omega,fun x hx=>?_,?_⟩
             · have:=hall x hx
               rw [hx1]
               show x.id<id
               omega
             · rw [hx1]
               show 0<id
               omega
           · intro x hx
             rw [htk,hx1] at hx
             rcases List.mem_append.1 hx with hx | hx
             · have:=hall x hx
               omega
             · obtain rfl:=List.mem_singleton.1 hx
               exact Int.le_refl _
  · obtain rfl:k=lv.length:=by omega
    rw [← hgl,List.take_length] at hok
    clear h hps hall hat0
    go_wp2_with fail
    go_ret
    exact ⟨by rw [← HV2.out,hok];rfl,(hgr.mod []).then hm⟩
end Go.Proofs.YtllljngpgjkdiaaGreatDoor
/-
  WALKS: layer 11: stamps cloned, twins; the place of an Id; is it the new book; limits.
-/
namespace Go.Proofs.YtllljngpgjkdiaaGreatDoor
set_option maxRecDepth 100000
open Go.RowKit

section
variable {P:Program}
theorem wpList_append_copy2 {ops:Array Oper} {rest:List Oper} {o:Oper} {a:Act} {Q:Exit→Act→World→Prop} (w:World) (hgd:o.guard=none) (s x:Operand) (t:TypeId)
 (ho:o.op=.call { callee:=.builtin .append,args:=#[s,x],argTypes:=#[t,t] })
 (base:Nat) (e:TypeId) (i:TypeInfo) (ht:P.underlying t=some (.slice e)) (hi:P.info? e=some i) (hz:i.zero=some (.int .i64 0)) (hsize:i.size=1) (hby:i.bytes=8)
 {b0 c0:Nat} (hs:a.eval s=.slice (some ⟨b0,0,none⟩) 0 c0) (hown:w.ownsRow base e 1 (.slice (some ⟨b0,0,none⟩) 0 c0) 0 []) (hbase:base≤w.heap.size) {v:Value} {m:List Int} (hx:a.eval x=v) (hv:RdN w v m) (hsm:m.length≤1000000)
 (h:∀ v' w',w'.ownsRow base e 1 v' m.length (m.map (Value.int .i64))→Mod [b0] w w'→wpList P ops Q rest (a.put o.dst v') w'):wpList P ops Q (o::rest) a w:=by
 by_cases hm:m=[]
 · subst hm
   obtain ⟨p,c,rfl⟩:=hv.len
   have src:Src P i.size t (.slice p 0 c) 0 [] w:=by
    cases p with
    | none=>exact Src.ofNil w ht c
    | some ad=>exact Src.ofSlice w ht ad 0 c [] (by simp) (fun _ _ h=>by simp at h) (fun _ h=>by cases h)
   have hr:=run_append_nothing w t t o.type e i ht hi (some ⟨b0,0,none⟩) 0 c0 (Nat.zero_le _) _ src
   refine wpList_plain hgd fun K hK=>?_
   unfold Oper.wp execOp
   simp only [List.length_nil] at hx
   simp only [ho,resolve,invoke,builtin,Sem.run_bind,Sem.run_pure,Result.andThen_ok,List.map_toArray,List.map_cons,List.map_nil,hs,hx,hr]
   exact hK _ _ (h _ _ hown (Mod.refl _ _))
 · have hpos:0<m.length:=List.length_pos_iff.2 hm
   rcases hv.2 with ⟨p,c,_,rfl⟩ | ⟨b,off,cap,rfl,hb,hc⟩
   · exact absurd rfl hm
   · refine wpList_append_lies w hgd s x t ho base e i (.int .i64 0) 1 8 ht hi hz hsize hby rfl (by decide) _ 0 [] hs hown ⟨b,off,none⟩ m.length cap (m.map (Value.int .i64)) hx (by simp) ?_ (by simp [Value.oneCell']) hpos (by unfold maxLen;omega) (by omega) hbase ?_
     · intro j u hu
       obtain ⟨hj,rfl⟩:=List.getElem?_eq_some_iff.1 hu
       rw [List.length_map] at hj
       have:=hc j hj
       rw [Addr.add_lit,this]
       simp [hj]
     · intro g cap' w' hown hg hat
       simp only [Nat.zero_add,List.nil_append] at hown ⊢
       exact h _ _ hown ((Mod.refl [b0] w).grown hg (fun k e _=>by simp [Value.ownBlock] at e;simp [e]))
end
def NewI (w:World) (s:List Int) (e:Ending) (w':World):Prop:=∃ v,e=.returned v∧w'.ownsRow w.heap.size 3 1 v s.length (s.map (Value.int .i64))∧Mod [] w w'
theorem clone_any {w:World} {v:Value} {s:List Int} (h:RdN w v s) (hs:s.length≤1000000) :
 Calls Tryz.prog 154 #[v] w fun e w'=>NewI w s e w':=by
 obtain ⟨i0,hi0,hz0,hs0,hb0⟩:=info_parts info_int
 obtain ⟨q,c,rfl⟩:=h.len
 cases q with
 | none =>
   have h0:s=[]:=by
    rcases h.2 with ⟨p,c',_,h0⟩ | ⟨b,off,cap,hv,_⟩
    · exact h0
    · simp at hv
   subst h0
   clear h
   have hn:∀ w,(binOp BinOp.eql 23 (.slice none 0 c) (.slice none 0 0)).run Tryz.prog w=.ok (.bool true) w:=fun w=>by kernel_rfl
   go_enter Tryz.func154,Tryz.ntmps154
   go_wp2_with fail
   go_ret
   exact ⟨_,rfl,World.ownsRow_nil _ _ _ _,Mod.refl _ _⟩
 | some a =>
   have hv1:=h.gr ((Gr.refl w).alloc (.cells #[] 3))
   have hown:(w.alloc (.cells #[] 3)).ownsRow w.heap.size 3 1 (.slice (some ⟨w.heap.size,0,none⟩) 0 0) 0 []:=World.ownsRow_made w #[] 0 (Nat.le_refl _) (Nat.zero_le _) rfl
   clear h
   have hn:∀ w,(binOp BinOp.eql 23 (.slice (some a) s.length c) (.slice none 0 0)).run Tryz.prog w=.ok (.bool false) w:=fun w=>by kernel_rfl
   go_enter Tryz.func154,Tryz.ntmps154
   go_wp2_with (
    at_builtin
    refine wpList_append_copy2 _ rfl _ _ 23 rfl w.heap.size 3 i0 Tryz.underlying23 hi0 hz0 hs0 hb0 rfl hown (by simp) rfl hv1 hs ?_
    intro v' w2 ho hm)
   go_ret
   exact ⟨_,rfl,ho,((Mod.refl [] w).alloc _).trans hm (by simp) (fun x hx hlt=>by simp at hx;omega)⟩
def NewG (w:World) (g:Grt) (e:Ending) (w':World):Prop:=∃ v,e=.returned (aggG g v)∧w'.ownsRow w.heap.size 3 1 v g.stamp.length (g.stamp.map (Value.int .i64))∧Mod [] w w'
theorem twinG_any {w:World} {g:Grt} {v:Value} (hv:RdN w v g.stamp) (hs:g.stamp.length≤1000000) :
 Calls Tryz.prog 150 #[aggG g v] w fun e w'=>NewG w g e w':=by
 obtain ⟨id,ho,pa,mo,st,te⟩:=g
 simp only at hv hs
 unfold aggG cellsG NewG
 simp only
 have g2:=((Gr.refl w).alloc (.cells #[.int .i64 id,.int .i64 ho,.string pa,.int .i64 mo,v,.int .i64 te] 35)).alloc (.cells #[.int .i64 0,.int .i64 0,.string { data:=#[] },.int .i64 0,.slice none 0 0,.int .i64 0] 35)
 have b1:=blk_alloc (heap_alloc_new w (.cells #[.int .i64 id,.int .i64 ho,.string pa,.int .i64 mo,v,.int .i64 te] 35)) (.cells #[.int .i64 0,.int .i64 0,.string { data:=#[] },.int .i64 0,.slice none 0 0,.int .i64 0] 35)
 have b2:=heap_alloc_new (w.alloc (.cells #[.int .i64 id,.int .i64 ho,.string pa,.int .i64 mo,v,.int .i64 te] 35)) (.cells #[.int .i64 0,.int .i64 0,.string { data:=#[] },.int .i64 0,.slice none 0 0,.int .i64 0] 35)
 have hv2:=hv.gr g2
 have e2:(w.alloc (.cells #[.int .i64 id,.int .i64 ho,.string pa,.int .i64 mo,v,.int .i64 te] 35)).heap.size=w.heap.size+1:=by simp
 rw [e2] at b2
 have B:=hd3 b1 b2 g2
 have hcl:=clone_any hv2 hs
 clear b1 b2 hv g2 hv2
 go_enter Tryz.func150,Tryz.ntmps150
 go_wp2_with fail
 refine hcl.mono ?_
 rintro e w2 ⟨v',rfl,ho,hm⟩
 obtain ⟨b1,b2,g2⟩:=B.out
 have c1:=hm.at_ b1 (by simp)
 have c2:=hm.at_ b2 (by simp)
 have hm0:=(g2.mod []).then hm
 have ho':w2.ownsRow w.heap.size 3 1 v' st.length (st.map (Value.int .i64)):=row_base ho g2.size
 have ho2:∀ k,k∈ob v'→w.heap.size+1<k:=fun k hk=>by have:=(ob_of_row ho k hk).1;simp at this;omega
 have HO2:=hide ho2
 obtain ⟨p',c',hv'⟩:=(rdN_of_row ho').len
 subst hv'
 have C:=hd2 c1 c2
 have C1:=blk_cell c1
 have C2:=blk_cell c2
 have F1:=blk_free c1
 have F2:=blk_free c2
 have hb2:w.heap.size+1<w2.heap.size:=lt_of_block c2
 clear B b1 b2 e2 hcl hm ho g2 ho2 c1 c2
 go_wp2_with fail
 have q:=stL_all (blk_other C.out.2 (a:=⟨w.heap.size,4,none⟩) (by simp) (.slice p' st.length c')) [.int .i64 id,.int .i64 ho,.string pa,.int .i64 mo,.slice p' st.length c',.int .i64 te] rfl
 have qm:=stL_mod (S:=[w.heap.size,w.heap.size+1]) (w0:=w2) (r:=w.heap.size+1) (fun _=>by simp) [.int .i64 id,.int .i64 ho,.string pa,.int .i64 mo,.slice p' st.length c',.int .i64 te] 0 _ ((Mod.refl [w.heap.size,w.heap.size+1] w2).setCell (p:=⟨w.heap.size,4,none⟩) (fun _=>by simp) (.slice p' st.length c'))
 refine bodyPost_ret (v:=.agg #[.int .i64 id,.int .i64 ho,.string pa,.int .i64 mo,.slice p' st.length c',.int .i64 te]) (res_cell1 Tryz.results150 _ _ rfl q Tryz.isAgg35 Tryz.sizeOf35) rfl ⟨_,rfl,?_,?_⟩
 · exact qm.row ho' (fun k hk=>by have:=HO2.out k (by simpa [ob] using hk);simp;omega)
 · exact hm0.trans qm (by simp) (fun x hx hlt=>by simp at hx;omega)
end Go.Proofs.YtllljngpgjkdiaaGreatDoor
/-
  WALKS: layer 11: the place of an Id; is it the new book; limits.
-/
namespace Go.Proofs.YtllljngpgjkdiaaGreatDoor
set_option maxRecDepth 100000
set_option maxHeartbeats 2000000
open Go.RowKit

theorem pos_eq {id:Int}:∀ (l:List Grt) (k:Nat),k≤l.length→(∀ t,t<k→(l.getD t default).id<id)→(k<l.length→id≤(l.getD k default).id)→posG l id=k
 | [],k,hk,_,_=>by
   have:k=0:=by simpa using hk
   subst this;rfl
 | x::r,0,_,_,h2=>by
   have:=h2 (by simp)
   simp only [List.getD_cons_zero] at this
   rw [posG_cons,if_neg (by omega)]
 | x::r,k+1,hk,h1,h2=>by
   have h0:=h1 0 (by omega)
   simp only [List.getD_cons_zero] at h0
   rw [posG_cons,if_pos h0,pos_eq r k (by simpa using hk) (fun t ht=>by simpa using h1 (t+1) (by omega)) (fun h=>by simpa using h2 (by simpa using h))]
theorem srt_at {l:List Grt} (hs:SrtG l) {a b:Nat} (h:a<b) (hb:b<l.length):(l.getD a default).id<(l.getD b default).id:=by
 have:=(List.pairwise_iff_getElem.1 hs) a b (by omega) hb h
 simp [List.getD,hb,show a<l.length by omega]
 exact this
theorem has_eq {l:List Grt} (hs:SrtG l) {id:Int} {k:Nat} (hp:posG l id=k):hasG l id=(decide (k<l.length)&&decide ((l.getD k default).id=id)):=by
 rw [Bool.eq_iff_iff,has_at hs,hp]
 simp
theorem at1_any (g:Grt) (v:Value) (id:Int) (w:World) :
 Calls Tryz.prog 181 #[aggG g v,.int .i64 id] w fun e w'=>e=.returned (.int .i64 (cmpInt g.id id))∧Mod [] w w':=by
 obtain ⟨i,ho,pa,mo,st,te⟩:=g
 unfold aggG cellsG
 simp only
 generalize hc:cmpInt i id=c
 have hcm:=fun W:World=>compare_int i id W
 rw [hc] at hcm
 clear hc
 go_enter Tryz.func181,Tryz.ntmps181
 go_wp2_with (go_at_call 182;refine (hcm _).mono ?_;rintro e w1 ⟨rfl,rfl⟩)
 go_ret
 exact ⟨rfl,(Mod.refl _ _).alloc _⟩
def SeaRel (w:World) (n:Nat) (ids:Nat→Int) (id:Int) (i j:Value) (wr:World):Prop :=
 ∃ lo hi:Nat,i=.int .i64 lo∧j=.int .i64 hi∧lo≤hi∧hi≤n∧(∀ t,t<lo→ids t<id)∧(∀ t,hi≤t→t<n→id≤ids t)∧Mod [] w wr
theorem sea_any {w:World} {base:Nat} {v:Value} {lv:List (Grt × Value)} (h:GrM w base v lv) (hs:SrtG (lv.map Prod.fst)) (hn:lv.length≤1000000) (id:Int) :
 Calls Tryz.prog 180 #[v,.int .i64 id,.func (.func 181) #[] #[]] w fun e w' =>
  e=.returned (.tuple #[.int .i64 (posG (lv.map Prod.fst) id:Nat),.bool (hasG (lv.map Prod.fst) id)])∧Mod [] w w':=by
 obtain ⟨q,c,rfl,_⟩:=h.shape
 have hlm:(lv.map Prod.fst).length=lv.length:=by simp
 have hget:∀ t,t<lv.length→(lv.map Prod.fst).getD t default=(lv.getD t default).1:=fun t ht=>by simp [ht]
 obtain ⟨PP,hPP⟩:∃ PP,posG (lv.map Prod.fst) id=PP:=⟨_,rfl⟩
 obtain ⟨BB,hBB⟩:∃ BB,hasG (lv.map Prod.fst) id=BB:=⟨_,rfl⟩
 rw [hPP,hBB]
 have HP:=hd2 hPP hBB
 have HH:=hd4 h hs hlm hget
 clear h hs hlm hget hPP hBB
 go_enter Tryz.func180,Tryz.ntmps180
 go_wp2_with fail
 go_loopw [9,10] (fun i j wr=>SeaRel w lv.length (fun t=>(lv.getD t default).1.id) id i j wr) (fun i j _=>(intOf j).toNat - (intOf i).toNat)
 case atStart=>exact ⟨0,lv.length,rfl,rfl,Nat.zero_le _,Nat.le_refl _,fun t ht=>absurd ht (Nat.not_lt_zero _),fun t h1 h2=>by omega,Mod.refl _ _⟩
 case round =>
  obtain ⟨lo,hi,rfl,rfl,hlh,hhn,h1,h2,hm⟩:=hrel
  have I:=hd2 h1 h2
  have HM:=hide hm
  clear h1 h2
  by_cases hlt:lo<hi
  · obtain ⟨m,hmid⟩:∃ m,m=(lo+hi) / 2:=⟨_,rfl⟩
    have hm1:lo≤m:=by omega
    have hm2:m<hi:=by omega
    obtain ⟨b,rfl,_,_,hc,hf,_⟩:=(HH.out.1.mod hm (by simp)).at_ m (by omega)
    have c0:=hc 0 (by decide)
    have c1:=hc 1 (by decide)
    have c2:=hc 2 (by decide)
    have c3:=hc 3 (by decide)
    have c4:=hc 4 (by decide)
    have c5:=hc 5 (by decide)
    generalize hg:lv.getD m default=pr at c0 c1 c2 c3 c4 c5
    obtain ⟨⟨gi,ho,pa,mo,st,te⟩,sv⟩:=pr
    simp [encG,cellsG] at c0 c1 c2 c3 c4 c5
    have HG:=hide hg
    have HMID:=hide hmid
    have hsh:((lo:Int)+(hi:Int)) / 2=(m:Int):=by omega
    have hmn:(m:Int)<(lv.length:Int):=by omega
    have hmn':m<lv.length:=by omega
    have hat:=fun (W:World)=>at1_any ⟨gi,ho,pa,mo,st,te⟩ sv id W
    unfold aggG cellsG at hat
    simp only at hat
    generalize hcmp:cmpInt gi id=cc at hat
    have HC:=hide hcmp
    clear hc hg hmid hcmp hm
    go_wp2_with (go_at_call 181;refine (hat _).mono ?_;rintro e w1 ⟨rfl,hm1⟩)
    · rename_i hlt0
      have hgi:gi<id:=by
       rcases cmpInt_cases gi id with ⟨a,_⟩ | ⟨a,e⟩ | ⟨a,e⟩
       · exact a
       · have:=HC.out;omega
       · have:=HC.out;omega
      refine ⟨⟨m+1,hi,by go_num,rfl,by omega,hhn,fun t ht=>?_,I.out.2,HM.out.then hm1⟩,by simp [intOf];omega⟩
      have hs:=HH.out.2.1
      by_cases e:t=m
      · subst e
        show (lv.getD t default).1.id<id
        rw [HG.out];exact hgi
      · have:=srt_at hs (a:=t) (b:=m) (by omega) (by rw [HH.out.2.2.1];omega)
        rw [HH.out.2.2.2 t (by omega),HH.out.2.2.2 m hmn',HG.out] at this
        exact Int.lt_trans this hgi
    · rename_i hlt0
      have hgi:id≤gi:=by
       rcases cmpInt_cases gi id with ⟨a,e⟩ | ⟨a,e⟩ | ⟨a,e⟩
       · have:=HC.out;omega
       · omega
       · omega
      refine ⟨⟨lo,m,rfl,rfl,by omega,by omega,I.out.1,fun t ht htn=>?_,HM.out.then hm1⟩,by simp [intOf];omega⟩
      have hs:=HH.out.2.1
      by_cases e:t=m
      · subst e
        show id≤(lv.getD t default).1.id
        rw [HG.out];exact hgi
      · have:=srt_at hs (a:=m) (b:=t) (by omega) (by rw [HH.out.2.2.1];omega)
        rw [HH.out.2.2.2 t (by omega),HH.out.2.2.2 m hmn',HG.out] at this
        exact Int.le_trans hgi (Int.le_of_lt this)
  · have hlo:hi=lo:=by omega
    subst hlo
    have hp:posG (lv.map Prod.fst) id=hi:=pos_eq _ hi (by rw [HH.out.2.2.1];exact hhn) (fun t ht=>by rw [HH.out.2.2.2 t (by omega)];exact I.out.1 t ht) (fun hx=>by
     rw [HH.out.2.2.1] at hx
     rw [HH.out.2.2.2 hi hx];exact I.out.2 hi (Nat.le_refl _) hx)
    have hh:=has_eq HH.out.2.1 hp
    rw [HH.out.2.2.1,HP.out.2] at hh
    rw [HP.out.1] at hp
    subst hp
    by_cases hx:PP<lv.length
    · obtain ⟨b,rfl,_,_,hc,hf,_⟩:=(HH.out.1.mod hm (by simp)).at_ PP hx
      rw [HH.out.2.2.2 PP hx] at hh
      have c0:=hc 0 (by decide)
      have c1:=hc 1 (by decide)
      have c2:=hc 2 (by decide)
      have c3:=hc 3 (by decide)
      have c4:=hc 4 (by decide)
      have c5:=hc 5 (by decide)
      generalize hg:lv.getD PP default=pr at c0 c1 c2 c3 c4 c5 hh
      obtain ⟨⟨gi,ho,pa,mo,st,te⟩,sv⟩:=pr
      simp [encG,cellsG] at c0 c1 c2 c3 c4 c5
      simp only [hx,decide_true,Bool.true_and] at hh
      subst hh
      have hmn:(PP:Int)<(lv.length:Int):=by omega
      have hat:=fun (W:World)=>at1_any ⟨gi,ho,pa,mo,st,te⟩ sv id W
      unfold aggG cellsG at hat
      simp only at hat
      have hce:(cmpInt gi id==0)=decide (gi=id):=by
       rw [Bool.eq_iff_iff,beq_iff_eq,decide_eq_true_eq]
       rcases cmpInt_cases gi id with ⟨a,e⟩ | ⟨a,e⟩ | ⟨a,e⟩ <;> omega
      generalize hcmp:cmpInt gi id=cc at hat hce
      have HC:=hide hce
      clear hc hg hcmp hm hce
      go_wp2_with (go_at_call 181;refine (hat _).mono ?_;rintro e w1 ⟨rfl,hm1⟩)
      all_goals (go_ret2;refine ⟨?_,HM.out.then hm1⟩;rw [← HC.out];first | done | (simp [*];done))
    · have hh2:BB=false:=by rw [hh,decide_eq_false hx];rfl
      subst hh2
      have hx':¬ (PP:Int)<(lv.length:Int):=by omega
      clear hh hm
      go_wp2_with fail
      go_ret2
      exact ⟨rfl,HM.out⟩
theorem at_any {w:World} {base:Nat} {v:Value} {lv:List (Grt × Value)} (h:GrM w base v lv) (hs:SrtG (lv.map Prod.fst)) (hn:lv.length≤1000000) (id:Int) :
 Calls Tryz.prog 151 #[v,.int .i64 id] w fun e w' =>
  e=.returned (.tuple #[.int .i64 (posG (lv.map Prod.fst) id:Nat),.bool (hasG (lv.map Prod.fst) id)])∧Mod [] w w':=by
 have hsea:=sea_any h hs hn id
 obtain ⟨q,c,rfl,_⟩:=h.shape
 generalize posG (lv.map Prod.fst) id=k at hsea
 generalize hasG (lv.map Prod.fst) id=B at hsea
 clear h hs
 go_enter Tryz.func151,Tryz.ntmps151
 go_wp2_with fail
 refine hsea.mono ?_
 rintro e w1 ⟨rfl,hm⟩
 clear hsea
 go_wp2_with fail
 go_ret2
 exact ⟨rfl,hm⟩
theorem eqf_nil (q:Option Addr) (n c:Nat) (hn:n≤1000000) (w:World) :
 Calls Tryz.prog 183 #[.slice q n c,.slice none 0 0,.func (.func 147) #[] #[]] w fun e w'=>e=.returned (.bool (decide (n=0)))∧w'=w:=by
 by_cases h:n=0
 · subst h
   go_enter Tryz.func183,Tryz.ntmps183
   go_wp2_with fail
   go_loopw [17] (fun i wr=>i=.int .i64 0∧wr=w) (fun _ _=>0)
   case atStart=>exact ⟨rfl,rfl⟩
   case round =>
    obtain ⟨rfl,rfl⟩:=hrel
    go_wp2_with fail
    go_ret
    exact ⟨rfl,rfl⟩
 · rw [decide_eq_false h]
   have hb:((n:Int) != 0)=true:=by rw [bne_iff_ne];omega
   clear h
   go_enter Tryz.func183,Tryz.ntmps183
   go_wp2_with fail
   go_ret
   exact ⟨rfl,rfl⟩
theorem bk_dec (b:Bk) (n:Nat) (hn:b.grants.length=n):decide (b=Bk.new)=((b.next==1)&&((b.boots==0)&&((b.longest==0)&&decide (n=0)))):=by
 rw [Bool.eq_iff_iff]
 simp only [Bool.and_eq_true,decide_eq_true_eq,beq_iff_eq]
 constructor
 · rintro rfl
   exact ⟨rfl,rfl,rfl,hn.symm⟩
 · rintro ⟨h1,h2,h3,h4⟩
   exact bk_ext ⟨h1,h2,h3,List.length_eq_zero_iff.1 (by omega)⟩
theorem same_new {w:World} {base:Nat} {v:Value} {b:Bk} {lv:List (Grt × Value)} (h:BkM w base v b lv) (hn:lv.length≤1000000) :
 Calls Tryz.prog 152 #[aggB b v,aggB Bk.new (.slice none 0 0)] w fun e w'=>e=.returned (.bool (decide (b=Bk.new)))∧Mod [] w w':=by
 obtain ⟨q,c,rfl,_⟩:=h.gr.shape
 have hl:b.grants.length=lv.length:=by rw [h.eq];simp
 have hd:=bk_dec b _ hl
 obtain ⟨nx,bo,lo,gs⟩:=b
 simp only at hd
 rw [hd]
 have hq:=fun (W:World)=>eqf_nil q lv.length c hn W
 unfold aggB Bk.new
 simp only
 generalize decide (lv.length=0)=B at hq hd
 clear hd hl h
 by_cases h1:nx=1
 · subst h1
   by_cases h2:bo=0
   · subst h2
     by_cases h3:lo=0
     · subst h3
       go_enter Tryz.func152,Tryz.ntmps152
       go_wp2_with (go_at_call 183;refine (hq _).mono ?_;rintro e w1 ⟨rfl,rfl⟩)
       go_ret
       exact ⟨by simp,((Mod.refl _ _).alloc _).alloc _⟩
     · have e3:(lo==0)=false:=by simpa using h3
       clear h3
       go_enter Tryz.func152,Tryz.ntmps152
       go_wp2_with fail
       go_ret
       exact ⟨by simp [e3],((Mod.refl _ _).alloc _).alloc _⟩
   · have e2:(bo==0)=false:=by simpa using h2
     clear h2
     go_enter Tryz.func152,Tryz.ntmps152
     go_wp2_with fail
     go_ret
     exact ⟨by simp [e2],((Mod.refl _ _).alloc _).alloc _⟩
 · have e1:(nx==1)=false:=by simpa using h1
   clear h1
   go_enter Tryz.func152,Tryz.ntmps152
   go_wp2_with fail
   go_ret
   exact ⟨by simp [e1],((Mod.refl _ _).alloc _).alloc _⟩
theorem limits_any {w:World} {v:Value} (b:Bk) (k:Int) {q:Option Addr} {c:Nat} (hv:v=.slice q b.grants.length c) (hn:b.grants.length≤1000000) :
 Calls Tryz.prog 114 #[aggB b v,.int .i64 k] w fun e w'=>e=.returned (.int .i64 (limitI b k))∧Mod [] w w':=by
 subst hv
 obtain ⟨nx,bo,lo,gs⟩:=b
 unfold aggB
 simp only at hn ⊢
 obtain ⟨R,hR⟩:∃ R,limitI ⟨nx,bo,lo,gs⟩ k=R:=⟨_,rfl⟩
 rw [hR]
 unfold limitI at hR
 simp only at hR
 generalize gs.length=n at hR hn
 have HR:=hide hR
 clear hR
 have hk:k=4∨k=5∨k=7∨k=3∨(k≠4∧k≠5∧k≠7∧k≠3):=by omega
 rcases hk with rfl | rfl | rfl | rfl | ⟨k1,k2,k3,k4⟩
 · go_enter Tryz.func114,Tryz.ntmps114
   go_wp2_with fail
   all_goals (go_ret;refine ⟨?_,(Mod.refl _ _).alloc _⟩;show Ending.returned (.int .i64 _)=Ending.returned (.int .i64 _);congr 2;rw [← HR.out];(repeat' split) <;> first | omega | (simp_all;done) | (simp_all;omega))
 · go_enter Tryz.func114,Tryz.ntmps114
   go_wp2_with fail
   all_goals (go_ret;refine ⟨?_,(Mod.refl _ _).alloc _⟩;show Ending.returned (.int .i64 _)=Ending.returned (.int .i64 _);congr 2;rw [← HR.out];(repeat' split) <;> first | omega | (simp_all;done) | (simp_all;omega))
 · go_enter Tryz.func114,Tryz.ntmps114
   go_wp2_with fail
   all_goals (go_ret;refine ⟨?_,(Mod.refl _ _).alloc _⟩;show Ending.returned (.int .i64 _)=Ending.returned (.int .i64 _);congr 2;rw [← HR.out];(repeat' split) <;> first | omega | (simp_all;done) | (simp_all;omega))
 · go_enter Tryz.func114,Tryz.ntmps114
   go_wp2_with fail
   all_goals (go_ret;refine ⟨?_,(Mod.refl _ _).alloc _⟩;show Ending.returned (.int .i64 _)=Ending.returned (.int .i64 _);congr 2;rw [← HR.out];(repeat' split) <;> first | omega | (simp_all;done) | (simp_all;omega))
 · have e1:(k==4)=false:=by simpa using k1
   have e2:(k==5)=false:=by simpa using k2
   have e3:(k==7)=false:=by simpa using k3
   have e4:(k==3)=false:=by simpa using k4
   have HK:=hd4 k1 k2 k3 k4
   clear k1 k2 k3 k4
   go_enter Tryz.func114,Tryz.ntmps114
   go_wp2_with fail
   go_ret
   exact ⟨by rw [← HR.out];simp [HK.out.1,HK.out.2.1,HK.out.2.2.1,HK.out.2.2.2],(Mod.refl _ _).alloc _⟩
end Go.Proofs.YtllljngpgjkdiaaGreatDoor
/-
  WALKS: layer 11: may it be a record?
-/
namespace Go.Proofs.YtllljngpgjkdiaaGreatDoor
set_option maxRecDepth 100000
set_option maxHeartbeats 4000000
open Go.RowKit

def cellsR (r:Rcd) (sv tv:Value):List Value:=[.int .i64 r.kind,.int .i64 r.grant.id,.int .i64 r.grant.holder,.string r.grant.path,.int .i64 r.grant.mode,sv,.int .i64 r.grant.term,.int .i64 r.id,tv,.int .i64 r.next,.int .i64 r.boots,.int .i64 r.longest]
def aggR (r:Rcd) (sv tv:Value):Value:=.agg (cellsR r sv tv).toArray
theorem rdN_nil (w:World):RdN w (.slice none 0 0) []:=⟨Nat.zero_le _,.inl ⟨none,0,rfl,rfl⟩⟩
theorem bare_dec (nx bo lo:Int):decide (nx=0∧bo=0∧lo=0)=((nx==0)&&((bo==0)&&(lo==0))):=by
 rw [Bool.eq_iff_iff];simp
theorem noId_dec (id:Int) (s:List Int):decide (id=0∧s=[])=((id==0)&&decide (s.length=0)):=by
 rw [Bool.eq_iff_iff];simp
theorem mayRec_any {w:World} {r:Rcd} {sv tv:Value} (hg:RdN w sv r.grant.stamp) (hs:RdN w tv r.stamp) (hp:r.grant.path.size≤9223372036854775807) :
 Calls Tryz.prog 113 #[aggR r sv tv] w fun e w'=>e=.returned (.bool (mayB r))∧Mod [] w w':=by
 obtain ⟨kd,⟨gi,gh,gp,gm,gs,gt⟩,ri,rs,nx,bo,lo⟩:=r
 simp only at hg hs hp
 unfold aggR cellsR
 simp only
 obtain ⟨q2,c2,rfl⟩:=hs.len
 obtain ⟨q1,c1,rfl⟩:=hg.len
 -- what the callees answer
 have k1:=fun {W:World} (g:Gr w W)=>sameGrant_any (x:=⟨gi,gh,gp,gm,gs,gt⟩) (y:=Grt.zero) (hg.gr g) (rdN_nil W)
 have k2:=fun {W:World} (m:Mod [] w W)=>mayGrant_any (g:=⟨gi,gh,gp,gm,gs,gt⟩) (hg.mod m (by simp)) hp
 have k3:=fun {W:World} (m:Mod [] w W)=>newest_any (hg.mod m (by simp))
 have k4:=fun {W:World} (m:Mod [] w W)=>stamped_any (hs.mod m (by simp))
 have k5:=fun (W:World)=>counter_any ri W
 have k6:=fun (W:World)=>heads_any nx bo W
 have k7:∀ W:World,Calls Tryz.prog 81 #[.int .i64 lo] W fun e w'=>e=.returned (.bool (decide (legalT lo)))∧w'=W:=fun W=>legal_any lo W
 have hm63:rs.length≤9223372036854775807:=hs.1
 obtain ⟨R,hR⟩:∃ R,mayB ⟨kd,⟨gi,gh,gp,gm,gs,gt⟩,ri,rs,nx,bo,lo⟩=R:=⟨_,rfl⟩
 rw [hR]
 have r1:=may1 (r:=⟨kd,⟨gi,gh,gp,gm,gs,gt⟩,ri,rs,nx,bo,lo⟩)
 have r2:=may2 (r:=⟨kd,⟨gi,gh,gp,gm,gs,gt⟩,ri,rs,nx,bo,lo⟩)
 have r3:=may3 (r:=⟨kd,⟨gi,gh,gp,gm,gs,gt⟩,ri,rs,nx,bo,lo⟩)
 have r4:=may4 (r:=⟨kd,⟨gi,gh,gp,gm,gs,gt⟩,ri,rs,nx,bo,lo⟩)
 have r5:=may5 (r:=⟨kd,⟨gi,gh,gp,gm,gs,gt⟩,ri,rs,nx,bo,lo⟩)
 have r6:=may6 (r:=⟨kd,⟨gi,gh,gp,gm,gs,gt⟩,ri,rs,nx,bo,lo⟩)
 have r7:=may7 (r:=⟨kd,⟨gi,gh,gp,gm,gs,gt⟩,ri,rs,nx,bo,lo⟩)
 have r8:(kd<1∨7<kd)→R=false:=fun h=>by
  cases hb:R with
  | false=>rfl
  | true =>
    rw [hb] at hR
    have:=may_kind hR
    simp only at this
    omega
 have e6:decide (rs=[])=decide (rs.length=0):=by rw [Bool.eq_iff_iff];simp
 simp only [hR,bareB,noGrant,noId,e6] at r1 r2 r3 r4 r5 r6 r7
 generalize grantB ⟨gi,gh,gp,gm,gs,gt⟩=GB at k2 r3 r4
 generalize decide ((⟨gi,gh,gp,gm,gs,gt⟩:Grt)=Grt.zero)=NG at k1 r1 r2 r5 r6 r7
 generalize lastI gs=LG at k3 r4
 generalize stmB rs=SB at k4 r5
 generalize decide (countOk ri)=CI at k5 r5 r6
 generalize headsB nx bo=HB at k6 r1
 generalize decide (legalT lo)=LT at k7 r2
 obtain ⟨BR,hBR⟩:∃ BR,decide (nx=0∧bo=0∧lo=0)=BR:=⟨_,rfl⟩
 obtain ⟨NI,hNI⟩:∃ NI,decide (ri=0∧rs=[])=NI:=⟨_,rfl⟩
 rw [hBR] at r3 r4 r5 r6 r7
 rw [hNI] at r1 r2 r3 r4 r7
 rw [bare_dec] at hBR
 rw [noId_dec] at hNI
 generalize rs.length=n at hm63 hNI k4 r6
 have HR:=hd8 r1 r2 r3 r4 r5 r6 r7 r8
 have HBR:=hide hBR
 have HNI:=hide hNI
 clear r1 r2 r3 r4 r5 r6 r7 r8 hBR hNI hR e6 hg hs hp
 obtain ⟨W0,hW0⟩:∃ W0,W0=w.alloc (.cells #[.int .i64 kd,.int .i64 gi,.int .i64 gh,.string gp,.int .i64 gm,.slice q1 gs.length c1,.int .i64 gt,.int .i64 ri,.slice q2 n c2,.int .i64 nx,.int .i64 bo,.int .i64 lo] 93 (0,0)):=⟨_,rfl⟩
 have hb0:W0.heap[w.heap.size]?=some (.cells #[.int .i64 kd,.int .i64 gi,.int .i64 gh,.string gp,.int .i64 gm,.slice q1 gs.length c1,.int .i64 gt,.int .i64 ri,.slice q2 n c2,.int .i64 nx,.int .i64 bo,.int .i64 lo] 93 (0,0)):=by rw [hW0];exact heap_alloc_new w _
 have hgr:Gr w W0:=by rw [hW0];exact (Gr.refl w).alloc _
 have k1:=k1 hgr
 unfold aggG cellsG Grt.zero at k1
 simp only at k1
 have HW:=hd2 hb0 hgr
 have g1:W0.cell? ⟨w.heap.size,1,none⟩=some (.int .i64 gi):=blk_cell hb0 1
 have g2:W0.cell? ⟨w.heap.size,2,none⟩=some (.int .i64 gh):=blk_cell hb0 2
 have g3:W0.cell? ⟨w.heap.size,3,none⟩=some (.string gp):=blk_cell hb0 3
 have g4:W0.cell? ⟨w.heap.size,4,none⟩=some (.int .i64 gm):=blk_cell hb0 4
 have g5:W0.cell? ⟨w.heap.size,5,none⟩=some (.slice q1 gs.length c1):=blk_cell hb0 5
 have g6:W0.cell? ⟨w.heap.size,6,none⟩=some (.int .i64 gt):=blk_cell hb0 6
 have a1:W0.cell? ⟨w.heap.size,9,none⟩=some (.int .i64 nx):=blk_cell hb0 9
 have a2:W0.cell? ⟨w.heap.size,10,none⟩=some (.int .i64 bo):=blk_cell hb0 10
 have a3:W0.cell? ⟨w.heap.size,11,none⟩=some (.int .i64 lo):=blk_cell hb0 11
 clear hb0 hgr
 go_enter Tryz.func113,Tryz.ntmps113
 go_upto_region 1 with fail
 rw [← hW0]
 clear hW0
 go_cut [3] (fun s3 wx=>s3=.bool BR∧wx=W0)
 case first =>
  clear k1 k2 k3 k4 k5 k6 k7 g1 g2 g3 g4 g5 g6 HNI HR HW
  have hx:=HBR.out
  clear HBR
  cases h1:(nx==0) <;> cases h2:(bo==0) <;> cases h3:(lo==0) <;> rw [h1,h2,h3] at hx <;> have HX:=hide hx <;> clear hx
  all_goals
   go_wp2_with fail
   go_meet
   case rel=>exact ⟨by rw [← HX.out];rfl,rfl⟩
 case rest =>
 obtain ⟨rfl,rfl⟩:=hcut
 go_upto_region 3 with (go_at_call 147;refine k1.mono ?_;rintro e w1 ⟨rfl,hm1⟩
                        have hb1:=hm1.at_ HW.out.1 (by simp)
                        have a4:w1.cell? ⟨w.heap.size,7,none⟩=some (.int .i64 ri):=blk_cell hb1 7
                        have a5:w1.cell? ⟨w.heap.size,8,none⟩=some (.slice q2 n c2):=blk_cell hb1 8
                        have HW1:=hd2 hb1 ((HW.out.2.mod []).then hm1)
                        clear hb1 hm1 a1 a2 a3 g1 g2 g3 g4 g5 g6)
 go_cut [5] (fun s5 wx=>s5=.bool NI∧wx=w1)
 case first =>
  clear k1 k2 k3 k4 k5 k6 k7 HR HW HW1
  have hx:=HNI.out
  have hdn:decide (n=0)=((n:Int)==0):=by rw [Bool.eq_iff_iff];simp
  rw [hdn] at hx
  clear HNI hdn
  cases h1:(ri==0) <;> cases h2:((n:Int)==0) <;> rw [h1,h2] at hx <;> have HX:=hide hx <;> clear hx
  all_goals
   go_wp2_with fail
   go_meet
   case rel=>exact ⟨by rw [← HX.out];rfl,rfl⟩
 case rest =>
 obtain ⟨rfl,rfl⟩:=hcut
 obtain ⟨X,rfl⟩:∃ X:World,X=wc:=⟨_,rfl⟩
 have hb:=HW1.out.1
 have b0:X.cell? ⟨w.heap.size,0,none⟩=some (.int .i64 kd):=blk_cell hb 0
 have b1:X.cell? ⟨w.heap.size,1,none⟩=some (.int .i64 gi):=blk_cell hb 1
 have b2:X.cell? ⟨w.heap.size,2,none⟩=some (.int .i64 gh):=blk_cell hb 2
 have b3:X.cell? ⟨w.heap.size,3,none⟩=some (.string gp):=blk_cell hb 3
 have b4:X.cell? ⟨w.heap.size,4,none⟩=some (.int .i64 gm):=blk_cell hb 4
 have b5:X.cell? ⟨w.heap.size,5,none⟩=some (.slice q1 gs.length c1):=blk_cell hb 5
 have b6:X.cell? ⟨w.heap.size,6,none⟩=some (.int .i64 gt):=blk_cell hb 6
 have b7:X.cell? ⟨w.heap.size,7,none⟩=some (.int .i64 ri):=blk_cell hb 7
 have b8:X.cell? ⟨w.heap.size,8,none⟩=some (.slice q2 n c2):=blk_cell hb 8
 have b9:X.cell? ⟨w.heap.size,9,none⟩=some (.int .i64 nx):=blk_cell hb 9
 have b10:X.cell? ⟨w.heap.size,10,none⟩=some (.int .i64 bo):=blk_cell hb 10
 have b11:X.cell? ⟨w.heap.size,11,none⟩=some (.int .i64 lo):=blk_cell hb 11
 clear hb k1 HBR HNI HW
 unfold aggG cellsG at k2
 simp only at k2
 have hkd:kd=1∨kd=2∨kd=4∨kd=3∨kd=5∨kd=6∨kd=7∨(kd<1∨7<kd):=by omega
 rcases hkd with rfl | rfl | rfl | rfl | rfl | rfl | rfl | hkd
 · have hr:=HR.out.1 rfl
   clear HR k2 k3 k4 k5 k7
   have hd:decide (lo=0)=(lo==0):=by rw [Bool.eq_iff_iff];simp
   rw [hd] at hr
   clear hd
   cases HB <;> cases h1:(lo==0) <;> cases NG <;> rw [h1] at hr <;> have HX:=hide hr <;> clear hr
   all_goals
    go_wp2_with (first | (go_at_call 144;refine (k6 _).mono ?_;rintro e w2 ⟨rfl,rfl⟩) | fail)
    go_ret
    exact ⟨by rw [HX.out];rfl,HW1.out.2⟩
 · have hr:=HR.out.2.1 rfl
   clear HR k2 k3 k4 k5 k6
   have hd:decide (nx=0∧bo=0)=((nx==0)&&(bo==0)):=by rw [Bool.eq_iff_iff];simp
   rw [hd] at hr
   clear hd
   cases LT <;> cases h1:(nx==0) <;> cases h2:(bo==0) <;> cases NG <;> rw [h1,h2] at hr <;> have HX:=hide hr <;> clear hr
   all_goals
    go_wp2_with (first | (go_at_call 81;refine (k7 _).mono ?_;rintro e w2 ⟨rfl,rfl⟩) | fail)
    go_ret
    exact ⟨by rw [HX.out];rfl,HW1.out.2⟩
 · have hr:=HR.out.2.2.2.1 rfl
   clear HR k4 k5 k6 k7
   by_cases hL:LG=gi
   · have hb:(LG != gi)=false:=by simpa using hL
     rw [decide_eq_true hL] at hr
     have HX:=hide hr
     clear hr hL
     go_wp2_with fail
     go_quiet ((first | (go_at_call 146;exact Calls.quiet_of_same (k3 HW1.out.2)) | (go_at_call 146;exact Calls.quiet_of_same (k3 (HW1.out.2.drewN _)))))
     go_wp2_with (first | (go_at_call 145;refine (k2 (HW1.out.2.drewN _)).mono ?_;rintro e w2 ⟨rfl,hm2⟩) | (go_at_call 145;refine (k2 HW1.out.2.drew).mono ?_;rintro e w2 ⟨rfl,hm2⟩) | fail)
     all_goals
      go_ret
      exact ⟨by rw [HX.out];simp [*],(HW1.out.2.drewN _).then hm2⟩
   · have hb:(LG != gi)=true:=by rw [bne_iff_ne];exact hL
     rw [decide_eq_false hL] at hr
     have HX:=hide hr
     clear hr hL k2
     go_wp2_with fail
     go_quiet ((first | (go_at_call 146;exact Calls.quiet_of_same (k3 HW1.out.2)) | (go_at_call 146;exact Calls.quiet_of_same (k3 (HW1.out.2.drewN _)))))
     go_wp2_with fail
     go_ret
     exact ⟨by rw [HX.out];rfl,HW1.out.2.drewN _⟩
 · have hr:=HR.out.2.2.1 rfl
   clear HR k3 k4 k5 k6 k7
   have HX:=hide hr
   clear hr
   go_wp2_with (first | (go_at_call 145;refine (k2 HW1.out.2).mono ?_;rintro e w2 ⟨rfl,hm2⟩) | fail)
   all_goals
    go_ret
    exact ⟨by rw [HX.out];simp [*],HW1.out.2.then hm2⟩
 · have hr:=HR.out.2.2.2.2.1 rfl
   clear HR k2 k3 k6 k7
   cases CI <;> cases SB <;> cases BR <;> have HX:=hide hr <;> clear hr
   all_goals
    go_wp2_with (first | (go_at_call 148;refine (k5 _).mono ?_;rintro e w2 ⟨rfl,rfl⟩) | (go_at_call 149;refine (k4 HW1.out.2).mono ?_;rintro e w2 ⟨rfl,rfl⟩) | fail)
    go_ret
    exact ⟨by rw [HX.out];rfl,HW1.out.2⟩
 · have hr:=HR.out.2.2.2.2.2.1 rfl
   clear HR k2 k3 k4 k6 k7
   have hd:decide (n=0)=((n:Int)==0):=by rw [Bool.eq_iff_iff];simp
   rw [hd] at hr
   clear hd
   cases CI <;> cases h1:((n:Int)==0) <;> cases BR <;> rw [h1] at hr <;> have HX:=hide hr <;> clear hr
   all_goals
    go_wp2_with (first | (go_at_call 148;refine (k5 _).mono ?_;rintro e w2 ⟨rfl,rfl⟩) | fail)
    go_ret
    exact ⟨by rw [HX.out];rfl,HW1.out.2⟩
 · have hr:=HR.out.2.2.2.2.2.2.1 rfl
   clear HR k2 k3 k4 k5 k6 k7
   cases BR <;> cases NG <;> have HX:=hide hr <;> clear hr
   all_goals
    go_wp2_with fail
    go_ret
    exact ⟨by rw [HX.out];rfl,HW1.out.2⟩
 · have hr:=HR.out.2.2.2.2.2.2.2 hkd
   have n1:(kd==1)=false:=by simp;omega
   have n2:(kd==2)=false:=by simp;omega
   have n3:(kd==3)=false:=by simp;omega
   have n4:(kd==4)=false:=by simp;omega
   have n5:(kd==5)=false:=by simp;omega
   have n6:(kd==6)=false:=by simp;omega
   have n7:(kd==7)=false:=by simp;omega
   have HX:=hide hr
   clear hr HR hkd k2 k3 k4 k5 k6 k7
   go_wp2_with fail
   go_ret
   exact ⟨by rw [HX.out];rfl,HW1.out.2⟩
end Go.Proofs.YtllljngpgjkdiaaGreatDoor
/-
  WALKS: layer 11: lay, Encode.
-/
namespace Go.Proofs.YtllljngpgjkdiaaGreatDoor
set_option maxRecDepth 100000
set_option maxHeartbeats 1000000
open Go.RowKit

structure ES (w W:World) (p:Nat) (v:Value) (d:B8) (K:List (Nat × Obj)):Prop where
 wr:WrM W p v d
 nw:w.heap.size≤p∧∀ k,k∈ob v→w.heap.size≤k
 md:Mod [] w W
 kp:∀ q,q∈K→W.heap[q.1]?=some q.2∧q.1≠p∧q.1 ∉ ob v
theorem ES.step {w W W':World} {p:Nat} {v:Value} {d d2:B8} {K:List (Nat × Obj)} {e:Ending} (h:ES w W p v d K) (t:WrTo W p v d2 e W'):e=.returned (.tuple #[])∧∃ v',ES w W' p v' d2 K∧(∀ k,k∈ob v'→k∈ob v∨W.heap.size≤k)∧Mod (p::ob v) W W':=by
 obtain ⟨he,v',h1,h2,h3⟩:=t
 have hsz:=h.md.size
 refine ⟨he,v',⟨h1,⟨h.nw.1,fun k hk=>?_⟩,h.md.trans h3 (by simp) (fun x hx hlt=>?_),fun q hq=>?_⟩,h2,h3⟩
 · rcases h2 k hk with h4 | h4
   · exact h.nw.2 k h4
   · omega
 · rcases List.mem_cons.1 hx with rfl | hx
   · have:=h.nw.1;omega
   · have:=h.nw.2 x hx;omega
 · obtain ⟨k1,k2,k3⟩:=h.kp q hq
   refine ⟨h3.at_ k1 (by simp [k2,k3]),k2,fun hk=>?_⟩
   rcases h2 _ hk with h4 | h4
   · exact k3 h4
   · have:=lt_of_block k1;omega
theorem ES.alloc {w W:World} {p:Nat} {v:Value} {d:B8} {K:List (Nat × Obj)} (h:ES w W p v d K) (o:Obj):ES w (W.alloc o) p v d ((W.heap.size,o)::K):=by
 have g:Gr W (W.alloc o):=(Gr.refl W).alloc o
 refine ⟨⟨(g.mod []).at_ h.wr.blk (by simp),(g.mod []).row h.wr.row (by simp),h.wr.apart⟩,h.nw,h.md.gr g,fun q hq=>?_⟩
 rcases List.mem_cons.1 hq with rfl | hq
 · exact ⟨heap_alloc_new W o,fun e=>by have:=lt_of_block h.wr.blk;simp only at e;omega,fun e=>by have:=(h.wr.row.lt _ (by simpa [ob] using e)).2;omega⟩
 · obtain ⟨k1,k2,k3⟩:=h.kp q hq
   exact ⟨(g.mod []).at_ k1 (by simp),k2,k3⟩
theorem ES.drewN {w W:World} {p:Nat} {v:Value} {d:B8} {K:List (Nat × Obj)} (h:ES w W p v d K) (n:Nat):ES w (W.drewN n) p v d K :=
 ⟨⟨(((Gr.refl W).drewN n).mod []).at_ h.wr.blk (by simp),(((Gr.refl W).drewN n).mod []).row h.wr.row (by simp),h.wr.apart⟩,h.nw,h.md.drewN n,fun q hq=>⟨(((Gr.refl W).drewN n).mod []).at_ (h.kp q hq).1 (by simp),(h.kp q hq).2⟩⟩
theorem ES.box {w W:World} {p:Nat} {v:Value} {d:B8} {K:List (Nat × Obj)} (h:ES w W p v d K) {k:Nat} {cs:Array Value} {T:TypeId} (hk:(k,Obj.cells cs T (0,0))∈K):(∀ o,W.cell? ⟨k,o,none⟩=cs[o]?)∧(∀ o,W.frozen? ⟨k,o,none⟩=false) :=
 ⟨fun o=>blk_cell (h.kp _ hk).1 o,fun o=>blk_free (h.kp _ hk).1 o⟩
def LayRel (w:World) (p:Nat) (d:B8) (l:List Int) (K:List (Nat × Obj)) (S:List Nat) (W0:World) (i:Value) (wr:World):Prop :=
 ∃ (k:Nat) (v:Value),i=.int .i64 (k:Int)∧k≤l.length∧ES w wr p v (d++numsB (l.take k)) K∧(∀ x,x∈ob v→x∈S∨W0.heap.size≤x)∧Mod (p::S) W0 wr
theorem numsB_snoc (l:List Int) (n:Int):numsB (l++[n])=numsB l++numB n:=by simp [numsB]
theorem numsB_le:∀ l:List Int,(numsB l).length≤10 * l.length
 | []=>by simp [numsB]
 | n::l=>by
   have a:=(numB_len n).2
   have b:=numsB_le l
   have e:numsB (n::l)=numB n++numsB l:=by simp [numsB]
   rw [e,List.length_append,List.length_cons]
   omega
theorem lay_any {w W:World} {p:Nat} {v:Value} {d:B8} {K:List (Nat × Obj)} (h:ES w W p v d K) {lv:Value} {l:List Int} (hl:∀ W',Mod (p::ob v) W W'→RdN W' lv l) (hs:d.length+10 * l.length≤1000000) (hm:∀ n,n∈l→n≤9223372036854775807) :
 Calls Tryz.prog 118 #[.pointer (some ⟨p,0,none⟩),lv] W fun e W'=>e=.returned (.tuple #[])∧∃ v',ES w W' p v' (d++numsB l) K:=by
 obtain ⟨q,c,rfl⟩:=(hl W (Mod.refl _ _)).len
 have hmx:=(hl W (Mod.refl _ _)).1
 have hmx':l.length≤9223372036854775807:=hmx
 have HL:=hide hl
 have HM:=hide hm
 clear hl hm hmx
 go_enter Tryz.func118,Tryz.ntmps118
 go_wp2_with fail
 go_loopw [8] (fun i wr=>LayRel w p d l K (ob v) W i wr) (fun i _=>l.length - (intOf i).toNat)
 case atStart=>exact ⟨0,v,rfl,Nat.zero_le _,by simpa [numsB] using h,fun x hx=>.inl hx,Mod.refl _ _⟩
 case round =>
  obtain ⟨k,v1,rfl,hk,he,ho,hmd⟩:=hrel
  by_cases hlt:k<l.length
  · obtain ⟨b,off,rfl,_,hc⟩:=(HL.out wr hmd).at_ k hlt
    have hle:=numsB_le (l.take k)
    have hn:=HM.out (l.getD k 0) (by simp [hlt])
    have htk:l.take (k+1)=l.take k++[l.getD k 0]:=by rw [List.take_add_one];simp [hlt]
    generalize l.getD k 0=n at hc hn htk
    have hnum:=num_any he.wr n hn (by rw [List.length_append];rw [List.length_take] at hle;omega)
    have HT:=hd4 htk he ho hmd
    have hszr:=hmd.size
    clear hle hn htk he ho hmd
    go_wp2_with (go_at_call 117;refine hnum.mono ?_;rintro e w2 hto
                 obtain ⟨rfl,v2,he2,ho2,hm2⟩:=HT.out.2.1.step hto
                 have H2:=hd3 he2 ho2 hm2
                 clear hnum hc hto he2 ho2 hm2)
    go_roundw
    case rel =>
     obtain ⟨he2,ho2,hm2⟩:=H2.out
     refine ⟨k+1,v2,by go_num,by omega,by rw [HT.out.1,numsB_snoc,← List.append_assoc];exact he2,fun x hx=>?_,HT.out.2.2.2.trans hm2 (fun x hx _=>hx) (fun x hx hlt2=>?_)⟩
     · rcases ho2 x hx with h1 | h1
       · exact HT.out.2.2.1 x h1
       · exact .inr (by omega)
     · rcases List.mem_cons.1 hx with rfl | hx
       · exact List.mem_cons_self
       · rcases HT.out.2.2.1 x hx with h1 | h1
         · exact List.mem_cons_of_mem _ h1
         · omega
    case measure=>simp [intOf];omega
  · obtain rfl:k=l.length:=by omega
    rw [List.take_length] at he
    have HE:=hide he
    clear he ho hmd
    go_wp2_with fail
    go_end0
    exact ⟨rfl,v1,HE.out⟩
theorem num_es {w W:World} {p:Nat} {v:Value} {d:B8} {K:List (Nat × Obj)} (h:ES w W p v d K) (n:Int) (hn:n≤9223372036854775807) (hs:d.length≤1000000) :
 Calls Tryz.prog 117 #[.pointer (some ⟨p,0,none⟩),.int .i64 n] W fun e W'=>e=.returned (.tuple #[])∧∃ v',ES w W' p v' (d++numB n) K:=by
 refine (num_any h.wr n hn hs).mono ?_
 intro e W' t
 obtain ⟨h1,v',h2,-,-⟩:=h.step t
 exact ⟨h1,v',h2⟩
theorem text_es {w W:World} {p:Nat} {v:Value} {d:B8} {K:List (Nat × Obj)} (h:ES w W p v d K) (s:ByteArray) (hn:s.size≤1000000) (hs:d.length≤1000000) :
 Calls Tryz.prog 119 #[.pointer (some ⟨p,0,none⟩),.string s] W fun e W'=>e=.returned (.tuple #[])∧∃ v',ES w W' p v' (d++textB s) K:=by
 refine (text_any h.wr s hn hs).mono ?_
 intro e W' t
 obtain ⟨h1,v',h2,-,-⟩:=h.step t
 exact ⟨h1,v',h2⟩
theorem es_row {w W:World} {p:Nat} {v:Value} {d:B8} {K:List (Nat × Obj)} (h:ES w W p v d K) {k:Nat} {l:List Int} (hk:(k,Obj.cells (l.map (Value.int .i64)).toArray 3 (0,0))∈K) (hl:l.length≤100000) :
 ∀ W',Mod (p::ob v) W W'→RdN W' (.slice (some ⟨k,0,none⟩) l.length l.length) l:=by
 intro W' m
 obtain ⟨k1,k2,k3⟩:=h.kp _ hk
 have hb:=m.at_ k1 (by simp [k2,k3])
 refine ⟨by unfold maxLen;omega,.inr ⟨k,0,l.length,rfl,lt_of_block hb,fun i hi=>?_⟩⟩
 rw [Nat.zero_add,blk_cell hb,List.getElem?_toArray]
 simp [hi]
theorem es_arg {w W:World} {p:Nat} {v:Value} {d:B8} {K:List (Nat × Obj)} (h:ES w W p v d K) {u:Value} {l:List Int} (hu:RdN w u l):∀ W',Mod (p::ob v) W W'→RdN W' u l :=
 fun W' m=>hu.mod (S:=[]) (h.md.trans m (by simp) (fun x hx hlt=>by
  rcases List.mem_cons.1 hx with rfl | hx
  · have:=h.nw.1;omega
  · have:=h.nw.2 x hx;omega)) (by simp)
end Go.Proofs.YtllljngpgjkdiaaGreatDoor
/-
  WALKS: layer 11: Encode. (Written by wip/gen_enc2.py.)
-/
namespace Go.Proofs.YtllljngpgjkdiaaGreatDoor
set_option maxRecDepth 100000
set_option maxHeartbeats 8000000
open Go.RowKit

theorem enc1 {r:Rcd} (h:r.kind=1):encB r=numB 1++numsB [r.next,r.boots]:=by unfold encB tailE;rw [if_pos h,h]
theorem enc2 {r:Rcd} (h:r.kind=2):encB r=numB 2++numB r.longest:=by unfold encB tailE;rw [if_neg (by omega),if_pos h,h]
theorem enc4 {r:Rcd} (h:r.kind=4∨r.kind=3):encB r=numB r.kind++grantE r.grant:=by unfold encB tailE;rw [if_neg (by omega),if_neg (by omega),if_pos h]
theorem enc5 {r:Rcd} (h:r.kind=5):encB r=numB 5++(numsB [r.id,(r.stamp.length:Int)]++numsB r.stamp):=by unfold encB tailE;rw [if_neg (by omega),if_neg (by omega),if_neg (by omega),if_pos h,h]
theorem enc6 {r:Rcd} (h:r.kind=6):encB r=numB 6++numB r.id:=by unfold encB tailE;rw [if_neg (by omega),if_neg (by omega),if_neg (by omega),if_neg (by omega),if_pos h,h]
theorem enc7 {r:Rcd} (h:r.kind=7):encB r=numB 7:=by unfold encB tailE;rw [if_neg (by omega),if_neg (by omega),if_neg (by omega),if_neg (by omega),if_neg (by omega),List.append_nil,h]
theorem may_end {r:Rcd} (h:mayB r=true) (h6:r.kind=6):countOk r.id:=by
 rw [may6 h6] at h
 simp only [Bool.and_eq_true,decide_eq_true_eq] at h
 exact h.1
structure E3 (w W:World) (p:Nat) (v:Value) (d:B8) (K:List (Nat × Obj)) (N:Nat):Prop where
 es:ES w W p v d K
 ln:d.length≤N
theorem ES.tail {w W:World} {p:Nat} {v:Value} {d:B8} {K:List (Nat × Obj)} {x:Nat × Obj} (h:ES w W p v d (x::K)):ES w W p v d K:=⟨h.wr,h.nw,h.md,fun q hq=>h.kp q (List.mem_cons_of_mem _ hq)⟩
theorem E3.alloc {w W:World} {p:Nat} {v:Value} {d:B8} {K:List (Nat × Obj)} {N:Nat} (h:E3 w W p v d K N) (o:Obj):E3 w (W.alloc o) p v d ((W.heap.size,o)::K) N:=⟨h.es.alloc o,h.ln⟩
theorem E3.eq {w W:World} {p:Nat} {v:Value} {d EB:B8} {K:List (Nat × Obj)} {N:Nat} (h:E3 w W p v d K N) (he:d=EB):E3 w W p v EB K N:=by subst he;exact h
theorem num_e3 {w W:World} {p:Nat} {v:Value} {d:B8} {K:List (Nat × Obj)} {N:Nat} (h:E3 w W p v d K N) (n:Int) (hn:n≤9223372036854775807) (hN:N≤1000000) :
 Calls Tryz.prog 117 #[.pointer (some ⟨p,0,none⟩),.int .i64 n] W fun e W'=>e=.returned (.tuple #[])∧∃ v',E3 w W' p v' (d++numB n) K (N+10):=by
 refine (num_es h.es n hn (Nat.le_trans h.ln hN)).mono ?_
 rintro e W' ⟨h1,v',h2⟩
 exact ⟨h1,v',h2,by have:=(numB_len n).2;have:=h.ln;rw [List.length_append];omega⟩
theorem text_e3 {w W:World} {p:Nat} {v:Value} {d:B8} {K:List (Nat × Obj)} {N:Nat} (h:E3 w W p v d K N) (s:ByteArray) (hn:s.size≤1000000) (hN:N≤1000000) :
 Calls Tryz.prog 119 #[.pointer (some ⟨p,0,none⟩),.string s] W fun e W'=>e=.returned (.tuple #[])∧∃ v',E3 w W' p v' (d++textB s) K (N+10+s.size):=by
 refine (text_es h.es s hn (Nat.le_trans h.ln hN)).mono ?_
 rintro e W' ⟨h1,v',h2⟩
 refine ⟨h1,v',h2,?_⟩
 have a:=(numB_len (s.size:Int)).2
 have b:=h.ln
 have c:s.data.toList.length=s.size:=by simp
 unfold textB
 rw [List.length_append,List.length_append]
 omega
theorem laya_e3 {w W:World} {p:Nat} {v:Value} {d:B8} {K:List (Nat × Obj)} {N:Nat} (h:E3 w W p v d K N) {lv:Value} {l:List Int} (hl:∀ W',Mod (p::ob v) W W'→RdN W' lv l) (hs:N+10 * l.length≤1000000) (hm:∀ n,n∈l→n≤9223372036854775807) :
 Calls Tryz.prog 118 #[.pointer (some ⟨p,0,none⟩),lv] W fun e W'=>e=.returned (.tuple #[])∧∃ v',E3 w W' p v' (d++numsB l) K (N+10 * l.length):=by
 refine (lay_any h.es hl (by have:=h.ln;omega) hm).mono ?_
 rintro e W' ⟨h1,v',h2⟩
 exact ⟨h1,v',h2,by have:=numsB_le l;have:=h.ln;rw [List.length_append];omega⟩
theorem layn_e3 {w W:World} {p:Nat} {v:Value} {d:B8} {K:List (Nat × Obj)} {N:Nat} (h:E3 w W p v d K N) (l:List Int) (hs:N+10 * l.length≤1000000) (hm:∀ n,n∈l→n≤9223372036854775807) :
 Calls Tryz.prog 118 #[.pointer (some ⟨p,0,none⟩),.slice (some ⟨W.heap.size,0,none⟩) l.length l.length] (W.alloc (.cells (l.map (Value.int .i64)).toArray 3 (0,0))) fun e W'=>e=.returned (.tuple #[])∧∃ v',E3 w W' p v' (d++numsB l) K (N+10 * l.length):=by
 refine (laya_e3 (h.alloc _) (es_row (h.alloc _).es List.mem_cons_self (by omega)) hs hm).mono ?_
 rintro e W' ⟨h1,v',h2⟩
 exact ⟨h1,v',h2.es.tail,h2.ln⟩
theorem lay2_e3 {w W:World} {p:Nat} {v:Value} {d:B8} {K:List (Nat × Obj)} {N:Nat} (h:E3 w W p v d K N) (a b:Int) (hs:N≤1000) (ha:a≤9223372036854775807) (hb:b≤9223372036854775807) :
 Calls Tryz.prog 118 #[.pointer (some ⟨p,0,none⟩),.slice (some ⟨W.heap.size,0,none⟩) 2 2] (W.alloc (.cells #[.int .i64 a,.int .i64 b] 3 (0,0))) fun e W'=>e=.returned (.tuple #[])∧∃ v',E3 w W' p v' (d++numsB [a,b]) K (N+20) :=
 layn_e3 h [a,b] (by simp only [List.length_cons,List.length_nil];omega) (by intro n hn;simp only [List.mem_cons,List.not_mem_nil,or_false] at hn;rcases hn with rfl | rfl <;> assumption)
theorem lay3_e3 {w W:World} {p:Nat} {v:Value} {d:B8} {K:List (Nat × Obj)} {N:Nat} (h:E3 w W p v d K N) (a b c:Int) (hs:N≤1000) (ha:a≤9223372036854775807) (hb:b≤9223372036854775807) (hc:c≤9223372036854775807) :
 Calls Tryz.prog 118 #[.pointer (some ⟨p,0,none⟩),.slice (some ⟨W.heap.size,0,none⟩) 3 3] (W.alloc (.cells #[.int .i64 a,.int .i64 b,.int .i64 c] 3 (0,0))) fun e W'=>e=.returned (.tuple #[])∧∃ v',E3 w W' p v' (d++numsB [a,b,c]) K (N+30) :=
 layn_e3 h [a,b,c] (by simp only [List.length_cons,List.length_nil];omega) (by intro n hn;simp only [List.mem_cons,List.not_mem_nil,or_false] at hn;rcases hn with rfl | rfl | rfl <;> assumption)
theorem E3.new {w w1:World} {k:Nat} {o:Obj} (hm:Mod [] w w1) (hb:w1.heap[k]?=some o):E3 w (w1.alloc (.cells #[.slice none 0 0] 171 (0,0))) w1.heap.size (.slice none 0 0) [] [(k,o)] 0:=by
 have g:Gr w1 (w1.alloc (.cells #[.slice none 0 0] 171 (0,0))):=(Gr.refl w1).alloc _
 refine ⟨⟨⟨heap_alloc_new w1 _,World.ownsRow_nil _ _ _ _,by simp [ob,Value.ownBlock]⟩,⟨hm.size,by simp [ob,Value.ownBlock]⟩,hm.gr g,fun q hq=>?_⟩,Nat.le_refl _⟩
 obtain rfl:q=(k,o):=by simpa using hq
 exact ⟨(g.mod []).at_ hb (by simp),fun e=>by have:=lt_of_block hb;simp only at e;omega,by simp [ob,Value.ownBlock]⟩
def EncQ (w:World) (M:Bool) (EB:B8) (e:Ending) (w':World):Prop :=
 (M=false∧e=.returned (.tuple #[.slice none 0 0,.int .i64 43])∧Mod [] w w') ∨
 (M=true∧∃ p c,e=.returned (.tuple #[.slice p EB.length c,.int .i64 0])∧RowY w' w.heap.size (.slice p EB.length c) EB∧Mod [] w w')
theorem EncQ.some {w W w':World} {EB D:B8} {p:Option Addr} {c:Nat} (he:D=EB) (hr:RowY w' W.heap.size (.slice p D.length c) D) (hm:Mod [] w W) (hm2:Mod [] W w'):EncQ w true EB (.returned (.tuple #[.slice p D.length c,.int .i64 0])) w':=by
 subst he
 exact .inr ⟨rfl,p,c,rfl,World.ownsRow.mono hr hm.size,hm.then hm2⟩
theorem encode_any {w:World} {r:Rcd} {sv tv:Value} (hg:RdN w sv r.grant.stamp) (hs:RdN w tv r.stamp) (hp:r.grant.path.size≤9223372036854775807) :
 Calls Tryz.prog 84 #[aggR r sv tv] w fun e w'=>EncQ w (mayB r) (encB r) e w':=by
 have hmay:=fun (W:World) (m:Mod [] w W)=>mayRec_any (r:=r) (hg.mod m (by simp)) (hs.mod m (by simp)) hp
 obtain ⟨M,hM⟩:∃ M,mayB r=M:=⟨_,rfl⟩
 rw [hM] at hmay ⊢
 obtain ⟨EB,hEB⟩:∃ EB,encB r=EB:=⟨_,rfl⟩
 rw [hEB]
 have hk:=fun h=>may_kind (r:=r) (hM.trans h)
 obtain ⟨kd,⟨gi,gh,gp,gm,gs,gt⟩,ri,rs,rn,rb,rl⟩:=r
 simp only at hg hs hp
 obtain ⟨q2,c2,rfl⟩:=hs.len
 obtain ⟨q1,c1,rfl⟩:=hg.len
 obtain ⟨W0,hW0⟩:∃ W0,W0=w.alloc (.cells #[.int .i64 kd,.int .i64 gi,.int .i64 gh,.string gp,.int .i64 gm,.slice q1 gs.length c1,.int .i64 gt,.int .i64 ri,.slice q2 rs.length c2,.int .i64 rn,.int .i64 rb,.int .i64 rl] 93 (0,0)):=⟨_,rfl⟩
 have hr0:W0.heap[w.heap.size]?=some (.cells #[.int .i64 kd,.int .i64 gi,.int .i64 gh,.string gp,.int .i64 gm,.slice q1 gs.length c1,.int .i64 gt,.int .i64 ri,.slice q2 rs.length c2,.int .i64 rn,.int .i64 rb,.int .i64 rl] 93 (0,0)):=by rw [hW0];exact heap_alloc_new w _
 have hm0:Mod [] w W0:=by rw [hW0];exact (Mod.refl _ _).alloc _
 have hy:=hmay W0 hm0
 have R0:=blk_cell hr0
 have HB:=hd3 (And.intro hr0 hm0) hg hs
 have HE:=hd2 hEB hM
 clear hmay hr0 hm0 hg hs hEB hM
 unfold aggR cellsR at hy ⊢
 simp only at hy ⊢
 cases M with
 | false =>
   go_enter Tryz.func84,Tryz.ntmps84
   go_upto_region 1 with fail
   rw [← hW0]
   clear hW0
   go_wp2_with (go_at_call 113;refine hy.mono ?_;rintro e w1 ⟨rfl,hm1⟩;have H1:=hide hm1;clear hm1 R0)
   go_ret2
   exact .inl ⟨rfl,rfl,HB.out.1.2.then H1.out⟩
 | true =>
 have hkd:kd=1∨kd=2∨kd=3∨kd=4∨kd=5∨kd=6∨kd=7:=by
  have:=hk rfl
  simp only at this
  omega
 have hkr:kd≤9223372036854775807:=by omega
 clear hk
 go_enter Tryz.func84,Tryz.ntmps84
 go_upto_region 1 with fail
 rw [← hW0]
 clear hW0
 go_upto_region 3 with (go_at_call 113;refine hy.mono ?_;rintro e w1 ⟨rfl,hm1⟩
                        have hws:=hide (E3.new (HB.out.1.2.then hm1) (hm1.at_ HB.out.1.1 (by simp)))
                        clear hm1 R0 hy)
 go_upto_region 4 with fail
 obtain ⟨W1,hW1⟩:∃ W1,w1.alloc (.cells #[.slice none 0 0] 171 (0,0))=W1:=⟨_,rfl⟩
 rw [hW1] at hws ⊢
 clear hW1
 have CR:=(hws.out.es.box (k:=w.heap.size) List.mem_cons_self).1
 go_upto_region 6 with (go_at_call 117;refine (num_e3 hws.out kd hkr (by omega)).mono ?_;rintro e W2 ⟨rfl,v2,h2⟩;clear hws CR;have hws:=hide h2;have CR:=(h2.es.box (k:=w.heap.size) List.mem_cons_self).1;clear h2)
 have hwg:=hws.out.alloc (.cells #[.int .i64 gi,.int .i64 gh,.string gp,.int .i64 gm,.slice q1 gs.length c1,.int .i64 gt] 35 (0,0))
 obtain ⟨W3,hW3⟩:∃ W3,W2.alloc (.cells #[.int .i64 gi,.int .i64 gh,.string gp,.int .i64 gm,.slice q1 gs.length c1,.int .i64 gt] 35 (0,0))=W3:=⟨_,rfl⟩
 rw [hW3] at hwg ⊢
 clear hW3 hws CR
 have hws:=hide hwg
 have CR:=(hwg.es.box (k:=w.heap.size) (List.mem_cons_of_mem _ List.mem_cons_self)).1
 have CG:=(hwg.es.box List.mem_cons_self).1
 clear hwg
 rcases hkd with rfl | rfl | rfl | rfl | rfl | rfl | rfl
 · skip
   have t1:=hide trivial
   have t9:=hide trivial
   have hf:=heads_iff.1 (may_heads HE.out.2 rfl)
   simp only at hf
   have hE:=HE.out.1
   rw [enc1 rfl] at hE
   have HEE:=hide hE
   clear hE
   go_wp2_with (first
    | (have tk:=t1;go_at_call 118;refine (lay2_e3 hws.out (rn) (rb) (by omega) (by omega) (by omega)).mono ?_;rintro e W2 ⟨rfl,v2,h2⟩;clear tk;clear hws CR CG;have hws:=hide h2;have CR:=(h2.es.box (k:=w.heap.size) (List.mem_cons_of_mem _ List.mem_cons_self)).1;have CG:=(h2.es.box List.mem_cons_self).1;clear h2 t1)
    | (have tk:=t9;go_at_call 120;have hws3:=hide (hws.out.eq (EB:=EB) (by rw [← HEE.out];first | done | rfl | (simp [grantE,numsB,textB];done)));refine (bytes_any hws3.out.es.wr (by have:=hws3.out.ln;omega)).mono ?_;rintro e W2 ⟨p2,c2',rfl,hrow,hmd⟩;clear tk t9 CR CG;have hws2:=hd3 hrow hws3.out.es.md hmd;clear hrow hmd hws hws3)
    | fail)
   go_ret2
   obtain ⟨hrow,m1,m2⟩:=hws2.out
   exact EncQ.some rfl hrow m1 m2
 · skip
   have t1:=hide trivial
   have t9:=hide trivial
   have hf:=may_longest HE.out.2 rfl
   unfold legalT at hf
   simp only at hf
   have hE:=HE.out.1
   rw [enc2 rfl] at hE
   have HEE:=hide hE
   clear hE
   go_wp2_with (first
    | (have tk:=t1;go_at_call 117;refine (num_e3 hws.out rl (by omega) (by omega)).mono ?_;rintro e W2 ⟨rfl,v2,h2⟩;clear tk;clear hws CR CG;have hws:=hide h2;have CR:=(h2.es.box (k:=w.heap.size) (List.mem_cons_of_mem _ List.mem_cons_self)).1;have CG:=(h2.es.box List.mem_cons_self).1;clear h2 t1)
    | (have tk:=t9;go_at_call 120;have hws3:=hide (hws.out.eq (EB:=EB) (by rw [← HEE.out];first | done | rfl | (simp [grantE,numsB,textB];done)));refine (bytes_any hws3.out.es.wr (by have:=hws3.out.ln;omega)).mono ?_;rintro e W2 ⟨p2,c2',rfl,hrow,hmd⟩;clear tk t9 CR CG;have hws2:=hd3 hrow hws3.out.es.md hmd;clear hrow hmd hws hws3)
    | fail)
   go_ret2
   obtain ⟨hrow,m1,m2⟩:=hws2.out
   exact EncQ.some rfl hrow m1 m2
 · skip
   have t1:=hide trivial
   have t2:=hide trivial
   have t3:=hide trivial
   have t4:=hide trivial
   have t9:=hide trivial
   have hf:=(may_grant HE.out.2 (.inr rfl)).1
   obtain ⟨hf1,hf2,hf3,hf4,hf5,hf6,hf7⟩:=grant_iff.1 hf
   have hst:=(stm_range hf5).1
   have hpl:gp.size≤27:=by have:=pathOk_len hf3;simpa using this
   unfold countOk at hf1
   unfold legalT at hf7
   simp only at hf1 hf2 hf4 hf5 hf6 hf7 hst
   clear hf hf3 hf6
   have hE:=HE.out.1
   rw [enc4 (.inr rfl)] at hE
   have HEE:=hide hE
   clear hE
   go_wp2_with (first
    | (have tk:=t1;go_at_call 118;refine (lay2_e3 hws.out (gi) (gh) (by omega) (by omega) (by omega)).mono ?_;rintro e W2 ⟨rfl,v2,h2⟩;clear tk;clear hws CR CG;have hws:=hide h2;have CR:=(h2.es.box (k:=w.heap.size) (List.mem_cons_of_mem _ List.mem_cons_self)).1;have CG:=(h2.es.box List.mem_cons_self).1;clear h2 t1)
    | (have tk:=t2;go_at_call 119;refine (text_e3 hws.out gp (by omega) (by omega)).mono ?_;rintro e W2 ⟨rfl,v2,h2⟩;clear tk;clear hws CR CG;have hws:=hide h2;have CR:=(h2.es.box (k:=w.heap.size) (List.mem_cons_of_mem _ List.mem_cons_self)).1;have CG:=(h2.es.box List.mem_cons_self).1;clear h2 t2)
    | (have tk:=t3;go_at_call 118;refine (lay3_e3 hws.out (gm) (gt) (gs.length:Int) (by omega) (by omega) (by omega) (by omega)).mono ?_;rintro e W2 ⟨rfl,v2,h2⟩;clear tk;clear hws CR CG;have hws:=hide h2;have CR:=(h2.es.box (k:=w.heap.size) (List.mem_cons_of_mem _ List.mem_cons_self)).1;have CG:=(h2.es.box List.mem_cons_self).1;clear h2 t3)
    | (have tk:=t4;go_at_call 118;refine (laya_e3 hws.out (es_arg hws.out.es HB.out.2.1) (by omega) (fun n hn=>by have:=(stm_range hf5).2 n hn;omega)).mono ?_;rintro e W2 ⟨rfl,v2,h2⟩;clear tk;clear hws CR CG;have hws:=hide h2;have CR:=(h2.es.box (k:=w.heap.size) (List.mem_cons_of_mem _ List.mem_cons_self)).1;have CG:=(h2.es.box List.mem_cons_self).1;clear h2 t4)
    | (have tk:=t9;go_at_call 120;have hws3:=hide (hws.out.eq (EB:=EB) (by rw [← HEE.out];first | done | rfl | (simp [grantE,numsB,textB];done)));refine (bytes_any hws3.out.es.wr (by have:=hws3.out.ln;omega)).mono ?_;rintro e W2 ⟨p2,c2',rfl,hrow,hmd⟩;clear tk t9 CR CG;have hws2:=hd3 hrow hws3.out.es.md hmd;clear hrow hmd hws hws3)
    | fail)
   go_ret2
   obtain ⟨hrow,m1,m2⟩:=hws2.out
   exact EncQ.some rfl hrow m1 m2
 · skip
   have t1:=hide trivial
   have t2:=hide trivial
   have t3:=hide trivial
   have t4:=hide trivial
   have t9:=hide trivial
   have hf:=(may_grant HE.out.2 (.inl rfl)).1
   obtain ⟨hf1,hf2,hf3,hf4,hf5,hf6,hf7⟩:=grant_iff.1 hf
   have hst:=(stm_range hf5).1
   have hpl:gp.size≤27:=by have:=pathOk_len hf3;simpa using this
   unfold countOk at hf1
   unfold legalT at hf7
   simp only at hf1 hf2 hf4 hf5 hf6 hf7 hst
   clear hf hf3 hf6
   have hE:=HE.out.1
   rw [enc4 (.inl rfl)] at hE
   have HEE:=hide hE
   clear hE
   go_wp2_with (first
    | (have tk:=t1;go_at_call 118;refine (lay2_e3 hws.out (gi) (gh) (by omega) (by omega) (by omega)).mono ?_;rintro e W2 ⟨rfl,v2,h2⟩;clear tk;clear hws CR CG;have hws:=hide h2;have CR:=(h2.es.box (k:=w.heap.size) (List.mem_cons_of_mem _ List.mem_cons_self)).1;have CG:=(h2.es.box List.mem_cons_self).1;clear h2 t1)
    | (have tk:=t2;go_at_call 119;refine (text_e3 hws.out gp (by omega) (by omega)).mono ?_;rintro e W2 ⟨rfl,v2,h2⟩;clear tk;clear hws CR CG;have hws:=hide h2;have CR:=(h2.es.box (k:=w.heap.size) (List.mem_cons_of_mem _ List.mem_cons_self)).1;have CG:=(h2.es.box List.mem_cons_self).1;clear h2 t2)
    | (have tk:=t3;go_at_call 118;refine (lay3_e3 hws.out (gm) (gt) (gs.length:Int) (by omega) (by omega) (by omega) (by omega)).mono ?_;rintro e W2 ⟨rfl,v2,h2⟩;clear tk;clear hws CR CG;have hws:=hide h2;have CR:=(h2.es.box (k:=w.heap.size) (List.mem_cons_of_mem _ List.mem_cons_self)).1;have CG:=(h2.es.box List.mem_cons_self).1;clear h2 t3)
    | (have tk:=t4;go_at_call 118;refine (laya_e3 hws.out (es_arg hws.out.es HB.out.2.1) (by omega) (fun n hn=>by have:=(stm_range hf5).2 n hn;omega)).mono ?_;rintro e W2 ⟨rfl,v2,h2⟩;clear tk;clear hws CR CG;have hws:=hide h2;have CR:=(h2.es.box (k:=w.heap.size) (List.mem_cons_of_mem _ List.mem_cons_self)).1;have CG:=(h2.es.box List.mem_cons_self).1;clear h2 t4)
    | (have tk:=t9;go_at_call 120;have hws3:=hide (hws.out.eq (EB:=EB) (by rw [← HEE.out];first | done | rfl | (simp [grantE,numsB,textB];done)));refine (bytes_any hws3.out.es.wr (by have:=hws3.out.ln;omega)).mono ?_;rintro e W2 ⟨p2,c2',rfl,hrow,hmd⟩;clear tk t9 CR CG;have hws2:=hd3 hrow hws3.out.es.md hmd;clear hrow hmd hws hws3)
    | fail)
   go_ret2
   obtain ⟨hrow,m1,m2⟩:=hws2.out
   exact EncQ.some rfl hrow m1 m2
 · skip
   have t1:=hide trivial
   have t2:=hide trivial
   have t9:=hide trivial
   have hf:=may_fresh HE.out.2 rfl
   have hst:=(stm_range hf.2).1
   have hid:=hf.1
   unfold countOk at hid
   simp only at hid hst hf
   have hE:=HE.out.1
   rw [enc5 rfl] at hE
   have HEE:=hide hE
   clear hE
   go_wp2_with (first
    | (have tk:=t1;go_at_call 118;refine (lay2_e3 hws.out (ri) (rs.length:Int) (by omega) (by omega) (by omega)).mono ?_;rintro e W2 ⟨rfl,v2,h2⟩;clear tk;clear hws CR CG;have hws:=hide h2;have CR:=(h2.es.box (k:=w.heap.size) (List.mem_cons_of_mem _ List.mem_cons_self)).1;have CG:=(h2.es.box List.mem_cons_self).1;clear h2 t1)
    | (have tk:=t2;go_at_call 118;refine (laya_e3 hws.out (es_arg hws.out.es HB.out.2.2) (by omega) (fun n hn=>by have:=(stm_range hf.2).2 n hn;omega)).mono ?_;rintro e W2 ⟨rfl,v2,h2⟩;clear tk;clear hws CR CG;have hws:=hide h2;have CR:=(h2.es.box (k:=w.heap.size) (List.mem_cons_of_mem _ List.mem_cons_self)).1;have CG:=(h2.es.box List.mem_cons_self).1;clear h2 t2)
    | (have tk:=t9;go_at_call 120;have hws3:=hide (hws.out.eq (EB:=EB) (by rw [← HEE.out];first | done | rfl | (simp [grantE,numsB,textB];done)));refine (bytes_any hws3.out.es.wr (by have:=hws3.out.ln;omega)).mono ?_;rintro e W2 ⟨p2,c2',rfl,hrow,hmd⟩;clear tk t9 CR CG;have hws2:=hd3 hrow hws3.out.es.md hmd;clear hrow hmd hws hws3)
    | fail)
   go_ret2
   obtain ⟨hrow,m1,m2⟩:=hws2.out
   exact EncQ.some rfl hrow m1 m2
 · skip
   have t1:=hide trivial
   have t9:=hide trivial
   have hid:=may_end HE.out.2 rfl
   unfold countOk at hid
   simp only at hid
   have hE:=HE.out.1
   rw [enc6 rfl] at hE
   have HEE:=hide hE
   clear hE
   go_wp2_with (first
    | (have tk:=t1;go_at_call 117;refine (num_e3 hws.out ri (by omega) (by omega)).mono ?_;rintro e W2 ⟨rfl,v2,h2⟩;clear tk;clear hws CR CG;have hws:=hide h2;have CR:=(h2.es.box (k:=w.heap.size) (List.mem_cons_of_mem _ List.mem_cons_self)).1;have CG:=(h2.es.box List.mem_cons_self).1;clear h2 t1)
    | (have tk:=t9;go_at_call 120;have hws3:=hide (hws.out.eq (EB:=EB) (by rw [← HEE.out];first | done | rfl | (simp [grantE,numsB,textB];done)));refine (bytes_any hws3.out.es.wr (by have:=hws3.out.ln;omega)).mono ?_;rintro e W2 ⟨p2,c2',rfl,hrow,hmd⟩;clear tk t9 CR CG;have hws2:=hd3 hrow hws3.out.es.md hmd;clear hrow hmd hws hws3)
    | fail)
   go_ret2
   obtain ⟨hrow,m1,m2⟩:=hws2.out
   exact EncQ.some rfl hrow m1 m2
 · skip
   have t9:=hide trivial
   have hE:=HE.out.1
   rw [enc7 rfl] at hE
   have HEE:=hide hE
   clear hE
   go_wp2_with (first
    | (have tk:=t9;go_at_call 120;have hws3:=hide (hws.out.eq (EB:=EB) (by rw [← HEE.out];first | done | rfl | (simp [grantE,numsB,textB];done)));refine (bytes_any hws3.out.es.wr (by have:=hws3.out.ln;omega)).mono ?_;rintro e W2 ⟨p2,c2',rfl,hrow,hmd⟩;clear tk t9 CR CG;have hws2:=hd3 hrow hws3.out.es.md hmd;clear hrow hmd hws hws3)
    | fail)
   go_ret2
   obtain ⟨hrow,m1,m2⟩:=hws2.out
   exact EncQ.some rfl hrow m1 m2
end Go.Proofs.YtllljngpgjkdiaaGreatDoor
/-
  WALKS: layer 11: a grant more behind grants of one's own; a book copied.
-/
namespace Go.Proofs.YtllljngpgjkdiaaGreatDoor
set_option maxRecDepth 100000
set_option maxHeartbeats 2000000
open Go.RowKit

theorem info_grant:(Tryz.prog.info? 35).map (fun i=>(i.zero,i.size,i.bytes))=some (some (aggG Grt.zero (.slice none 0 0)),6,72):=by kernel_rfl
theorem one_G {g:Grt} {sv:Value} (hs:sv.oneCell'=true):∀ u∈cellsG g sv,u.oneCell'=true:=by
 intro u hu
 simp only [cellsG,List.mem_cons,List.not_mem_nil,or_false] at hu
 rcases hu with rfl | rfl | rfl | rfl | rfl | rfl <;> first | rfl | exact hs
theorem one_row {w:World} {base:Nat} {T:TypeId} {sz n:Nat} {v:Value} {xs:List Value} (h:w.ownsRow base T sz v n xs):v.oneCell'=true:=by
 rcases h.2 with ⟨rfl,_⟩ | ⟨g,cap,cur,rfl,_⟩ <;> rfl
theorem GrM.app {w w':World} {base:Nat} {u u':Value} {sl:List (Grt × Value)} {g:Grt} {sv:Value} (h:GrM w base u sl) (hst:w.ownsRow base 3 1 sv g.stamp.length (g.stamp.map (Value.int .i64))) (hap:∀ k,k∈ob sv→k ∉ ob u)
 (hr:w'.ownsRow base 35 6 u' (sl.length+1) (sl.flatMap encG++cellsG g sv)) (hm:Mod (ob u) w w') (hu:∀ k,k∈ob u'→k∈ob u∨w.heap.size≤k):GrM w' base u' (sl++[(g,sv)]):=by
 refine ⟨by rw [List.length_append,List.flatMap_append];simpa [encG] using hr,fun p hp=>?_⟩
 have key:w.ownsRow base 3 1 p.2 p.1.stamp.length (p.1.stamp.map (Value.int .i64))∧∀ k,k∈ob p.2→k ∉ ob u:=by
  rcases List.mem_append.1 hp with hp | hp
  · exact h.st p hp
  · obtain rfl:p=(g,sv):=by simpa using hp
    exact ⟨hst,hap⟩
 refine ⟨hm.row key.1 (fun k hk=>key.2 k (by simpa [ob] using hk)),fun k hk hk2=>?_⟩
 rcases hu k hk2 with e | e
 · exact key.2 k hk e
 · have:=(ob_of_row key.1 k hk).2
   omega
theorem wpList_app_gr {ops:Array Oper} {rest:List Oper} {o:Oper} {a:Act} {Q:Exit→Act→World→Prop} (w:World) (hgd:o.guard=none) (s x:Operand)
 (ho:o.op=.call { callee:=.builtin .append,args:=#[s,x],argTypes:=#[73,73] })
 {base:Nat} {u:Value} {sl:List (Grt × Value)} (hs:a.eval s=u) (h:GrM w base u sl) (hn:sl.length≤1000000) (hbase:base≤w.heap.size) {k:Nat} (hx:a.eval x=.slice (some ⟨k,0,none⟩) 1 1) {g:Grt} {sv:Value}
 (hk:w.heap[k]?=some (.cells (cellsG g sv).toArray 35 (0,0))) (hst:w.ownsRow base 3 1 sv g.stamp.length (g.stamp.map (Value.int .i64))) (hap:∀ k,k∈ob sv→k ∉ ob u)
 (hK:∀ u' w',GrM w' base u' (sl++[(g,sv)])→Mod (ob u) w w'→(∃ p c,u'=.slice p (sl.length+1) c)→(∀ k,k∈ob u'→k∈ob u∨w.heap.size≤k)→wpList Tryz.prog ops Q rest (a.put o.dst u') w'):wpList Tryz.prog ops Q (o::rest) a w:=by
 obtain ⟨i0,hi0,hz0,hs0,hb0⟩:=info_parts info_grant
 refine wpList_append_lies w hgd s x 73 ho base 35 i0 _ 6 72 Tryz.underlying73 hi0 hz0 hs0 hb0 rfl (by decide) _ _ _ hs h.row ⟨k,0,none⟩ 1 1 (cellsG g sv) hx rfl (World.news_of_block (cs:=(cellsG g sv).toArray) (t:=35) (fr:=(0,0)) hk) (one_G (one_row hst)) (by decide) (by unfold maxLen;omega) (by omega) hbase ?_
 intro g' cap w' hr hg hat
 have hm:Mod (ob u) w w':=(Mod.refl (ob u) w).grown hg (fun k e _=>by simp [ob,e])
 have hu:∀ k,k∈ob (.slice (some ⟨g',0,none⟩) (sl.length+1) cap)→k∈ob u∨w.heap.size≤k:=fun k hk=>by
  have:k=g':=by simpa [ob,Value.ownBlock] using hk
  subst this
  rcases hat with e | e
  · exact .inl (by simp [ob,e])
  · exact .inr (by omega)
 exact hK _ _ (h.app hst hap hr hm hu) hm ⟨_,_,rfl⟩ hu
def CopRel (W1:World) (base:Nat) (lv:List (Grt × Value)) (u i:Value) (wr:World):Prop :=
 ∃ (k:Nat) (sl:List (Grt × Value)),i=.int .i64 (k:Int)∧k≤lv.length∧sl.map Prod.fst=(lv.take k).map Prod.fst∧GrM wr base u sl∧Mod [] W1 wr
theorem copied_any {w:World} {base:Nat} {gv:Value} {b:Bk} {lv:List (Grt × Value)} (h:BkM w base gv b lv) (hn:lv.length≤1000) (hst:∀ p,p∈lv→p.1.stamp.length≤1000000) :
 Calls Tryz.prog 115 #[aggB b gv] w fun e w'=>∃ gv' lv',e=.returned (aggB b gv')∧BkM w' w.heap.size gv' b lv'∧Mod [] w w':=by
 obtain ⟨nx,bo,lo,gs⟩:=b
 have heq:gs=lv.map Prod.fst:=h.eq
 obtain ⟨q,c,rfl,hmx⟩:=h.gr.shape
 have hmx':lv.length≤9223372036854775807:=hmx
 unfold aggB
 simp only
 obtain ⟨W1,hW1⟩:∃ W1,W1=(w.alloc (.cells #[.int .i64 nx,.int .i64 bo,.int .i64 lo,.slice q lv.length c] 75 (0,0))).alloc (.cells #[.int .i64 0,.int .i64 0,.int .i64 0,.slice none 0 0] 75 (0,0)):=⟨_,rfl⟩
 have hb0:W1.heap[w.heap.size]?=some (.cells #[.int .i64 nx,.int .i64 bo,.int .i64 lo,.slice q lv.length c] 75 (0,0)):=by rw [hW1];exact blk_alloc (heap_alloc_new w _) _
 have hb1:W1.heap[w.heap.size+1]?=some (.cells #[.int .i64 0,.int .i64 0,.int .i64 0,.slice none 0 0] 75 (0,0)):=by
  rw [hW1]
  have:=heap_alloc_new (w.alloc (.cells #[.int .i64 nx,.int .i64 bo,.int .i64 lo,.slice q lv.length c] 75 (0,0))) (.cells #[.int .i64 0,.int .i64 0,.int .i64 0,.slice none 0 0] 75 (0,0))
  simpa using this
 have hgr:Gr w W1:=by rw [hW1];exact ((Gr.refl w).alloc _).alloc _
 have hsz:W1.heap.size=w.heap.size+2:=by rw [hW1];simp
 have a3:W1.cell? ⟨w.heap.size,3,none⟩=some (.slice q lv.length c):=blk_cell hb0 3
 have HH:=hd3 h hst heq
 have HB:=hd4 hb0 hb1 hgr hsz
 clear h hst heq hb0 hb1 hgr hsz hmx
 go_enter Tryz.func115,Tryz.ntmps115
 go_upto_region 1 with fail
 rw [← hW1]
 clear hW1
 go_wp2_with fail
 go_loopw [3,9] (fun u i wr=>CopRel W1 (w.heap.size+2) lv u i wr) (fun _ i _=>lv.length - (intOf i).toNat)
 case atStart=>exact ⟨0,[],rfl,Nat.zero_le _,rfl,GrM.nil _ _,Mod.refl _ _⟩
 case round =>
  obtain ⟨k,sl,rfl,hk,hmap,hgm,hm⟩:=hrel
  have hsl:sl.length=k:=by have:=congrArg List.length hmap;simp at this;omega
  by_cases hlt:k<lv.length
  · obtain ⟨bb,rfl,hbb,hb1,hc,hf,hrd⟩:=((HH.out.1.gr.gr HB.out.2.2.1).mod hm (by simp)).at_ k hlt
    have hls:=HH.out.2.1 _ (show lv.getD k default∈lv by simp [hlt])
    have htk:(lv.take (k+1)).map Prod.fst=(lv.take k).map Prod.fst++[(lv.getD k default).1]:=by rw [List.take_add_one,List.map_append];simp [hlt]
    generalize lv.getD k default=pr at hc hrd hls htk
    obtain ⟨⟨id,ho,pa,mo,st,te⟩,sv⟩:=pr
    simp only at hrd hls htk
    have c0:=hc 0 (by decide)
    have c1:=hc 1 (by decide)
    have c2:=hc 2 (by decide)
    have c3:=hc 3 (by decide)
    have c4:=hc 4 (by decide)
    have c5:=hc 5 (by decide)
    simp [encG,cellsG] at c0 c1 c2 c3 c4 c5
    have ht:=twinG_any (g:=⟨id,ho,pa,mo,st,te⟩) (hrd.gr ((Gr.refl wr).alloc (.cells #[.int .i64 id,.int .i64 ho,.string pa,.int .i64 mo,sv,.int .i64 te] 35))) hls
    obtain ⟨qs,cs,rfl⟩:=hrd.len
    unfold aggG cellsG NewG at ht
    simp only at ht
    have HM:=hd5 hm hgm htk hmap hsl
    have hszr:=hm.size
    clear hc hrd hls htk hm hgm hmap hsl
    go_wp2_with fail
    refine ht.mono ?_
    rintro e w2 ⟨v',rfl,hr2,hm2⟩
    have hgro:=HM.out.2.1.row
    have hap:∀ k,k∈ob v'→k ∉ ob u3:=fun k hk hk2=>by
     have h1:=(ob_of_row hr2 k hk).1
     have h2:=(ob_of_row hgro k hk2).2
     simp at h1
     omega
    have hszb:=HB.out.2.2.2
    have hbase2:w.heap.size+2≤w2.heap.size:=by have:=hm2.size;simp at this;omega
    have hks:sl.length=k:=HM.out.2.2.2.2
    have hst0:=World.ownsRow.mono hr2 (show w.heap.size+2≤_ by simp;omega)
    have hgm0:=(HM.out.2.1.gr ((Gr.refl wr).alloc _)).mod hm2 (by simp)
    obtain ⟨p',c',hv'⟩:=(rdN_of_row hr2).len
    subst hv'
    obtain ⟨W3,hW3⟩:∃ W3,W3=w2.alloc (.cells #[.int .i64 id,.int .i64 ho,.string pa,.int .i64 mo,.slice p' st.length c',.int .i64 te] 35 (0,0)):=⟨_,rfl⟩
    have hk3:W3.heap[w2.heap.size]?=some (.cells (cellsG ⟨id,ho,pa,mo,st,te⟩ (.slice p' st.length c')).toArray 35 (0,0)):=by rw [hW3];exact heap_alloc_new w2 _
    have g3:Gr w2 W3:=by rw [hW3];exact (Gr.refl w2).alloc _
    have hgm2:=hgm0.gr g3
    have hst3:=(g3.mod []).row hst0 (by simp)
    have hsz3:w2.heap.size<W3.heap.size:=lt_of_block hk3
    have HN:=hd3 hm2 hgro g3
    have HG2:=hd4 hgm2 hst3 hap hk3
    clear ht c0 c1 c2 c3 c4 c5 hr2 hm2 hgro hst0 hgm0 hgm2 hst3 hap a3 hk3 g3
    simp only [aggG,cellsG]
    go_wp2_with (
     at_builtin
     rw [← hW3]
     refine wpList_app_gr (g:=⟨id,ho,pa,mo,st,te⟩) (sv:=.slice p' st.length c') (sl:=sl) (base:=w.heap.size+2) W3 rfl _ _ rfl rfl HG2.out.1 (by omega) (by omega) (k:=w2.heap.size) rfl HG2.out.2.2.2 HG2.out.2.1 HG2.out.2.2.1 ?_
     rintro u' w3 hgm3 hm3 ⟨p3,c3,rfl⟩ -)
    go_roundw
    case rel =>
     refine ⟨k+1,sl++[(⟨id,ho,pa,mo,st,te⟩,.slice p' st.length c')],by go_num,by omega,?_,(by rw [← hks];exact hgm3),?_⟩
     · rw [HM.out.2.2.1,List.map_append,HM.out.2.2.2.1];rfl
     · refine (((HM.out.1.alloc _).then HN.out.1).gr HN.out.2.2).trans hm3 (by simp) (fun x hx hlt=>?_)
       have:=(ob_of_row HN.out.2.1 x hx).1
       omega
    case measure=>simp [intOf];omega
  · obtain rfl:k=lv.length:=by omega
    obtain ⟨p3,c3,hu,_⟩:=hgm.shape
    rw [hsl] at hu
    subst hu
    obtain ⟨hb0,hb1,hgr,hsz⟩:=HB.out
    have d0:=hm.at_ hb0 (by simp)
    have d1:=hm.at_ hb1 (by simp)
    have e0:wr.cell? ⟨w.heap.size,0,none⟩=some (.int .i64 nx):=blk_cell d0 0
    have e1:wr.cell? ⟨w.heap.size,1,none⟩=some (.int .i64 bo):=blk_cell d0 1
    have e2:wr.cell? ⟨w.heap.size,2,none⟩=some (.int .i64 lo):=blk_cell d0 2
    have e3:wr.cell? ⟨w.heap.size,3,none⟩=some (.slice q lv.length c):=blk_cell d0 3
    have g0:wr.cell? ⟨w.heap.size+1,0,none⟩=some (.int .i64 0):=blk_cell d1 0
    have g1:wr.cell? ⟨w.heap.size+1,1,none⟩=some (.int .i64 0):=blk_cell d1 1
    have g2:wr.cell? ⟨w.heap.size+1,2,none⟩=some (.int .i64 0):=blk_cell d1 2
    have g3:wr.cell? ⟨w.heap.size+1,3,none⟩=some (.slice none 0 0):=blk_cell d1 3
    have F0:=blk_free d0
    have F1:=blk_free d1
    have hl0:w.heap.size<wr.heap.size:=lt_of_block d0
    have hl1:w.heap.size+1<wr.heap.size:=lt_of_block d1
    have HE:=hd5 d0 d1 hm hgm hmap
    have HS:=hd2 hgr hsz
    clear hb0 hb1 hgr hsz d0 d1 hm hgm hmap a3 hsl
    go_wp2_with fail
    obtain ⟨d0,d1,hm,hgm,hmap⟩:=HE.out
    have hsz:=HS.out.2
    have q':=stL_all (blk_other d1 (a:=⟨w.heap.size,3,none⟩) (by simp) (.slice p3 lv.length c3)) [.int .i64 nx,.int .i64 bo,.int .i64 lo,.slice p3 lv.length c3] rfl
    have qm:=stL_mod (S:=[w.heap.size,w.heap.size+1]) (w0:=wr) (r:=w.heap.size+1) (fun _=>by simp) [.int .i64 nx,.int .i64 bo,.int .i64 lo,.slice p3 lv.length c3] 0 _ ((Mod.refl [w.heap.size,w.heap.size+1] wr).setCell (p:=⟨w.heap.size,3,none⟩) (fun _=>by simp) (.slice p3 lv.length c3))
    refine bodyPost_ret (v:=.agg #[.int .i64 nx,.int .i64 bo,.int .i64 lo,.slice p3 lv.length c3]) (res_cell1 Tryz.results115 _ _ rfl q' Tryz.isAgg75 Tryz.sizeOf75) rfl ⟨_,sl,rfl,⟨?_,?_⟩,?_⟩
    · exact (hgm.mod qm (fun k hk=>by simp at hk;omega)).base (by omega)
    · have:=HH.out.2.2
      simp only
      rw [this,hmap,List.take_length]
    · exact ((HS.out.1.mod []).then hm).trans qm (by simp) (fun x hx hlt=>by simp at hx;omega)
end Go.Proofs.YtllljngpgjkdiaaGreatDoor
/-
  WALKS: layer 11: counters: a stamp taken up.
-/
namespace Go.Proofs.YtllljngpgjkdiaaGreatDoor
set_option maxRecDepth 100000
set_option maxHeartbeats 1000000
open Go.RowKit

theorem readK_snoc:∀ (k:Nat) (s:RS),readK (k+1) s=((readK k s).1++[(nxt (readK k s).2).1],(nxt (readK k s).2).2)
 | 0,s=>rfl
 | k+1,s=>by
   have ih:=readK_snoc k (nxt s).2
   conv=>lhs;rw [readK]
   rw [ih]
   rfl
theorem readK_len:∀ (k:Nat) (s:RS),(readK k s).1.length=k
 | 0,s=>rfl
 | k+1,s=>by simp [readK,readK_len k]
theorem nxt_ge (s:RS):0≤(nxt s).1∧(nxt s).1≤9223372036854775807:=by
 unfold nxt rdNum
 split
 · have:=(takeN_bound s.1).1
   simp only
   omega
 · exact ⟨Int.le_refl _,by show (0:Int)≤_;decide⟩
theorem wpList_app_int {ops:Array Oper} {rest:List Oper} {o:Oper} {a:Act} {Q:Exit→Act→World→Prop} (w:World) (hgd:o.guard=none) (s x:Operand)
 (ho:o.op=.call { callee:=.builtin .append,args:=#[s,x],argTypes:=#[23,23] })
 {base:Nat} {u:Value} {l:List Int} (hs:a.eval s=u) (h:w.ownsRow base 3 1 u l.length (l.map (Value.int .i64))) (hn:l.length≤1000000) (hbase:base≤w.heap.size) {k:Nat} (hx:a.eval x=.slice (some ⟨k,0,none⟩) 1 1) {n:Int}
 (hk:w.heap[k]?=some (.cells #[.int .i64 n] 3 (0,0)))
 (hK:∀ u' w',w'.ownsRow base 3 1 u' (l++[n]).length ((l++[n]).map (Value.int .i64))→Mod (ob u) w w'→(∃ p c,u'=.slice p (l.length+1) c)→(∀ k,k∈ob u'→k∈ob u∨w.heap.size≤k)→wpList Tryz.prog ops Q rest (a.put o.dst u') w'):wpList Tryz.prog ops Q (o::rest) a w:=by
 obtain ⟨i0,hi0,hz0,hs0,hb0⟩:=info_parts info_int
 refine wpList_append_lies w hgd s x 23 ho base 3 i0 _ 1 8 Tryz.underlying23 hi0 hz0 hs0 hb0 rfl (by decide) _ _ _ hs h ⟨k,0,none⟩ 1 1 [.int .i64 n] hx rfl (World.news_of_block (cs:=#[.int .i64 n]) (t:=3) (fr:=(0,0)) hk) (by simp [Value.oneCell']) (by decide) (by unfold maxLen;omega) (by omega) hbase ?_
 intro g' cap w' hr hg hat
 have hm:Mod (ob u) w w':=(Mod.refl (ob u) w).grown hg (fun k e _=>by simp [ob,e])
 refine hK _ _ (by simpa using hr) hm ⟨_,_,rfl⟩ (fun k hk=>?_)
 have:k=g':=by simpa [ob,Value.ownBlock] using hk
 subst this
 rcases hat with e | e
 · exact .inl (by simp [ob,e])
 · exact .inr (by omega)
def CtrTo (w:World) (p:Nat) (v:Value) (t:List Int × RS) (e:Ending) (w':World):Prop :=
 ∃ u v',e=.returned u∧w'.ownsRow w.heap.size 3 1 u t.1.length (t.1.map (Value.int .i64))∧RrM w' p v' t.2.1 t.2.2∧(∀ k,k∈ob v'→k∈ob v)∧Mod [p] w w'
def CtrRel (w:World) (p:Nat) (v:Value) (s:RS) (n:Nat) (u i:Value) (wr:World):Prop :=
 ∃ (k:Nat) (v':Value),i=.int .i64 (k:Int)∧k≤n∧wr.ownsRow w.heap.size 3 1 u (readK k s).1.length ((readK k s).1.map (Value.int .i64))∧RrM wr p v' (readK k s).2.1 (readK k s).2.2∧(∀ x,x∈ob v'→x∈ob v)∧Mod [p] w wr
theorem counters_any {w:World} {p:Nat} {v:Value} {l:B8} {x:Int} (h:RrM w p v l x) (hpv:∀ k,k∈ob v→k<w.heap.size) :
 Calls Tryz.prog 141 #[.pointer (some ⟨p,0,none⟩)] w fun e w'=>CtrTo w p v (countersS (l,x)) e w':=by
 have hpw:=lt_of_block h.blk
 have hn:=readNum_any h
 have hge:=nxt_ge (l,x)
 unfold countersS
 unfold nxt at hge ⊢
 simp only at hge ⊢
 generalize rdNum l x=t at hn hge ⊢
 obtain ⟨a,l1,x1⟩:=t
 simp only at hn hge ⊢
 obtain ⟨n,hN⟩:∃ n:Nat,(min a 5).toNat=n:=⟨_,rfl⟩
 have hN2:min a 5=(n:Int):=by omega
 have hN5:n≤5:=by omega
 rw [hN]
 have HH:=hd2 h hpv
 clear h hpv hN
 go_enter Tryz.func141,Tryz.ntmps141
 go_wp2_with (go_at_call 139;refine hn.mono ?_;rintro e w1 ⟨rfl,v1,hr1,ho1,hm1⟩
              have H1:=hd3 hr1 ho1 hm1
              clear hr1 ho1 hm1 hn)
 go_loopw [3,7] (fun u i wr=>CtrRel w p v (l1,x1) n u i wr) (fun _ i _=>n - (intOf i).toNat)
 case atStart=>exact ⟨0,v1,rfl,Nat.zero_le _,World.ownsRow_nil _ _ _ _,H1.out.1,H1.out.2.1,H1.out.2.2⟩
 case round =>
  obtain ⟨k,v',rfl,hk,hrow,hr,ho,hm⟩:=hrel
  by_cases hlt:k<n
  · have hkn:(k:Int)<(n:Int):=by omega
    have hnum:=readNum_any hr
    have hsn:=readK_snoc k (l1,x1)
    have hln:=readK_len k (l1,x1)
    have hnx:(nxt (readK k (l1,x1)).2)=((rdNum (readK k (l1,x1)).2.1 (readK k (l1,x1)).2.2).1,((rdNum (readK k (l1,x1)).2.1 (readK k (l1,x1)).2.2).2.1,(rdNum (readK k (l1,x1)).2.1 (readK k (l1,x1)).2.2).2.2)):=rfl
    rw [hnx] at hsn
    generalize rdNum (readK k (l1,x1)).2.1 (readK k (l1,x1)).2.2=t at hnum hsn
    obtain ⟨y,l2,x2⟩:=t
    simp only at hnum hsn
    have HS:=hd5 hsn hln hrow ho hm
    clear hsn hln hrow ho hm hr hnx
    go_wp2_with (first
     | (go_at_call 139;refine hnum.mono ?_;rintro e w2 ⟨rfl,v2,hr2,ho2,hm2⟩
        obtain ⟨W3,hW3⟩:∃ W3,W3=w2.alloc (.cells #[.int .i64 y] 3 (0,0)):=⟨_,rfl⟩
        have hk3:W3.heap[w2.heap.size]?=some (.cells #[.int .i64 y] 3 (0,0)):=by rw [hW3];exact heap_alloc_new w2 _
        have g3:Gr w2 W3:=by rw [hW3];exact (Gr.refl w2).alloc _
        have H2:=hd5 hr2 ho2 hm2 hk3 g3
        clear hr2 ho2 hm2 hk3 g3 hnum)
     | (at_builtin
        (try rw [← hW3])
        have hor:=HS.out.2.2.1
        have hszw:=HS.out.2.2.2.2.size
        have hszw2:=H2.out.2.2.1.size
        have hszw3:=H2.out.2.2.2.2.size
        have hou:∀ q,q∈ob u3→w.heap.size≤q:=fun q hq=>(ob_of_row hor q hq).1
        have h5:=H2.out.2.2.1.row hor (fun q hq e=>by have:=hou q (by simp [ob,hq]);simp at e;omega)
        have h6:=(H2.out.2.2.2.2.mod []).row h5 (by simp)
        refine wpList_app_int (n:=y) (base:=w.heap.size) W3 rfl _ _ rfl rfl h6 (by rw [HS.out.2.1];omega) (by omega) (k:=w2.heap.size) rfl H2.out.2.2.2.1 ?_
        rintro u' w3 hrow3 hm3 ⟨p3,c3,rfl⟩ -
        have H3:=hd3 hrow3 hm3 hou
        clear hrow3 hm3 h5 h6 hor hou hszw hszw2 hszw3)
     | fail)
    go_roundw
    case rel =>
     obtain ⟨hr2,ho2,hm2,hk3,g3⟩:=H2.out
     obtain ⟨hrow3,hm3,hou⟩:=H3.out
     obtain ⟨hsn,hln,hrow,ho,hm⟩:=HS.out
     have hpv:=HH.out.2
     refine ⟨k+1,v2,by go_num,by omega,?_,?_,fun q hq=>ho q (ho2 q hq),?_⟩
     · rw [hsn];exact hrow3
     · rw [hsn]
       refine ⟨hm3.at_ ((g3.mod []).at_ hr2.blk (by simp)) (fun e=>by have:=hou _ e;omega),(hr2.rd.gr g3).mod hm3 (fun q hq e=>?_),hr2.apart⟩
       have h1:=hpv q (ho q (ho2 q hq))
       have h2:=hou q e
       omega
     · exact ((hm.then hm2).gr g3).trans hm3 (fun x hx _=>hx) (fun x hx hlt2=>by have:=hou x hx;omega)
    case measure=>simp [intOf];omega
  · obtain rfl:k=n:=by omega
    have hkn:¬ (k:Int)<(k:Int):=by omega
    obtain ⟨p3,c3,hu⟩:=(rdN_of_row hrow).len
    subst hu
    have HS:=hd4 hrow hr ho hm
    clear hrow hr ho hm
    go_wp2_with fail
    go_ret
    exact ⟨_,v',rfl,HS.out⟩
theorem reader_any {w:World} {u:Value} {b:B8} (hu:RdY w u b) (hl:b.length≤1000000000) :
 Calls Tryz.prog 138 #[u] w fun e w'=>∃ p v,e=.returned (.pointer (some ⟨p,0,none⟩))∧RrM w' p v b 0∧w.heap.size≤p∧(∀ k,k∈ob v→w.heap.size≤k∧k<p)∧Mod [] w w':=by
 go_enter Tryz.func138,Tryz.ntmps138
 go_wp2_with (at_builtin;refine wpList_copy_y _ rfl _ _ rfl rfl rfl hu (by omega) ?_;intro p' c' w1 hr hm)
 go_ret
 have hb:=hr.blk
 have hs:=hm.size
 exact ⟨_,_,rfl,⟨heap_alloc_new _ _,hr.rd.gr ((Gr.refl w1).alloc _),fun h=>by have:=(hb _ h).2;omega⟩,hs,fun k hk=>hb k hk,hm.alloc _⟩
end Go.Proofs.YtllljngpgjkdiaaGreatDoor
