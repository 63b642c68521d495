/-
  BookW3 BookW4 BookW5 GrA LedRf3 LedRf10: see the remarks below.
-/
import Derived.Test.YtpphoeimakjjdaaGreatDoorMWpL
import Derived.Test.YtpphoeimakjjdaaGreatDoorMGrM
import Derived.Deep.RegionHeld3
import Derived.Deep.DeepCutAuto
import Derived.Test.YtpphoeimakjjdaaGreatDoorMDecB
import Derived.Test.YtpphoeimakjjdaaGreatDoorMAppend
import Derived.Test.YtpphoeimakjjdaaGreatDoorMCmpI
/-
  WALKS: layer 11: may it be a book?
-/
namespace Go.Proofs.YtpphoeimakjjdaaGreatDoor
set_option maxRecDepth 100000
set_option maxHeartbeats 4000000
open Go.RowKit

def aggB (b:Bk) (gv:Value):Value:=.agg #[.int .i64 b.next,.int .i64 b.boots,.int .i64 b.longest,gv]
structure BkM (w:World) (base:Nat) (gv:Value) (b:Bk) (lv:List (Grt × Value)):Prop where
 gr:GrM w base gv lv
 eq:b.grants=lv.map Prod.fst
theorem BkM.gr' {w w':World} {base:Nat} {gv:Value} {b:Bk} {lv:List (Grt × Value)} (h:BkM w base gv b lv) (g:Gr w w'):BkM w' base gv b lv:=⟨h.gr.gr g,h.eq⟩
theorem okFrom_take {next:Int} {id:Int} {l:List Grt} {k:Nat} (hk:okFrom next id (l.take k)=true) (hlt:k<l.length)
 (hn:grantB (l.getD k default)=true∧lastI (l.getD k default).stamp<next∧(∀ x,x∈l.take k→x.id<(l.getD k default).id)∧id<(l.getD k default).id):okFrom next id (l.take (k+1))=true:=by
 have e:l.take (k+1)=l.take k++[l.getD k default]:=by rw [List.take_add_one];simp [hlt]
 rw [e]
 obtain ⟨h1,h2⟩:=okFrom_iff.1 hk
 refine okFrom_iff.2 ⟨fun g hg=>?_,List.pairwise_append.2 ⟨h2,List.pairwise_singleton _ _,fun a ha b hb=>?_⟩⟩
 · rcases List.mem_append.1 hg with hg | hg
   · exact h1 g hg
   · obtain rfl:=List.mem_singleton.1 hg
     exact ⟨hn.1,hn.2.1,hn.2.2.2⟩
 · obtain rfl:=List.mem_singleton.1 hb
   exact hn.2.2.1 a ha
theorem okFrom_bad {next idp:Int} {l:List Grt} {k:Nat} (hlt:k<l.length) (ha:idp=0∨∃ x,x∈l.take k∧x.id=idp)
 (hn:grantB (l.getD k default)=false∨next≤lastI (l.getD k default).stamp∨(l.getD k default).id≤idp):okFrom next 0 l=false:=by
 cases h:okFrom next 0 l with
 | false=>rfl
 | true =>
   exfalso
   obtain ⟨h1,h2⟩:=okFrom_iff.1 h
   have hm:l.getD k default∈l:=by simp [hlt]
   obtain ⟨g1,g2,g3⟩:=h1 _ hm
   rcases hn with hn | hn | hn
   · rw [hn] at g1;cases g1
   · omega
   · rcases ha with ha | ⟨x,hx,rfl⟩
     · omega
     · have e:l=l.take k++l.drop k:=(List.take_append_drop k l).symm
       rw [e] at h2
       have hd:l.getD k default∈l.drop k:=by
        rw [List.drop_eq_getElem_cons hlt]
        exact List.mem_cons.2 (.inl (by simp [List.getD,hlt]))
       have:=(List.pairwise_append.1 h2).2.2 x hx _ hd
       omega
theorem vs_of {X:World} {x p:Nat} {id ho mo te nx bo lo:Int} {pa:ByteArray} {sv gv:Value} (hx:X.heap[x]?=some (.cells #[.int .i64 id,.int .i64 ho,.string pa,.int .i64 mo,sv,.int .i64 te] 40 (0,0))) (hp:X.heap[p]?=some (.cells #[.int .i64 nx,.int .i64 bo,.int .i64 lo,gv] 34 (0,0))) {w':World} (m:Mod [] X w') :
 Mod [] X w'∧w'.cell? ⟨x,0,none⟩=some (.int .i64 id)∧w'.cell? ⟨x,1,none⟩=some (.int .i64 ho)∧w'.cell? ⟨x,2,none⟩=some (.string pa)∧w'.cell? ⟨x,3,none⟩=some (.int .i64 mo)∧w'.cell? ⟨x,4,none⟩=some sv∧w'.cell? ⟨x,5,none⟩=some (.int .i64 te)∧w'.cell? ⟨p,0,none⟩=some (.int .i64 nx) :=
 ⟨m,blk_cell (m.at_ hx (by simp)) 0,blk_cell (m.at_ hx (by simp)) 1,blk_cell (m.at_ hx (by simp)) 2,blk_cell (m.at_ hx (by simp)) 3,blk_cell (m.at_ hx (by simp)) 4,blk_cell (m.at_ hx (by simp)) 5,blk_cell (m.at_ hp (by simp)) 0⟩
def ValRel (W0:World) (nx:Int) (gs:List Grt) (u i:Value) (wr:World):Prop :=
 ∃ (k:Nat) (idp:Int),u=.int .i64 idp∧i=.int .i64 (k:Int)∧k≤gs.length∧okFrom nx 0 (gs.take k)=true∧(∀ x,x∈gs.take k→x.id≤idp)∧0≤idp∧(idp=0∨∃ x,x∈gs.take k∧x.id=idp)∧Mod [] W0 wr
theorem bvalid_any {w:World} {base:Nat} {gv:Value} {b:Bk} {lv:List (Grt × Value)} (h:BkM w base gv b lv) (hps:∀ p,p∈lv→p.1.path.size≤9223372036854775807) :
 Calls Tryz.prog 79 #[aggB b gv] w fun e w'=>e=.returned (.bool (validB b))∧Mod [] w w':=by
 obtain ⟨nx,bo,lo,gs⟩:=b
 have hg:=h.gr
 have heq:gs=lv.map Prod.fst:=h.eq
 obtain ⟨q,c,rfl,hmx⟩:=hg.shape
 have hmx':lv.length≤9223372036854775807:=hmx
 have kh:=fun (W:World)=>heads_any nx bo W
 have kl:∀ W:World,Calls Tryz.prog 115 #[.int .i64 lo] W fun e w'=>e=.returned (.bool (decide (legalT lo)))∧w'=W:=fun W=>legal_any lo W
 obtain ⟨V,hV⟩:∃ V,validB ⟨nx,bo,lo,gs⟩=V:=⟨_,rfl⟩
 rw [hV]
 unfold validB at hV
 simp only at hV
 have hlen:gs.length=lv.length:=by rw [heq];simp
 rw [hlen] at hV
 generalize headsB nx bo=b1 at kh hV
 unfold aggB
 simp only
 have HH:=Hj3 h hps heq
 clear h hps heq hg hlen
 have HV:=hide hV
 clear hV
 obtain ⟨W0,hW0⟩:∃ W0,W0=w.alloc (.cells #[.int .i64 nx,.int .i64 bo,.int .i64 lo,.slice q lv.length c] 34 (0,0)):=⟨_,rfl⟩
 have hb0:W0.heap[w.heap.size]?=some (.cells #[.int .i64 nx,.int .i64 bo,.int .i64 lo,.slice q lv.length c] 34 (0,0)):=by rw [hW0];exact heap_alloc_new w _
 have hgr:Gr w W0:=by rw [hW0];exact (Gr.refl w).alloc _
 have B0:=blk_cell hb0
 go_enter Tryz.func79,Tryz.ntmps79
 go_upto_region 1 with fail
 rw [← hW0]
 clear hW0
 obtain ⟨C,hC⟩:∃ C,(b1&&(decide (lo=0∨legalT lo)&&decide (lv.length≤6)))=C:=⟨_,rfl⟩
 go_cut [28] (fun s wx=>s=.bool (!C)∧wx=W0)
 case first =>
  have HC:=hide hC
  clear hC hb0
  by_cases hlo:lo=0
  · subst hlo
    go_wp2_with (first
     | (go_at_call 114;refine (kh _).mono ?_;rintro e w1 ⟨rfl,rfl⟩)
     | (go_at_call 115;refine (kl _).mono ?_;rintro e w1 ⟨rfl,rfl⟩)
     | fail)
    all_goals
     go_meet
     exact ⟨by rw [← HC.out];first | (simp [*];done) | (simp [*];intros;omega) | (simp [*];omega) | (simp [*];rw [Bool.eq_iff_iff];simp;omega) | (rw [Bool.eq_iff_iff];simp [*];omega),rfl⟩
  · go_wp2_with (first
     | (go_at_call 114;refine (kh _).mono ?_;rintro e w1 ⟨rfl,rfl⟩)
     | (go_at_call 115;refine (kl _).mono ?_;rintro e w1 ⟨rfl,rfl⟩)
     | fail)
    all_goals
     go_meet
     exact ⟨by rw [← HC.out];first | (simp [*];done) | (simp [*];intros;omega) | (simp [*];omega) | (simp [*];rw [Bool.eq_iff_iff];simp;omega) | (rw [Bool.eq_iff_iff];simp [*];omega),rfl⟩
 case rest =>
 obtain ⟨rfl,rfl⟩:=hcut
 have hV2:(C&&okFrom nx 0 gs)=V:=by
  rw [← HV.out,← hC]
  simp [Bool.and_assoc]
 clear hC
 cases C with
 | false =>
   have HV2:=hide hV2
   clear hV2
   go_wp2_with fail
   go_ret
   exact ⟨by rw [← HV2.out];rfl,hgr.mod []⟩
 | true =>
 have HV2:=hide (show okFrom nx 0 gs=V by rw [← hV2];rfl)
 clear hV2
 obtain ⟨W0,rfl⟩:∃ x:World,x=wc:=⟨_,rfl⟩
 go_wp2_with fail
 go_loopw [3,32] (fun u i wr=>ValRel W0 nx gs u i wr) (fun _ i _=>lv.length - (intOf i).toNat)
 case atStart=>exact ⟨0,0,rfl,rfl,Nat.zero_le _,rfl,by simp,Int.le_refl _,.inl rfl,Mod.refl _ _⟩
 case round =>
  obtain ⟨k,idp,rfl,rfl,hk,hok,hall,hid0,hat0,hm⟩:=hrel
  obtain ⟨h,hps,heq⟩:=HH.out
  have hgl:gs.length=lv.length:=by rw [heq];simp
  by_cases hlt:k<lv.length
  · obtain ⟨b,rfl,hbb,hb1,hc,hf,hrd⟩:=((h.gr.gr hgr).mod hm (by simp)).at_ k hlt
    have hpa:=hps _ (show lv.getD k default∈lv by simp [hlt])
    have hgk:gs.getD k default=(lv.getD k default).1:=by rw [heq];simp [hlt]
    have hbk:=hm.at_ hb0 (by simp)
    generalize lv.getD k default=pr at hc hrd hpa hgk
    obtain ⟨g,sv⟩:=pr
    simp only at hrd hpa hgk
    have c0:=hc 0 (by decide)
    have c1:=hc 1 (by decide)
    have c2:=hc 2 (by decide)
    have c3:=hc 3 (by decide)
    have c4:=hc 4 (by decide)
    have c5:=hc 5 (by decide)
    simp [encG,cellsG] at c0 c1 c2 c3 c4 c5
    have km:=fun {W:World} (m:Mod [] wr W)=>mayGrant_any (g:=g) (hrd.mod m (by simp)) hpa
    have kn:=fun {W:World} (m:Mod [] wr W)=>newest_any (hrd.mod m (by simp))
    obtain ⟨qs,cs,rfl⟩:=hrd.len
    have HG:=hide hgk
    have hbx:=heap_alloc_new wr (.cells (cellsG g (.slice qs g.stamp.length cs)).toArray 40 (0,0))
    have hmX:Mod [] wr (wr.alloc (.cells (cellsG g (.slice qs g.stamp.length cs)).toArray 40 (0,0))):=(Mod.refl _ _).alloc _
    have HX:=Hj3 hbx (blk_alloc hbk (.cells (cellsG g (.slice qs g.stamp.length cs)).toArray 40 (0,0))) hmX
    clear hc hgk hps h hbx hmX
    obtain ⟨id,ho,pa,mo,st,te⟩:=g
    simp only at c0 c1 c2 c3 c4 c5 hpa hrd kn
    generalize hG:grantB ⟨id,ho,pa,mo,st,te⟩=G at km
    generalize hN:lastI st=n at kn
    unfold aggG cellsG at km
    simp only at km
    have HGN:=Hj2 hG hN
    clear hG hN
    unfold cellsG at HX
    simp only at HX
    obtain ⟨X,hX⟩:∃ X,X=wr.alloc (.cells #[.int .i64 id,.int .i64 ho,.string pa,.int .i64 mo,.slice qs st.length cs,.int .i64 te] 40 (0,0)):=⟨_,rfl⟩
    have HX2:Hid (X.heap[wr.heap.size]?=some (.cells #[.int .i64 id,.int .i64 ho,.string pa,.int .i64 mo,.slice qs st.length cs,.int .i64 te] 40 (0,0))∧X.heap[w.heap.size]?=some (.cells #[.int .i64 nx,.int .i64 bo,.int .i64 lo,.slice (some ⟨b,0,none⟩) lv.length c] 34 (0,0))∧Mod [] wr X):=by rw [hX];exact HX
    clear HX
    have t7:=hide trivial
    have t8:=hide trivial
    go_upto_region 7 with fail
    rw [← hX]
    clear hX c0 c1 c2 c3 c4 c5
    cases G with
    | false =>
      refine pB 999 (fun w'=>Mod [] X w'∧w'.cell? ⟨wr.heap.size,0,none⟩=some (.int .i64 id)∧w'.cell? ⟨wr.heap.size,1,none⟩=some (.int .i64 ho)∧w'.cell? ⟨wr.heap.size,2,none⟩=some (.string pa)∧w'.cell? ⟨wr.heap.size,3,none⟩=some (.int .i64 mo)∧w'.cell? ⟨wr.heap.size,4,none⟩=some (.slice qs st.length cs)∧w'.cell? ⟨wr.heap.size,5,none⟩=some (.int .i64 te)∧w'.cell? ⟨w.heap.size,0,none⟩=some (.int .i64 nx)) (by exact vs_of HX2.out.1 HX2.out.2.1 ((Mod.refl [] X).drew)) ?_
      refine pH 0 rfl (fun w hSw=>by (try dsimp only at hSw);go_simp;try with_reducible rfl) ?_
      refine pX 1 fun hHeld K hK=>?_
      go_simp
      refine (km (HX2.out.2.2.then hHeld.1)).mono ?_;rintro e x7 ⟨rfl,m7⟩;have m8:=hHeld.1.then m7
      refine hK.out _ _ _ ?_ ?_
      · exact vs_of HX2.out.1 HX2.out.2.1 m8
      clear hK K hHeld
      refine pP 2 ?_;refine pP 3 ?_;refine pN 4 ?_;refine pN 5 ?_;refine pN 6 ?_;refine pN 7 ?_;refine pN 8 ?_;refine pN 9 ?_;refine pP 10 ?_;refine pP 11 ?_;refine pN 12 ?_;refine pN 13 ?_;refine pN 14 ?_;refine pN 15 ?_;refine pP 16 ?_
      refine pE fun hHeld=>?_
      go_wp2_with fail
      go_ret
      exact ⟨by rw [← HV2.out,okFrom_bad (k:=k) (by omega) hat0 (by rw [HG.out];exact .inl HGN.out.1)];rfl,(((hgr.mod []).then hm).then HX2.out.2.2).then m8⟩
    | true =>
      by_cases hn:nx≤n
      · have dn:decide (nx≤n)=true:=decide_eq_true hn
        refine pB 999 (fun w'=>Mod [] X w'∧w'.cell? ⟨wr.heap.size,0,none⟩=some (.int .i64 id)∧w'.cell? ⟨wr.heap.size,1,none⟩=some (.int .i64 ho)∧w'.cell? ⟨wr.heap.size,2,none⟩=some (.string pa)∧w'.cell? ⟨wr.heap.size,3,none⟩=some (.int .i64 mo)∧w'.cell? ⟨wr.heap.size,4,none⟩=some (.slice qs st.length cs)∧w'.cell? ⟨wr.heap.size,5,none⟩=some (.int .i64 te)∧w'.cell? ⟨w.heap.size,0,none⟩=some (.int .i64 nx)) (by exact vs_of HX2.out.1 HX2.out.2.1 ((Mod.refl [] X).drew)) ?_
        refine pH 0 rfl (fun w hSw=>by (try dsimp only at hSw);go_simp;try with_reducible rfl) ?_
        refine pX 1 fun hHeld K hK=>?_
        go_simp
        refine (km (HX2.out.2.2.then hHeld.1)).mono ?_;rintro e x7 ⟨rfl,m7⟩;have m8:=hHeld.1.then m7
        refine hK.out _ _ _ ?_ ?_
        · exact vs_of HX2.out.1 HX2.out.2.1 m8
        clear hK K hHeld
        refine pP 2 ?_;refine pP 3 ?_;refine pP 4 ?_
        refine pH 5 rfl (fun w hSw=>by (try dsimp only at hSw);go_simp;try with_reducible rfl) ?_
        refine pP 7 ?_
        refine pH 8 rfl (fun w hSw=>by (try dsimp only at hSw);go_simp;try with_reducible rfl) ?_
        refine pX 6 fun hHeld K hK=>?_
        go_simp
        refine (kn (HX2.out.2.2.then hHeld.1)).mono ?_;rintro e x8 ⟨rfl,rfl⟩;have m9:=hHeld.1
        refine hK.out _ _ _ ?_ ?_
        · exact vs_of HX2.out.1 HX2.out.2.1 m9
        clear hK K hHeld
        refine pP 9 ?_;refine pP 10 ?_;refine pP 11 ?_;refine pN 12 ?_;refine pN 13 ?_;refine pN 14 ?_;refine pN 15 ?_;refine pP 16 ?_
        refine pE fun hHeld=>?_
        go_wp2_with fail
        go_ret
        exact ⟨by rw [← HV2.out,okFrom_bad (k:=k) (by omega) hat0 (by rw [HG.out];exact .inr (.inl (by rw [HGN.out.2];exact hn)))];rfl,(((hgr.mod []).then hm).then HX2.out.2.2).then m9⟩
      · have dn:decide (nx≤n)=false:=decide_eq_false hn
        by_cases hi:id≤idp
        · have di:decide (id≤idp)=true:=decide_eq_true hi
          refine pB 999 (fun w'=>Mod [] X w'∧w'.cell? ⟨wr.heap.size,0,none⟩=some (.int .i64 id)∧w'.cell? ⟨wr.heap.size,1,none⟩=some (.int .i64 ho)∧w'.cell? ⟨wr.heap.size,2,none⟩=some (.string pa)∧w'.cell? ⟨wr.heap.size,3,none⟩=some (.int .i64 mo)∧w'.cell? ⟨wr.heap.size,4,none⟩=some (.slice qs st.length cs)∧w'.cell? ⟨wr.heap.size,5,none⟩=some (.int .i64 te)∧w'.cell? ⟨w.heap.size,0,none⟩=some (.int .i64 nx)) (by exact vs_of HX2.out.1 HX2.out.2.1 ((Mod.refl [] X).drew)) ?_
          refine pH 0 rfl (fun w hSw=>by (try dsimp only at hSw);go_simp;try with_reducible rfl) ?_
          refine pX 1 fun hHeld K hK=>?_
          go_simp
          refine (km (HX2.out.2.2.then hHeld.1)).mono ?_;rintro e x7 ⟨rfl,m7⟩;have m8:=hHeld.1.then m7
          refine hK.out _ _ _ ?_ ?_
          · exact vs_of HX2.out.1 HX2.out.2.1 m8
          clear hK K hHeld
          refine pP 2 ?_;refine pP 3 ?_;refine pP 4 ?_
          refine pH 5 rfl (fun w hSw=>by (try dsimp only at hSw);go_simp;try with_reducible rfl) ?_
          refine pP 7 ?_
          refine pH 8 rfl (fun w hSw=>by (try dsimp only at hSw);go_simp;try with_reducible rfl) ?_
          refine pX 6 fun hHeld K hK=>?_
          go_simp
          refine (kn (HX2.out.2.2.then hHeld.1)).mono ?_;rintro e x8 ⟨rfl,rfl⟩;have m9:=hHeld.1
          refine hK.out _ _ _ ?_ ?_
          · exact vs_of HX2.out.1 HX2.out.2.1 m9
          clear hK K hHeld
          refine pP 9 ?_;refine pP 10 ?_;refine pP 11 ?_;refine pP 12 ?_
          refine pH 13 rfl (fun w hSw=>by (try dsimp only at hSw);go_simp;try with_reducible rfl) ?_
          refine pP 14 ?_;refine pP 15 ?_;refine pP 16 ?_
          refine pE fun hHeld=>?_
          go_wp2_with fail
          go_ret
          exact ⟨by rw [← HV2.out,okFrom_bad (k:=k) (by omega) hat0 (by rw [HG.out];exact .inr (.inr hi))];rfl,(((hgr.mod []).then hm).then HX2.out.2.2).then m9⟩
        · have di:decide (id≤idp)=false:=decide_eq_false hi
          refine pB 999 (fun w'=>Mod [] X w'∧w'.cell? ⟨wr.heap.size,0,none⟩=some (.int .i64 id)∧w'.cell? ⟨wr.heap.size,1,none⟩=some (.int .i64 ho)∧w'.cell? ⟨wr.heap.size,2,none⟩=some (.string pa)∧w'.cell? ⟨wr.heap.size,3,none⟩=some (.int .i64 mo)∧w'.cell? ⟨wr.heap.size,4,none⟩=some (.slice qs st.length cs)∧w'.cell? ⟨wr.heap.size,5,none⟩=some (.int .i64 te)∧w'.cell? ⟨w.heap.size,0,none⟩=some (.int .i64 nx)) (by exact vs_of HX2.out.1 HX2.out.2.1 ((Mod.refl [] X).drew)) ?_
          refine pH 0 rfl (fun w hSw=>by (try dsimp only at hSw);go_simp;try with_reducible rfl) ?_
          refine pX 1 fun hHeld K hK=>?_
          go_simp
          refine (km (HX2.out.2.2.then hHeld.1)).mono ?_;rintro e x7 ⟨rfl,m7⟩;have m8:=hHeld.1.then m7
          refine hK.out _ _ _ ?_ ?_
          · exact vs_of HX2.out.1 HX2.out.2.1 m8
          clear hK K hHeld
          refine pP 2 ?_;refine pP 3 ?_;refine pP 4 ?_
          refine pH 5 rfl (fun w hSw=>by (try dsimp only at hSw);go_simp;try with_reducible rfl) ?_
          refine pP 7 ?_
          refine pH 8 rfl (fun w hSw=>by (try dsimp only at hSw);go_simp;try with_reducible rfl) ?_
          refine pX 6 fun hHeld K hK=>?_
          go_simp
          refine (kn (HX2.out.2.2.then hHeld.1)).mono ?_;rintro e x8 ⟨rfl,rfl⟩;have m9:=hHeld.1
          refine hK.out _ _ _ ?_ ?_
          · exact vs_of HX2.out.1 HX2.out.2.1 m9
          clear hK K hHeld
          refine pP 9 ?_;refine pP 10 ?_;refine pP 11 ?_;refine pP 12 ?_
          refine pH 13 rfl (fun w hSw=>by (try dsimp only at hSw);go_simp;try with_reducible rfl) ?_
          refine pP 14 ?_;refine pP 15 ?_;refine pP 16 ?_
          refine pE fun hHeld=>?_
          go_wp2_with fail
          go_roundw
          case measure=>simp [intOf];omega
          case rel =>
           have hx1:=HG.out
           have htk:gs.take (k+1)=gs.take k++[gs.getD k default]:=by rw [List.take_add_one];simp [show k<gs.length by omega]
           refine ⟨_,_,_,_,?_,rfl,rfl,rfl,rfl⟩
           rw [← heq]
           refine ⟨k+1,id,rfl,by simp,by omega,?_,?_,by omega,.inr ⟨⟨id,ho,pa,mo,st,te⟩,by rw [htk,hx1];simp,rfl⟩,(hm.then HX2.out.2.2).then m9⟩
           · refine okFrom_take hok (by omega) ⟨by rw [hx1];exact HGN.out.1,by rw [hx1,HGN.out.2];omega,fun x hx=>?_,?_⟩
             · have:=hall x hx
               rw [hx1]
               show x.id<id
               omega
             · rw [hx1]
               show 0<id
               omega
           · intro x hx
             rw [htk,hx1] at hx
             rcases List.mem_append.1 hx with hx | hx
             · have:=hall x hx
               omega
             · obtain rfl:=List.mem_singleton.1 hx
               exact Int.le_refl _
  · obtain rfl:k=lv.length:=by omega
    rw [← hgl,List.take_length] at hok
    clear h hps hall hat0
    go_wp2_with fail
    go_ret
    exact ⟨by rw [← HV2.out,hok];rfl,(hgr.mod []).then hm⟩
end Go.Proofs.YtpphoeimakjjdaaGreatDoor
/-
  WALKS: layer 11: stamps cloned, twins; the place of an Id; is it the new book; limits.
-/
namespace Go.Proofs.YtpphoeimakjjdaaGreatDoor
set_option maxRecDepth 100000
open Go.RowKit

section
variable {P:Program}
theorem wpList_append_copy2 {ops:Array Oper} {rest:List Oper} {o:Oper} {a:Act} {Q:Exit→Act→World→Prop} (w:World) (hgd:o.guard=none) (s x:Operand) (t:TypeId)
 (ho:o.op=.call { callee:=.builtin .append,args:=#[s,x],argTypes:=#[t,t] })
 (base:Nat) (e:TypeId) (i:TypeInfo) (ht:P.underlying t=some (.slice e)) (hi:P.info? e=some i) (hz:i.zero=some (.int .i64 0)) (hsize:i.size=1) (hby:i.bytes=8)
 {b0 c0:Nat} (hs:a.eval s=.slice (some ⟨b0,0,none⟩) 0 c0) (hown:w.ownsRow base e 1 (.slice (some ⟨b0,0,none⟩) 0 c0) 0 []) (hbase:base≤w.heap.size) {v:Value} {m:List Int} (hx:a.eval x=v) (hv:RdN w v m) (hsm:m.length≤1000000)
 (h:∀ v' w',w'.ownsRow base e 1 v' m.length (m.map (Value.int .i64))→Mod [b0] w w'→wpList P ops Q rest (a.put o.dst v') w'):wpList P ops Q (o::rest) a w:=by
 by_cases hm:m=[]
 · subst hm
   obtain ⟨p,c,rfl⟩:=hv.len
   have src:Src P i.size t (.slice p 0 c) 0 [] w:=by
    cases p with
    | none=>exact Src.ofNil w ht c
    | some ad=>exact Src.ofSlice w ht ad 0 c [] (by simp) (fun _ _ h=>by simp at h) (fun _ h=>by cases h)
   have hr:=run_append_nothing w t t o.type e i ht hi (some ⟨b0,0,none⟩) 0 c0 (Nat.zero_le _) _ src
   refine wpList_plain hgd fun K hK=>?_
   unfold Oper.wp execOp
   simp only [List.length_nil] at hx
   simp only [ho,resolve,invoke,builtin,Sem.run_bind,Sem.run_pure,Result.andThen_ok,List.map_toArray,List.map_cons,List.map_nil,hs,hx,hr]
   exact hK _ _ (h _ _ hown (Mod.refl _ _))
 · have hpos:0<m.length:=List.length_pos_iff.2 hm
   rcases hv.2 with ⟨p,c,_,rfl⟩ | ⟨b,off,cap,rfl,hb,hc⟩
   · exact absurd rfl hm
   · refine wpList_append_lies w hgd s x t ho base e i (.int .i64 0) 1 8 ht hi hz hsize hby rfl (by decide) _ 0 [] hs hown ⟨b,off,none⟩ m.length cap (m.map (Value.int .i64)) hx (by simp) ?_ (by simp [Value.oneCell']) hpos (by unfold maxLen;omega) (by omega) hbase ?_
     · intro j u hu
       obtain ⟨hj,rfl⟩:=List.getElem?_eq_some_iff.1 hu
       rw [List.length_map] at hj
       have:=hc j hj
       rw [Addr.add_lit,this]
       simp [hj]
     · intro g cap' w' hown hg hat
       simp only [Nat.zero_add,List.nil_append] at hown ⊢
       exact h _ _ hown ((Mod.refl [b0] w).grown hg (fun k e _=>by simp [Value.ownBlock] at e;simp [e]))
end
def NewI (w:World) (s:List Int) (e:Ending) (w':World):Prop:=∃ v,e=.returned v∧w'.ownsRow w.heap.size 3 1 v s.length (s.map (Value.int .i64))∧Mod [] w w'
theorem clone_any {w:World} {v:Value} {s:List Int} (h:RdN w v s) (hs:s.length≤1000000) :
 Calls Tryz.prog 124 #[v] w fun e w'=>NewI w s e w':=by
 obtain ⟨i0,hi0,hz0,hs0,hb0⟩:=info_parts info_int
 obtain ⟨q,c,rfl⟩:=h.len
 cases q with
 | none =>
   have h0:s=[]:=by
    rcases h.2 with ⟨p,c',_,h0⟩ | ⟨b,off,cap,hv,_⟩
    · exact h0
    · simp at hv
   subst h0
   clear h
   have hn:∀ w,(binOp BinOp.eql 38 (.slice none 0 c) (.slice none 0 0)).run Tryz.prog w=.ok (.bool true) w:=fun w=>by kernel_rfl
   go_enter Tryz.func124,Tryz.ntmps124
   go_wp2_with fail
   go_ret
   exact ⟨_,rfl,World.ownsRow_nil _ _ _ _,Mod.refl _ _⟩
 | some a =>
   have hv1:=h.gr ((Gr.refl w).alloc (.cells #[] 3))
   have hown:(w.alloc (.cells #[] 3)).ownsRow w.heap.size 3 1 (.slice (some ⟨w.heap.size,0,none⟩) 0 0) 0 []:=World.ownsRow_made w #[] 0 (Nat.le_refl _) (Nat.zero_le _) rfl
   clear h
   have hn:∀ w,(binOp BinOp.eql 38 (.slice (some a) s.length c) (.slice none 0 0)).run Tryz.prog w=.ok (.bool false) w:=fun w=>by kernel_rfl
   go_enter Tryz.func124,Tryz.ntmps124
   go_wp2_with (
    at_builtin
    refine wpList_append_copy2 _ rfl _ _ 38 rfl w.heap.size 3 i0 Tryz.underlying38 hi0 hz0 hs0 hb0 rfl hown (by simp) rfl hv1 hs ?_
    intro v' w2 ho hm)
   go_ret
   exact ⟨_,rfl,ho,((Mod.refl [] w).alloc _).trans hm (by simp) (fun x hx hlt=>by simp at hx;omega)⟩
def NewG (w:World) (g:Grt) (e:Ending) (w':World):Prop:=∃ v,e=.returned (aggG g v)∧w'.ownsRow w.heap.size 3 1 v g.stamp.length (g.stamp.map (Value.int .i64))∧Mod [] w w'
theorem twinG_any {w:World} {g:Grt} {v:Value} (hv:RdN w v g.stamp) (hs:g.stamp.length≤1000000) :
 Calls Tryz.prog 91 #[aggG g v] w fun e w'=>NewG w g e w':=by
 obtain ⟨id,ho,pa,mo,st,te⟩:=g
 simp only at hv hs
 unfold aggG cellsG NewG
 simp only
 have g2:=((Gr.refl w).alloc (.cells #[.int .i64 id,.int .i64 ho,.string pa,.int .i64 mo,v,.int .i64 te] 40)).alloc (.cells #[.int .i64 0,.int .i64 0,.string { data:=#[] },.int .i64 0,.slice none 0 0,.int .i64 0] 40)
 have b1:=blk_alloc (heap_alloc_new w (.cells #[.int .i64 id,.int .i64 ho,.string pa,.int .i64 mo,v,.int .i64 te] 40)) (.cells #[.int .i64 0,.int .i64 0,.string { data:=#[] },.int .i64 0,.slice none 0 0,.int .i64 0] 40)
 have b2:=heap_alloc_new (w.alloc (.cells #[.int .i64 id,.int .i64 ho,.string pa,.int .i64 mo,v,.int .i64 te] 40)) (.cells #[.int .i64 0,.int .i64 0,.string { data:=#[] },.int .i64 0,.slice none 0 0,.int .i64 0] 40)
 have hv2:=hv.gr g2
 have e2:(w.alloc (.cells #[.int .i64 id,.int .i64 ho,.string pa,.int .i64 mo,v,.int .i64 te] 40)).heap.size=w.heap.size+1:=by simp
 rw [e2] at b2
 have B:=Hj3 b1 b2 g2
 have hcl:=clone_any hv2 hs
 clear b1 b2 hv g2 hv2
 go_enter Tryz.func91,Tryz.ntmps91
 go_wp2_with fail
 refine hcl.mono ?_
 rintro e w2 ⟨v',rfl,ho,hm⟩
 obtain ⟨b1,b2,g2⟩:=B.out
 have c1:=hm.at_ b1 (by simp)
 have c2:=hm.at_ b2 (by simp)
 have hm0:=(g2.mod []).then hm
 have ho':w2.ownsRow w.heap.size 3 1 v' st.length (st.map (Value.int .i64)):=row_base ho g2.size
 have ho2:∀ k,k∈ob v'→w.heap.size+1<k:=fun k hk=>by have:=(ob_of_row ho k hk).1;simp at this;omega
 have HO2:=hide ho2
 obtain ⟨p',c',hv'⟩:=(rdN_of_row ho').len
 subst hv'
 have C:=Hj2 c1 c2
 have C1:=blk_cell c1
 have C2:=blk_cell c2
 have F1:=blk_free c1
 have F2:=blk_free c2
 have hb2:w.heap.size+1<w2.heap.size:=lt_of_block c2
 clear B b1 b2 e2 hcl hm ho g2 ho2 c1 c2
 go_wp2_with fail
 have q:=stL_all (blk_other C.out.2 (a:=⟨w.heap.size,4,none⟩) (by simp) (.slice p' st.length c')) [.int .i64 id,.int .i64 ho,.string pa,.int .i64 mo,.slice p' st.length c',.int .i64 te] rfl
 have qm:=stL_mod (S:=[w.heap.size,w.heap.size+1]) (w0:=w2) (r:=w.heap.size+1) (fun _=>by simp) [.int .i64 id,.int .i64 ho,.string pa,.int .i64 mo,.slice p' st.length c',.int .i64 te] 0 _ ((Mod.refl [w.heap.size,w.heap.size+1] w2).setCell (p:=⟨w.heap.size,4,none⟩) (fun _=>by simp) (.slice p' st.length c'))
 refine bodyPost_ret (v:=.agg #[.int .i64 id,.int .i64 ho,.string pa,.int .i64 mo,.slice p' st.length c',.int .i64 te]) (res_cell1 Tryz.results91 _ _ rfl q Tryz.isAgg40 Tryz.sizeOf40) rfl ⟨_,rfl,?_,?_⟩
 · exact qm.row ho' (fun k hk=>by have:=HO2.out k (by simpa [ob] using hk);simp;omega)
 · exact hm0.trans qm (by simp) (fun x hx hlt=>by simp at hx;omega)
end Go.Proofs.YtpphoeimakjjdaaGreatDoor
/-
  WALKS: layer 11: the place of an Id; is it the new book; limits.
-/
namespace Go.Proofs.YtpphoeimakjjdaaGreatDoor
set_option maxRecDepth 100000
set_option maxHeartbeats 2000000
open Go.RowKit

theorem pos_eq {id:Int}:∀ (l:List Grt) (k:Nat),k≤l.length→(∀ t,t<k→(l.getD t default).id<id)→(k<l.length→id≤(l.getD k default).id)→posG l id=k
 | [],k,hk,_,_=>by
   have:k=0:=by simpa using hk
   subst this;rfl
 | x::r,0,_,_,h2=>by
   have:=h2 (by simp)
   simp only [List.getD_cons_zero] at this
   rw [posG_cons,if_neg (by omega)]
 | x::r,k+1,hk,h1,h2=>by
   have h0:=h1 0 (by omega)
   simp only [List.getD_cons_zero] at h0
   rw [posG_cons,if_pos h0,pos_eq r k (by simpa using hk) (fun t ht=>by simpa using h1 (t+1) (by omega)) (fun h=>by simpa using h2 (by simpa using h))]
theorem srt_at {l:List Grt} (hs:SrtG l) {a b:Nat} (h:a<b) (hb:b<l.length):(l.getD a default).id<(l.getD b default).id:=by
 have:=(List.pairwise_iff_getElem.1 hs) a b (by omega) hb h
 simp [List.getD,hb,show a<l.length by omega]
 exact this
theorem has_eq {l:List Grt} (hs:SrtG l) {id:Int} {k:Nat} (hp:posG l id=k):hasG l id=(decide (k<l.length)&&decide ((l.getD k default).id=id)):=by
 rw [Bool.eq_iff_iff,has_at hs,hp]
 simp
theorem at1_any (g:Grt) (v:Value) (id:Int) (w:World) :
 Calls Tryz.prog 156 #[aggG g v,.int .i64 id] w fun e w'=>e=.returned (.int .i64 (cmpInt g.id id))∧Mod [] w w':=by
 obtain ⟨i,ho,pa,mo,st,te⟩:=g
 unfold aggG cellsG
 simp only
 generalize hc:cmpInt i id=c
 have hcm:=fun W:World=>compare_int i id W
 rw [hc] at hcm
 clear hc
 go_enter Tryz.func156,Tryz.ntmps156
 go_wp2_with (go_at_call 157;refine (hcm _).mono ?_;rintro e w1 ⟨rfl,rfl⟩)
 go_ret
 exact ⟨rfl,(Mod.refl _ _).alloc _⟩
def SeaRel (w:World) (n:Nat) (ids:Nat→Int) (id:Int) (i j:Value) (wr:World):Prop :=
 ∃ lo hi:Nat,i=.int .i64 lo∧j=.int .i64 hi∧lo≤hi∧hi≤n∧(∀ t,t<lo→ids t<id)∧(∀ t,hi≤t→t<n→id≤ids t)∧Mod [] w wr
theorem sea_any {w:World} {base:Nat} {v:Value} {lv:List (Grt × Value)} (h:GrM w base v lv) (hs:SrtG (lv.map Prod.fst)) (hn:lv.length≤1000000) (id:Int) :
 Calls Tryz.prog 155 #[v,.int .i64 id,.func (.func 156) #[] #[]] w fun e w' =>
  e=.returned (.tuple #[.int .i64 (posG (lv.map Prod.fst) id:Nat),.bool (hasG (lv.map Prod.fst) id)])∧Mod [] w w':=by
 obtain ⟨q,c,rfl,_⟩:=h.shape
 have hlm:(lv.map Prod.fst).length=lv.length:=by simp
 have hget:∀ t,t<lv.length→(lv.map Prod.fst).getD t default=(lv.getD t default).1:=fun t ht=>by simp [ht]
 obtain ⟨PP,hPP⟩:∃ PP,posG (lv.map Prod.fst) id=PP:=⟨_,rfl⟩
 obtain ⟨BB,hBB⟩:∃ BB,hasG (lv.map Prod.fst) id=BB:=⟨_,rfl⟩
 rw [hPP,hBB]
 have HP:=Hj2 hPP hBB
 have HH:=Hj4 h hs hlm hget
 clear h hs hlm hget hPP hBB
 go_enter Tryz.func155,Tryz.ntmps155
 go_wp2_with fail
 go_loopw [9,10] (fun i j wr=>SeaRel w lv.length (fun t=>(lv.getD t default).1.id) id i j wr) (fun i j _=>(intOf j).toNat - (intOf i).toNat)
 case atStart=>exact ⟨0,lv.length,rfl,rfl,Nat.zero_le _,Nat.le_refl _,fun t ht=>absurd ht (Nat.not_lt_zero _),fun t h1 h2=>by omega,Mod.refl _ _⟩
 case round =>
  obtain ⟨lo,hi,rfl,rfl,hlh,hhn,h1,h2,hm⟩:=hrel
  have I:=Hj2 h1 h2
  have HM:=hide hm
  clear h1 h2
  by_cases hlt:lo<hi
  · obtain ⟨m,hmid⟩:∃ m,m=(lo+hi) / 2:=⟨_,rfl⟩
    have hm1:lo≤m:=by omega
    have hm2:m<hi:=by omega
    obtain ⟨b,rfl,_,_,hc,hf,_⟩:=(HH.out.1.mod hm (by simp)).at_ m (by omega)
    have c0:=hc 0 (by decide)
    have c1:=hc 1 (by decide)
    have c2:=hc 2 (by decide)
    have c3:=hc 3 (by decide)
    have c4:=hc 4 (by decide)
    have c5:=hc 5 (by decide)
    generalize hg:lv.getD m default=pr at c0 c1 c2 c3 c4 c5
    obtain ⟨⟨gi,ho,pa,mo,st,te⟩,sv⟩:=pr
    simp [encG,cellsG] at c0 c1 c2 c3 c4 c5
    have HG:=hide hg
    have HMID:=hide hmid
    have hsh:((lo:Int)+(hi:Int)) / 2=(m:Int):=by omega
    have hmn:(m:Int)<(lv.length:Int):=by omega
    have hmn':m<lv.length:=by omega
    have hat:=fun (W:World)=>at1_any ⟨gi,ho,pa,mo,st,te⟩ sv id W
    unfold aggG cellsG at hat
    simp only at hat
    generalize hcmp:cmpInt gi id=cc at hat
    have HC:=hide hcmp
    clear hc hg hmid hcmp hm
    go_wp2_with (go_at_call 156;refine (hat _).mono ?_;rintro e w1 ⟨rfl,hm1⟩)
    · rename_i hlt0
      have hgi:gi<id:=by
       rcases cmpInt_cases gi id with ⟨a,_⟩ | ⟨a,e⟩ | ⟨a,e⟩
       · exact a
       · have:=HC.out;omega
       · have:=HC.out;omega
      refine ⟨⟨m+1,hi,by go_num,rfl,by omega,hhn,fun t ht=>?_,I.out.2,HM.out.then hm1⟩,by simp [intOf];omega⟩
      have hs:=HH.out.2.1
      by_cases e:t=m
      · subst e
        show (lv.getD t default).1.id<id
        rw [HG.out];exact hgi
      · have:=srt_at hs (a:=t) (b:=m) (by omega) (by rw [HH.out.2.2.1];omega)
        rw [HH.out.2.2.2 t (by omega),HH.out.2.2.2 m hmn',HG.out] at this
        exact Int.lt_trans this hgi
    · rename_i hlt0
      have hgi:id≤gi:=by
       rcases cmpInt_cases gi id with ⟨a,e⟩ | ⟨a,e⟩ | ⟨a,e⟩
       · have:=HC.out;omega
       · omega
       · omega
      refine ⟨⟨lo,m,rfl,rfl,by omega,by omega,I.out.1,fun t ht htn=>?_,HM.out.then hm1⟩,by simp [intOf];omega⟩
      have hs:=HH.out.2.1
      by_cases e:t=m
      · subst e
        show id≤(lv.getD t default).1.id
        rw [HG.out];exact hgi
      · have:=srt_at hs (a:=m) (b:=t) (by omega) (by rw [HH.out.2.2.1];omega)
        rw [HH.out.2.2.2 t (by omega),HH.out.2.2.2 m hmn',HG.out] at this
        exact Int.le_trans hgi (Int.le_of_lt this)
  · have hlo:hi=lo:=by omega
    subst hlo
    have hp:posG (lv.map Prod.fst) id=hi:=pos_eq _ hi (by rw [HH.out.2.2.1];exact hhn) (fun t ht=>by rw [HH.out.2.2.2 t (by omega)];exact I.out.1 t ht) (fun hx=>by
     rw [HH.out.2.2.1] at hx
     rw [HH.out.2.2.2 hi hx];exact I.out.2 hi (Nat.le_refl _) hx)
    have hh:=has_eq HH.out.2.1 hp
    rw [HH.out.2.2.1,HP.out.2] at hh
    rw [HP.out.1] at hp
    subst hp
    by_cases hx:PP<lv.length
    · obtain ⟨b,rfl,_,_,hc,hf,_⟩:=(HH.out.1.mod hm (by simp)).at_ PP hx
      rw [HH.out.2.2.2 PP hx] at hh
      have c0:=hc 0 (by decide)
      have c1:=hc 1 (by decide)
      have c2:=hc 2 (by decide)
      have c3:=hc 3 (by decide)
      have c4:=hc 4 (by decide)
      have c5:=hc 5 (by decide)
      generalize hg:lv.getD PP default=pr at c0 c1 c2 c3 c4 c5 hh
      obtain ⟨⟨gi,ho,pa,mo,st,te⟩,sv⟩:=pr
      simp [encG,cellsG] at c0 c1 c2 c3 c4 c5
      simp only [hx,decide_true,Bool.true_and] at hh
      subst hh
      have hmn:(PP:Int)<(lv.length:Int):=by omega
      have hat:=fun (W:World)=>at1_any ⟨gi,ho,pa,mo,st,te⟩ sv id W
      unfold aggG cellsG at hat
      simp only at hat
      have hce:(cmpInt gi id==0)=decide (gi=id):=by
       rw [Bool.eq_iff_iff,beq_iff_eq,decide_eq_true_eq]
       rcases cmpInt_cases gi id with ⟨a,e⟩ | ⟨a,e⟩ | ⟨a,e⟩ <;> omega
      generalize hcmp:cmpInt gi id=cc at hat hce
      have HC:=hide hce
      clear hc hg hcmp hm hce
      go_wp2_with (go_at_call 156;refine (hat _).mono ?_;rintro e w1 ⟨rfl,hm1⟩)
      all_goals (go_ret2;refine ⟨?_,HM.out.then hm1⟩;rw [← HC.out];first | done | (simp [*];done))
    · have hh2:BB=false:=by rw [hh,decide_eq_false hx];rfl
      subst hh2
      have hx':¬ (PP:Int)<(lv.length:Int):=by omega
      clear hh hm
      go_wp2_with fail
      go_ret2
      exact ⟨rfl,HM.out⟩
theorem at_any {w:World} {base:Nat} {v:Value} {lv:List (Grt × Value)} (h:GrM w base v lv) (hs:SrtG (lv.map Prod.fst)) (hn:lv.length≤1000000) (id:Int) :
 Calls Tryz.prog 121 #[v,.int .i64 id] w fun e w' =>
  e=.returned (.tuple #[.int .i64 (posG (lv.map Prod.fst) id:Nat),.bool (hasG (lv.map Prod.fst) id)])∧Mod [] w w':=by
 have hsea:=sea_any h hs hn id
 obtain ⟨q,c,rfl,_⟩:=h.shape
 generalize posG (lv.map Prod.fst) id=k at hsea
 generalize hasG (lv.map Prod.fst) id=B at hsea
 clear h hs
 go_enter Tryz.func121,Tryz.ntmps121
 go_wp2_with fail
 refine hsea.mono ?_
 rintro e w1 ⟨rfl,hm⟩
 clear hsea
 go_wp2_with fail
 go_ret2
 exact ⟨rfl,hm⟩
theorem eqf_nil (q:Option Addr) (n c:Nat) (hn:n≤1000000) (w:World) :
 Calls Tryz.prog 158 #[.slice q n c,.slice none 0 0,.func (.func 118) #[] #[]] w fun e w'=>e=.returned (.bool (decide (n=0)))∧w'=w:=by
 by_cases h:n=0
 · subst h
   go_enter Tryz.func158,Tryz.ntmps158
   go_wp2_with fail
   go_loopw [17] (fun i wr=>i=.int .i64 0∧wr=w) (fun _ _=>0)
   case atStart=>exact ⟨rfl,rfl⟩
   case round =>
    obtain ⟨rfl,rfl⟩:=hrel
    go_wp2_with fail
    go_ret
    exact ⟨rfl,rfl⟩
 · rw [decide_eq_false h]
   have hb:((n:Int) != 0)=true:=by rw [bne_iff_ne];omega
   clear h
   go_enter Tryz.func158,Tryz.ntmps158
   go_wp2_with fail
   go_ret
   exact ⟨rfl,rfl⟩
theorem bk_dec (b:Bk) (n:Nat) (hn:b.grants.length=n):decide (b=Bk.new)=((b.next==1)&&((b.boots==0)&&((b.longest==0)&&decide (n=0)))):=by
 rw [Bool.eq_iff_iff]
 simp only [Bool.and_eq_true,decide_eq_true_eq,beq_iff_eq]
 constructor
 · rintro rfl
   exact ⟨rfl,rfl,rfl,hn.symm⟩
 · rintro ⟨h1,h2,h3,h4⟩
   exact bk_ext ⟨h1,h2,h3,List.length_eq_zero_iff.1 (by omega)⟩
theorem same_new {w:World} {base:Nat} {v:Value} {b:Bk} {lv:List (Grt × Value)} (h:BkM w base v b lv) (hn:lv.length≤1000000) :
 Calls Tryz.prog 122 #[aggB b v,aggB Bk.new (.slice none 0 0)] w fun e w'=>e=.returned (.bool (decide (b=Bk.new)))∧Mod [] w w':=by
 obtain ⟨q,c,rfl,_⟩:=h.gr.shape
 have hl:b.grants.length=lv.length:=by rw [h.eq];simp
 have hd:=bk_dec b _ hl
 obtain ⟨nx,bo,lo,gs⟩:=b
 simp only at hd
 rw [hd]
 have hq:=fun (W:World)=>eqf_nil q lv.length c hn W
 unfold aggB Bk.new
 simp only
 generalize decide (lv.length=0)=B at hq hd
 clear hd hl h
 by_cases h1:nx=1
 · subst h1
   by_cases h2:bo=0
   · subst h2
     by_cases h3:lo=0
     · subst h3
       go_enter Tryz.func122,Tryz.ntmps122
       go_wp2_with (go_at_call 158;refine (hq _).mono ?_;rintro e w1 ⟨rfl,rfl⟩)
       go_ret
       exact ⟨by simp,((Mod.refl _ _).alloc _).alloc _⟩
     · have e3:(lo==0)=false:=by simpa using h3
       clear h3
       go_enter Tryz.func122,Tryz.ntmps122
       go_wp2_with fail
       go_ret
       exact ⟨by simp [e3],((Mod.refl _ _).alloc _).alloc _⟩
   · have e2:(bo==0)=false:=by simpa using h2
     clear h2
     go_enter Tryz.func122,Tryz.ntmps122
     go_wp2_with fail
     go_ret
     exact ⟨by simp [e2],((Mod.refl _ _).alloc _).alloc _⟩
 · have e1:(nx==1)=false:=by simpa using h1
   clear h1
   go_enter Tryz.func122,Tryz.ntmps122
   go_wp2_with fail
   go_ret
   exact ⟨by simp [e1],((Mod.refl _ _).alloc _).alloc _⟩
theorem limits_any {w:World} {v:Value} (b:Bk) (k:Int) {q:Option Addr} {c:Nat} (hv:v=.slice q b.grants.length c) (hn:b.grants.length≤1000000) :
 Calls Tryz.prog 81 #[aggB b v,.int .i64 k] w fun e w'=>e=.returned (.int .i64 (limitI b k))∧Mod [] w w':=by
 subst hv
 obtain ⟨nx,bo,lo,gs⟩:=b
 unfold aggB
 simp only at hn ⊢
 obtain ⟨R,hR⟩:∃ R,limitI ⟨nx,bo,lo,gs⟩ k=R:=⟨_,rfl⟩
 rw [hR]
 unfold limitI at hR
 simp only at hR
 generalize gs.length=n at hR hn
 have HR:=hide hR
 clear hR
 have hk:k=4∨k=5∨k=7∨k=3∨(k≠4∧k≠5∧k≠7∧k≠3):=by omega
 rcases hk with rfl | rfl | rfl | rfl | ⟨k1,k2,k3,k4⟩
 · go_enter Tryz.func81,Tryz.ntmps81
   go_wp2_with fail
   all_goals (go_ret;refine ⟨?_,(Mod.refl _ _).alloc _⟩;show Ending.returned (.int .i64 _)=Ending.returned (.int .i64 _);congr 2;rw [← HR.out];(repeat' split) <;> first | omega | (simp_all;done) | (simp_all;omega))
 · go_enter Tryz.func81,Tryz.ntmps81
   go_wp2_with fail
   all_goals (go_ret;refine ⟨?_,(Mod.refl _ _).alloc _⟩;show Ending.returned (.int .i64 _)=Ending.returned (.int .i64 _);congr 2;rw [← HR.out];(repeat' split) <;> first | omega | (simp_all;done) | (simp_all;omega))
 · go_enter Tryz.func81,Tryz.ntmps81
   go_wp2_with fail
   all_goals (go_ret;refine ⟨?_,(Mod.refl _ _).alloc _⟩;show Ending.returned (.int .i64 _)=Ending.returned (.int .i64 _);congr 2;rw [← HR.out];(repeat' split) <;> first | omega | (simp_all;done) | (simp_all;omega))
 · go_enter Tryz.func81,Tryz.ntmps81
   go_wp2_with fail
   all_goals (go_ret;refine ⟨?_,(Mod.refl _ _).alloc _⟩;show Ending.returned (.int .i64 _)=Ending.returned (.int .i64 _);congr 2;rw [← HR.out];(repeat' split) <;> first | omega | (simp_all;done) | (simp_all;omega))
 · have e1:(k==4)=false:=by simpa using k1
   have e2:(k==5)=false:=by simpa using k2
   have e3:(k==7)=false:=by simpa using k3
   have e4:(k==3)=false:=by simpa using k4
   have HK:=Hj4 k1 k2 k3 k4
   clear k1 k2 k3 k4
   go_enter Tryz.func81,Tryz.ntmps81
   go_wp2_with fail
   go_ret
   exact ⟨by rw [← HR.out];simp [HK.out.1,HK.out.2.1,HK.out.2.2.1,HK.out.2.2.2],(Mod.refl _ _).alloc _⟩
end Go.Proofs.YtpphoeimakjjdaaGreatDoor
/-
  WALKS: layer 11: a grant more behind grants of one's own; a book copied.
-/
namespace Go.Proofs.YtpphoeimakjjdaaGreatDoor
set_option maxRecDepth 100000
set_option maxHeartbeats 2000000
open Go.RowKit

theorem info_grant:(Tryz.prog.info? 40).map (fun i=>(i.zero,i.size,i.bytes))=some (some (aggG Grt.zero (.slice none 0 0)),6,72):=by kernel_rfl
theorem one_G {g:Grt} {sv:Value} (hs:sv.oneCell'=true):∀ u∈cellsG g sv,u.oneCell'=true:=by
 intro u hu
 simp only [cellsG,List.mem_cons,List.not_mem_nil,or_false] at hu
 rcases hu with rfl | rfl | rfl | rfl | rfl | rfl <;> first | rfl | exact hs
theorem one_row {w:World} {base:Nat} {T:TypeId} {sz n:Nat} {v:Value} {xs:List Value} (h:w.ownsRow base T sz v n xs):v.oneCell'=true:=by
 rcases h.2 with ⟨rfl,_⟩ | ⟨g,cap,cur,rfl,_⟩ <;> rfl
theorem GrM.app {w w':World} {base:Nat} {u u':Value} {sl:List (Grt × Value)} {g:Grt} {sv:Value} (h:GrM w base u sl) (hst:w.ownsRow base 3 1 sv g.stamp.length (g.stamp.map (Value.int .i64))) (hap:∀ k,k∈ob sv→k ∉ ob u)
 (hr:w'.ownsRow base 40 6 u' (sl.length+1) (sl.flatMap encG++cellsG g sv)) (hm:Mod (ob u) w w') (hu:∀ k,k∈ob u'→k∈ob u∨w.heap.size≤k):GrM w' base u' (sl++[(g,sv)]):=by
 refine ⟨by rw [List.length_append,List.flatMap_append];simpa [encG] using hr,fun p hp=>?_⟩
 have key:w.ownsRow base 3 1 p.2 p.1.stamp.length (p.1.stamp.map (Value.int .i64))∧∀ k,k∈ob p.2→k ∉ ob u:=by
  rcases List.mem_append.1 hp with hp | hp
  · exact h.st p hp
  · obtain rfl:p=(g,sv):=by simpa using hp
    exact ⟨hst,hap⟩
 refine ⟨hm.row key.1 (fun k hk=>key.2 k (by simpa [ob] using hk)),fun k hk hk2=>?_⟩
 rcases hu k hk2 with e | e
 · exact key.2 k hk e
 · have:=(ob_of_row key.1 k hk).2
   omega
theorem wpList_app_gr {ops:Array Oper} {rest:List Oper} {o:Oper} {a:Act} {Q:Exit→Act→World→Prop} (w:World) (hgd:o.guard=none) (s x:Operand)
 (ho:o.op=.call { callee:=.builtin .append,args:=#[s,x],argTypes:=#[32,32] })
 {base:Nat} {u:Value} {sl:List (Grt × Value)} (hs:a.eval s=u) (h:GrM w base u sl) (hn:sl.length≤1000000) (hbase:base≤w.heap.size) {k:Nat} (hx:a.eval x=.slice (some ⟨k,0,none⟩) 1 1) {g:Grt} {sv:Value}
 (hk:w.heap[k]?=some (.cells (cellsG g sv).toArray 40 (0,0))) (hst:w.ownsRow base 3 1 sv g.stamp.length (g.stamp.map (Value.int .i64))) (hap:∀ k,k∈ob sv→k ∉ ob u)
 (hK:∀ u' w',GrM w' base u' (sl++[(g,sv)])→Mod (ob u) w w'→(∃ p c,u'=.slice p (sl.length+1) c)→(∀ k,k∈ob u'→k∈ob u∨w.heap.size≤k)→wpList Tryz.prog ops Q rest (a.put o.dst u') w'):wpList Tryz.prog ops Q (o::rest) a w:=by
 obtain ⟨i0,hi0,hz0,hs0,hb0⟩:=info_parts info_grant
 refine wpList_append_lies w hgd s x 32 ho base 40 i0 _ 6 72 Tryz.underlying32 hi0 hz0 hs0 hb0 rfl (by decide) _ _ _ hs h.row ⟨k,0,none⟩ 1 1 (cellsG g sv) hx rfl (World.news_of_block (cs:=(cellsG g sv).toArray) (t:=40) (fr:=(0,0)) hk) (one_G (one_row hst)) (by decide) (by unfold maxLen;omega) (by omega) hbase ?_
 intro g' cap w' hr hg hat
 have hm:Mod (ob u) w w':=(Mod.refl (ob u) w).grown hg (fun k e _=>by simp [ob,e])
 have hu:∀ k,k∈ob (.slice (some ⟨g',0,none⟩) (sl.length+1) cap)→k∈ob u∨w.heap.size≤k:=fun k hk=>by
  have:k=g':=by simpa [ob,Value.ownBlock] using hk
  subst this
  rcases hat with e | e
  · exact .inl (by simp [ob,e])
  · exact .inr (by omega)
 exact hK _ _ (h.app hst hap hr hm hu) hm ⟨_,_,rfl⟩ hu
def CopRel (W1:World) (base:Nat) (lv:List (Grt × Value)) (u i:Value) (wr:World):Prop :=
 ∃ (k:Nat) (sl:List (Grt × Value)),i=.int .i64 (k:Int)∧k≤lv.length∧sl.map Prod.fst=(lv.take k).map Prod.fst∧GrM wr base u sl∧Mod [] W1 wr
theorem copied_any {w:World} {base:Nat} {gv:Value} {b:Bk} {lv:List (Grt × Value)} (h:BkM w base gv b lv) (hn:lv.length≤1000) (hst:∀ p,p∈lv→p.1.stamp.length≤1000000) :
 Calls Tryz.prog 82 #[aggB b gv] w fun e w'=>∃ gv' lv',e=.returned (aggB b gv')∧BkM w' w.heap.size gv' b lv'∧Mod [] w w':=by
 obtain ⟨nx,bo,lo,gs⟩:=b
 have heq:gs=lv.map Prod.fst:=h.eq
 obtain ⟨q,c,rfl,hmx⟩:=h.gr.shape
 have hmx':lv.length≤9223372036854775807:=hmx
 unfold aggB
 simp only
 obtain ⟨W1,hW1⟩:∃ W1,W1=(w.alloc (.cells #[.int .i64 nx,.int .i64 bo,.int .i64 lo,.slice q lv.length c] 34 (0,0))).alloc (.cells #[.int .i64 0,.int .i64 0,.int .i64 0,.slice none 0 0] 34 (0,0)):=⟨_,rfl⟩
 have hb0:W1.heap[w.heap.size]?=some (.cells #[.int .i64 nx,.int .i64 bo,.int .i64 lo,.slice q lv.length c] 34 (0,0)):=by rw [hW1];exact blk_alloc (heap_alloc_new w _) _
 have hb1:W1.heap[w.heap.size+1]?=some (.cells #[.int .i64 0,.int .i64 0,.int .i64 0,.slice none 0 0] 34 (0,0)):=by
  rw [hW1]
  have:=heap_alloc_new (w.alloc (.cells #[.int .i64 nx,.int .i64 bo,.int .i64 lo,.slice q lv.length c] 34 (0,0))) (.cells #[.int .i64 0,.int .i64 0,.int .i64 0,.slice none 0 0] 34 (0,0))
  simpa using this
 have hgr:Gr w W1:=by rw [hW1];exact ((Gr.refl w).alloc _).alloc _
 have hsz:W1.heap.size=w.heap.size+2:=by rw [hW1];simp
 have a3:W1.cell? ⟨w.heap.size,3,none⟩=some (.slice q lv.length c):=blk_cell hb0 3
 have HH:=Hj3 h hst heq
 have HB:=Hj4 hb0 hb1 hgr hsz
 clear h hst heq hb0 hb1 hgr hsz hmx
 go_enter Tryz.func82,Tryz.ntmps82
 go_upto_region 1 with fail
 rw [← hW1]
 clear hW1
 go_wp2_with fail
 go_loopw [3,9] (fun u i wr=>CopRel W1 (w.heap.size+2) lv u i wr) (fun _ i _=>lv.length - (intOf i).toNat)
 case atStart=>exact ⟨0,[],rfl,Nat.zero_le _,rfl,GrM.nil _ _,Mod.refl _ _⟩
 case round =>
  obtain ⟨k,sl,rfl,hk,hmap,hgm,hm⟩:=hrel
  have hsl:sl.length=k:=by have:=congrArg List.length hmap;simp at this;omega
  by_cases hlt:k<lv.length
  · obtain ⟨bb,rfl,hbb,hb1,hc,hf,hrd⟩:=((HH.out.1.gr.gr HB.out.2.2.1).mod hm (by simp)).at_ k hlt
    have hls:=HH.out.2.1 _ (show lv.getD k default∈lv by simp [hlt])
    have htk:(lv.take (k+1)).map Prod.fst=(lv.take k).map Prod.fst++[(lv.getD k default).1]:=by rw [List.take_add_one,List.map_append];simp [hlt]
    generalize lv.getD k default=pr at hc hrd hls htk
    obtain ⟨⟨id,ho,pa,mo,st,te⟩,sv⟩:=pr
    simp only at hrd hls htk
    have c0:=hc 0 (by decide)
    have c1:=hc 1 (by decide)
    have c2:=hc 2 (by decide)
    have c3:=hc 3 (by decide)
    have c4:=hc 4 (by decide)
    have c5:=hc 5 (by decide)
    simp [encG,cellsG] at c0 c1 c2 c3 c4 c5
    have ht:=twinG_any (g:=⟨id,ho,pa,mo,st,te⟩) (hrd.gr ((Gr.refl wr).alloc (.cells #[.int .i64 id,.int .i64 ho,.string pa,.int .i64 mo,sv,.int .i64 te] 40))) hls
    obtain ⟨qs,cs,rfl⟩:=hrd.len
    unfold aggG cellsG NewG at ht
    simp only at ht
    have HM:=Hj5 hm hgm htk hmap hsl
    have hszr:=hm.size
    clear hc hrd hls htk hm hgm hmap hsl
    go_wp2_with fail
    refine ht.mono ?_
    rintro e w2 ⟨v',rfl,hr2,hm2⟩
    have hgro:=HM.out.2.1.row
    have hap:∀ k,k∈ob v'→k ∉ ob u3:=fun k hk hk2=>by
     have h1:=(ob_of_row hr2 k hk).1
     have h2:=(ob_of_row hgro k hk2).2
     simp at h1
     omega
    have hszb:=HB.out.2.2.2
    have hbase2:w.heap.size+2≤w2.heap.size:=by have:=hm2.size;simp at this;omega
    have hks:sl.length=k:=HM.out.2.2.2.2
    have hst0:=World.ownsRow.mono hr2 (show w.heap.size+2≤_ by simp;omega)
    have hgm0:=(HM.out.2.1.gr ((Gr.refl wr).alloc _)).mod hm2 (by simp)
    obtain ⟨p',c',hv'⟩:=(rdN_of_row hr2).len
    subst hv'
    obtain ⟨W3,hW3⟩:∃ W3,W3=w2.alloc (.cells #[.int .i64 id,.int .i64 ho,.string pa,.int .i64 mo,.slice p' st.length c',.int .i64 te] 40 (0,0)):=⟨_,rfl⟩
    have hk3:W3.heap[w2.heap.size]?=some (.cells (cellsG ⟨id,ho,pa,mo,st,te⟩ (.slice p' st.length c')).toArray 40 (0,0)):=by rw [hW3];exact heap_alloc_new w2 _
    have g3:Gr w2 W3:=by rw [hW3];exact (Gr.refl w2).alloc _
    have hgm2:=hgm0.gr g3
    have hst3:=(g3.mod []).row hst0 (by simp)
    have hsz3:w2.heap.size<W3.heap.size:=lt_of_block hk3
    have HN:=Hj3 hm2 hgro g3
    have HG2:=Hj4 hgm2 hst3 hap hk3
    clear ht c0 c1 c2 c3 c4 c5 hr2 hm2 hgro hst0 hgm0 hgm2 hst3 hap a3 hk3 g3
    simp only [aggG,cellsG]
    go_wp2_with (
     at_builtin
     rw [← hW3]
     refine wpList_app_gr (g:=⟨id,ho,pa,mo,st,te⟩) (sv:=.slice p' st.length c') (sl:=sl) (base:=w.heap.size+2) W3 rfl _ _ rfl rfl HG2.out.1 (by omega) (by omega) (k:=w2.heap.size) rfl HG2.out.2.2.2 HG2.out.2.1 HG2.out.2.2.1 ?_
     rintro u' w3 hgm3 hm3 ⟨p3,c3,rfl⟩ -)
    go_roundw
    case rel =>
     refine ⟨k+1,sl++[(⟨id,ho,pa,mo,st,te⟩,.slice p' st.length c')],by go_num,by omega,?_,(by rw [← hks];exact hgm3),?_⟩
     · rw [HM.out.2.2.1,List.map_append,HM.out.2.2.2.1];rfl
     · refine (((HM.out.1.alloc _).then HN.out.1).gr HN.out.2.2).trans hm3 (by simp) (fun x hx hlt=>?_)
       have:=(ob_of_row HN.out.2.1 x hx).1
       omega
    case measure=>simp [intOf];omega
  · obtain rfl:k=lv.length:=by omega
    obtain ⟨p3,c3,hu,_⟩:=hgm.shape
    rw [hsl] at hu
    subst hu
    obtain ⟨hb0,hb1,hgr,hsz⟩:=HB.out
    have d0:=hm.at_ hb0 (by simp)
    have d1:=hm.at_ hb1 (by simp)
    have e0:wr.cell? ⟨w.heap.size,0,none⟩=some (.int .i64 nx):=blk_cell d0 0
    have e1:wr.cell? ⟨w.heap.size,1,none⟩=some (.int .i64 bo):=blk_cell d0 1
    have e2:wr.cell? ⟨w.heap.size,2,none⟩=some (.int .i64 lo):=blk_cell d0 2
    have e3:wr.cell? ⟨w.heap.size,3,none⟩=some (.slice q lv.length c):=blk_cell d0 3
    have g0:wr.cell? ⟨w.heap.size+1,0,none⟩=some (.int .i64 0):=blk_cell d1 0
    have g1:wr.cell? ⟨w.heap.size+1,1,none⟩=some (.int .i64 0):=blk_cell d1 1
    have g2:wr.cell? ⟨w.heap.size+1,2,none⟩=some (.int .i64 0):=blk_cell d1 2
    have g3:wr.cell? ⟨w.heap.size+1,3,none⟩=some (.slice none 0 0):=blk_cell d1 3
    have F0:=blk_free d0
    have F1:=blk_free d1
    have hl0:w.heap.size<wr.heap.size:=lt_of_block d0
    have hl1:w.heap.size+1<wr.heap.size:=lt_of_block d1
    have HE:=Hj5 d0 d1 hm hgm hmap
    have HS:=Hj2 hgr hsz
    clear hb0 hb1 hgr hsz d0 d1 hm hgm hmap a3 hsl
    go_wp2_with fail
    obtain ⟨d0,d1,hm,hgm,hmap⟩:=HE.out
    have hsz:=HS.out.2
    have q':=stL_all (blk_other d1 (a:=⟨w.heap.size,3,none⟩) (by simp) (.slice p3 lv.length c3)) [.int .i64 nx,.int .i64 bo,.int .i64 lo,.slice p3 lv.length c3] rfl
    have qm:=stL_mod (S:=[w.heap.size,w.heap.size+1]) (w0:=wr) (r:=w.heap.size+1) (fun _=>by simp) [.int .i64 nx,.int .i64 bo,.int .i64 lo,.slice p3 lv.length c3] 0 _ ((Mod.refl [w.heap.size,w.heap.size+1] wr).setCell (p:=⟨w.heap.size,3,none⟩) (fun _=>by simp) (.slice p3 lv.length c3))
    refine bodyPost_ret (v:=.agg #[.int .i64 nx,.int .i64 bo,.int .i64 lo,.slice p3 lv.length c3]) (res_cell1 Tryz.results82 _ _ rfl q' Tryz.isAgg34 Tryz.sizeOf34) rfl ⟨_,sl,rfl,⟨?_,?_⟩,?_⟩
    · exact (hgm.mod qm (fun k hk=>by simp at hk;omega)).base (by omega)
    · have:=HH.out.2.2
      simp only
      rw [this,hmap,List.take_length]
    · exact ((HS.out.1.mod []).then hm).trans qm (by simp) (fun x hx hlt=>by simp at hx;omega)
end Go.Proofs.YtpphoeimakjjdaaGreatDoor
/-
  WALKS: the document's layer 11: counter, last, Grant. (Written by wip/gen_ledrf3.py.)
-/
namespace Go.Proofs.YtpphoeimakjjdaaGreatDoor
set_option maxRecDepth 100000
set_option maxHeartbeats 4000000
open Go.RowKit

theorem rcounter_any (n:Int) (w:World):Calls Tryz.prog 131 #[.int .i64 n] w fun e w'=>e=.returned (.bool (decide (countOk n)))∧w'=w:=by
 by_cases h1:1≤n
 · by_cases h2:n≤1099511627776
   · have e:decide (countOk n)=true:=decide_eq_true ⟨h1,h2⟩
     rw [e]
     go_enter Tryz.func131,Tryz.ntmps131
     go_wp2_with fail
     go_ret
     exact ⟨rfl,rfl⟩
   · have e:decide (countOk n)=false:=decide_eq_false (fun h=>h2 h.2)
     rw [e]
     go_enter Tryz.func131,Tryz.ntmps131
     go_wp2_with fail
     go_ret
     exact ⟨rfl,rfl⟩
 · have e:decide (countOk n)=false:=decide_eq_false (fun h=>h1 h.1)
   rw [e]
   go_enter Tryz.func131,Tryz.ntmps131
   go_wp2_with fail
   go_ret
   exact ⟨rfl,rfl⟩
theorem rlast_any {w:World} {u:Value} {a:List Int} (hu:RdN w u a):Calls Tryz.prog 90 #[u] w fun e w'=>e=.returned (.int .i64 (lastI a))∧w'=w:=by
 have h1:a.length≤9223372036854775807:=hu.1
 obtain ⟨p,c,rfl⟩:=hu.len
 by_cases h0:a.length=0
 · have e:lastI a=0:=by rw [List.length_eq_zero_iff.1 h0];rfl
   rw [e,h0]
   clear hu
   go_enter Tryz.func90,Tryz.ntmps90
   go_wp2_with fail
   go_ret
   exact ⟨rfl,rfl⟩
 · obtain ⟨m,hm⟩:∃ m,a.length=m+1:=⟨a.length - 1,by omega⟩
   obtain ⟨b,o,rfl,hb,hc⟩:=hu.at_ m (by omega)
   have hl:a.getD m 0=lastI a:=by unfold lastI;rw [hm];rfl
   rw [hl] at hc
   rw [hm] at h1 ⊢
   generalize lastI a=x at hc ⊢
   have i0:((m+1:Nat):Int)=(m:Int)+1:=by omega
   have i1:IntKind.i64.wrap ((m:Int)+1 - 1)=(m:Int):=by rw [IntKind.wrap_i64];omega
   have i2:IntKind.i64.wrap (m:Int)=(m:Int):=by rw [IntKind.wrap_i64];omega
   have i3:(((m:Int)+1)==0)=false:=by simp;omega
   have i4:(m:Int)<(m:Int)+1:=by omega
   have i5:(0:Int)≤(m:Int):=by omega
   clear hu hl hm h0
   go_enter Tryz.func90,Tryz.ntmps90
   go_wp2_with fail
   go_ret
   exact ⟨rfl,rfl⟩
set_option linter.unusedSimpArgs false in
theorem rgrant_any {w:World} {g:Grt} {sv:Value} (hs:RdN w sv g.stamp) (hp:g.path.size≤9223372036854775806) :
 Calls Tryz.prog 129 #[aggG g sv] w fun e w'=>e=.returned (.bool (grantB g))∧Mod [] w w':=by
 obtain ⟨id,ho,pa,mo,st,te⟩:=g
 simp only at hs hp
 obtain ⟨G,hG⟩:∃ G,grantB ⟨id,ho,pa,mo,st,te⟩=G:=⟨_,rfl⟩
 rw [hG]
 unfold grantB stmB at hG
 simp only at hG
 obtain ⟨W1,hW1⟩:∃ W1,W1=w.alloc (.cells #[.int .i64 id,.int .i64 ho,.string pa,.int .i64 mo,sv,.int .i64 te] 40 (0,0)):=⟨_,rfl⟩
 have hb1:W1.heap[w.heap.size]?=some (.cells #[.int .i64 id,.int .i64 ho,.string pa,.int .i64 mo,sv,.int .i64 te] 40 (0,0)):=by rw [hW1];exact heap_alloc_new w _
 have hm1:Mod [] w W1:=by rw [hW1];exact (Mod.refl _ _).alloc _
 have k2:=rpvalid_any pa hp W1
 have k3:=fun {W:World} (g:Mod [] W1 W)=>rsvalid_any (hs.mod (hm1.then g) (by simp))
 have k4:=fun {W:World} (g:Mod [] W1 W)=>rlast_any (hs.mod (hm1.then g) (by simp))
 have k1:=fun (W:World)=>rcounter_any id W
 have k6:=fun (W:World)=>rmode_any mo W
 have k5:=fun (W:World)=>rlegal_any te W
 have hlen:st.length≤9223372036854775807:=hs.1
 obtain ⟨q,c,rfl⟩:=hs.len
 obtain ⟨n,hn⟩:∃ n,st.length=n:=⟨_,rfl⟩
 rw [hn] at k3 k4 hG hlen hb1 hW1 ⊢
 have e4:decide (mo=1∨mo=2)=decide (modeOk mo):=rfl
 have e5:decide (legalT te)=decide (4≤te∧te≤1048576):=rfl
 rw [e4,e5] at hG
 generalize decide (countOk id)=b1 at k1 hG
 generalize pathOk pa.data.toList=b2 at k2 hG
 generalize decide (stampOk st)=b3 at k3 hG
 generalize lastI st=n4 at k4 hG
 generalize decide (modeOk mo)=b6 at k6 hG
 generalize decide (4≤te∧te≤1048576)=b5 at k5 hG
 have HB:=Hj2 hb1 hm1
 have C1:=blk_cell hb1
 have HG:=hide hG
 clear hs hp hb1 hm1 hG hn
 unfold aggG cellsG
 simp only
 cases b1 with
 | false =>
   cases b2
   all_goals
    cases b3
    all_goals
     by_cases h7:(0:Int)<(n:Int)
     · have h7d:decide ((0:Int)<(n:Int))=true:=decide_eq_true h7
       go_enter Tryz.func129,Tryz.ntmps129
       go_upto_region 1 with fail
       rw [← hW1]
       clear hW1
       go_upto_region 3 with (first
        | (go_at_call 161;refine k2.mono ?_;rintro e w2 ⟨rfl,m2⟩;have C2:=blk_cell (m2.at_ HB.out.1 (by simp));have H2:=hide m2;clear m2)
        | (go_at_call 132;refine (k3 H2.out).mono ?_;rintro e w3 ⟨rfl,hx⟩;rw [hx];clear hx)
        | fail)
       clear C1 k2 k3
       have k4':=fun (j:Nat)=>k4 (H2.out.drewN j)
       go_quiet ((first
        | (go_at_call 131;exact Calls.quiet_of_same (k1 _))
        | (go_at_call 162;exact Calls.quiet_of_same (k6 _))
        | (go_at_call 90;exact Calls.quiet_of_same (k4' _))
        | (go_at_call 128;exact Calls.quiet_of_same (k5 _))))
       go_wp2_with fail
       go_ret
       exact ⟨by rw [← HG.out];first | (simp [];done) | (simp [];omega) | (simp;omega),(HB.out.2.then H2.out).drewN _⟩
     · have h7d:decide ((0:Int)<(n:Int))=false:=decide_eq_false h7
       go_enter Tryz.func129,Tryz.ntmps129
       go_upto_region 1 with fail
       rw [← hW1]
       clear hW1
       go_upto_region 3 with (first
        | (go_at_call 161;refine k2.mono ?_;rintro e w2 ⟨rfl,m2⟩;have C2:=blk_cell (m2.at_ HB.out.1 (by simp));have H2:=hide m2;clear m2)
        | (go_at_call 132;refine (k3 H2.out).mono ?_;rintro e w3 ⟨rfl,hx⟩;rw [hx];clear hx)
        | fail)
       clear C1 k2 k3
       have k4':=fun (j:Nat)=>k4 (H2.out.drewN j)
       go_quiet ((first
        | (go_at_call 131;exact Calls.quiet_of_same (k1 _))
        | (go_at_call 162;exact Calls.quiet_of_same (k6 _))
        | (go_at_call 90;exact Calls.quiet_of_same (k4' _))
        | (go_at_call 128;exact Calls.quiet_of_same (k5 _))))
       go_wp2_with fail
       go_ret
       exact ⟨by rw [← HG.out];first | (simp [];done) | (simp [];omega) | (simp;omega),(HB.out.2.then H2.out).drewN _⟩
 | true =>
   by_cases h2:0≤ho
   · have h2d:decide (0≤ho)=true:=decide_eq_true h2
     by_cases h3:ho<8
     · have h3d:decide (ho<8)=true:=decide_eq_true h3
       cases b2 with
       | false =>
         cases b3
         all_goals
          by_cases h7:(0:Int)<(n:Int)
          · have h7d:decide ((0:Int)<(n:Int))=true:=decide_eq_true h7
            go_enter Tryz.func129,Tryz.ntmps129
            go_upto_region 1 with fail
            rw [← hW1]
            clear hW1
            go_upto_region 3 with (first
             | (go_at_call 161;refine k2.mono ?_;rintro e w2 ⟨rfl,m2⟩;have C2:=blk_cell (m2.at_ HB.out.1 (by simp));have H2:=hide m2;clear m2)
             | (go_at_call 132;refine (k3 H2.out).mono ?_;rintro e w3 ⟨rfl,hx⟩;rw [hx];clear hx)
             | fail)
            clear C1 k2 k3
            have k4':=fun (j:Nat)=>k4 (H2.out.drewN j)
            go_quiet ((first
             | (go_at_call 131;exact Calls.quiet_of_same (k1 _))
             | (go_at_call 162;exact Calls.quiet_of_same (k6 _))
             | (go_at_call 90;exact Calls.quiet_of_same (k4' _))
             | (go_at_call 128;exact Calls.quiet_of_same (k5 _))))
            go_wp2_with fail
            go_ret
            exact ⟨by rw [← HG.out];first | (simp [h2,h3];done) | (simp [h2,h3];omega) | (simp;omega),(HB.out.2.then H2.out).drewN _⟩
          · have h7d:decide ((0:Int)<(n:Int))=false:=decide_eq_false h7
            go_enter Tryz.func129,Tryz.ntmps129
            go_upto_region 1 with fail
            rw [← hW1]
            clear hW1
            go_upto_region 3 with (first
             | (go_at_call 161;refine k2.mono ?_;rintro e w2 ⟨rfl,m2⟩;have C2:=blk_cell (m2.at_ HB.out.1 (by simp));have H2:=hide m2;clear m2)
             | (go_at_call 132;refine (k3 H2.out).mono ?_;rintro e w3 ⟨rfl,hx⟩;rw [hx];clear hx)
             | fail)
            clear C1 k2 k3
            have k4':=fun (j:Nat)=>k4 (H2.out.drewN j)
            go_quiet ((first
             | (go_at_call 131;exact Calls.quiet_of_same (k1 _))
             | (go_at_call 162;exact Calls.quiet_of_same (k6 _))
             | (go_at_call 90;exact Calls.quiet_of_same (k4' _))
             | (go_at_call 128;exact Calls.quiet_of_same (k5 _))))
            go_wp2_with fail
            go_ret
            exact ⟨by rw [← HG.out];first | (simp [h2,h3];done) | (simp [h2,h3];omega) | (simp;omega),(HB.out.2.then H2.out).drewN _⟩
       | true =>
         cases b6 with
         | false =>
           cases b3
           all_goals
            by_cases h7:(0:Int)<(n:Int)
            · have h7d:decide ((0:Int)<(n:Int))=true:=decide_eq_true h7
              go_enter Tryz.func129,Tryz.ntmps129
              go_upto_region 1 with fail
              rw [← hW1]
              clear hW1
              go_upto_region 3 with (first
               | (go_at_call 161;refine k2.mono ?_;rintro e w2 ⟨rfl,m2⟩;have C2:=blk_cell (m2.at_ HB.out.1 (by simp));have H2:=hide m2;clear m2)
               | (go_at_call 132;refine (k3 H2.out).mono ?_;rintro e w3 ⟨rfl,hx⟩;rw [hx];clear hx)
               | fail)
              clear C1 k2 k3
              have k4':=fun (j:Nat)=>k4 (H2.out.drewN j)
              go_quiet ((first
               | (go_at_call 131;exact Calls.quiet_of_same (k1 _))
               | (go_at_call 162;exact Calls.quiet_of_same (k6 _))
               | (go_at_call 90;exact Calls.quiet_of_same (k4' _))
               | (go_at_call 128;exact Calls.quiet_of_same (k5 _))))
              go_wp2_with fail
              go_ret
              exact ⟨by rw [← HG.out];first | (simp [h2,h3];done) | (simp [h2,h3];omega) | (simp;omega),(HB.out.2.then H2.out).drewN _⟩
            · have h7d:decide ((0:Int)<(n:Int))=false:=decide_eq_false h7
              go_enter Tryz.func129,Tryz.ntmps129
              go_upto_region 1 with fail
              rw [← hW1]
              clear hW1
              go_upto_region 3 with (first
               | (go_at_call 161;refine k2.mono ?_;rintro e w2 ⟨rfl,m2⟩;have C2:=blk_cell (m2.at_ HB.out.1 (by simp));have H2:=hide m2;clear m2)
               | (go_at_call 132;refine (k3 H2.out).mono ?_;rintro e w3 ⟨rfl,hx⟩;rw [hx];clear hx)
               | fail)
              clear C1 k2 k3
              have k4':=fun (j:Nat)=>k4 (H2.out.drewN j)
              go_quiet ((first
               | (go_at_call 131;exact Calls.quiet_of_same (k1 _))
               | (go_at_call 162;exact Calls.quiet_of_same (k6 _))
               | (go_at_call 90;exact Calls.quiet_of_same (k4' _))
               | (go_at_call 128;exact Calls.quiet_of_same (k5 _))))
              go_wp2_with fail
              go_ret
              exact ⟨by rw [← HG.out];first | (simp [h2,h3];done) | (simp [h2,h3];omega) | (simp;omega),(HB.out.2.then H2.out).drewN _⟩
         | true =>
           cases b3 with
           | false =>
             by_cases h7:(0:Int)<(n:Int)
             · have h7d:decide ((0:Int)<(n:Int))=true:=decide_eq_true h7
               go_enter Tryz.func129,Tryz.ntmps129
               go_upto_region 1 with fail
               rw [← hW1]
               clear hW1
               go_upto_region 3 with (first
                | (go_at_call 161;refine k2.mono ?_;rintro e w2 ⟨rfl,m2⟩;have C2:=blk_cell (m2.at_ HB.out.1 (by simp));have H2:=hide m2;clear m2)
                | (go_at_call 132;refine (k3 H2.out).mono ?_;rintro e w3 ⟨rfl,hx⟩;rw [hx];clear hx)
                | fail)
               clear C1 k2 k3
               have k4':=fun (j:Nat)=>k4 (H2.out.drewN j)
               go_quiet ((first
                | (go_at_call 131;exact Calls.quiet_of_same (k1 _))
                | (go_at_call 162;exact Calls.quiet_of_same (k6 _))
                | (go_at_call 90;exact Calls.quiet_of_same (k4' _))
                | (go_at_call 128;exact Calls.quiet_of_same (k5 _))))
               go_wp2_with fail
               go_ret
               exact ⟨by rw [← HG.out];first | (simp [h2,h3];done) | (simp [h2,h3];omega) | (simp;omega),(HB.out.2.then H2.out).drewN _⟩
             · have h7d:decide ((0:Int)<(n:Int))=false:=decide_eq_false h7
               go_enter Tryz.func129,Tryz.ntmps129
               go_upto_region 1 with fail
               rw [← hW1]
               clear hW1
               go_upto_region 3 with (first
                | (go_at_call 161;refine k2.mono ?_;rintro e w2 ⟨rfl,m2⟩;have C2:=blk_cell (m2.at_ HB.out.1 (by simp));have H2:=hide m2;clear m2)
                | (go_at_call 132;refine (k3 H2.out).mono ?_;rintro e w3 ⟨rfl,hx⟩;rw [hx];clear hx)
                | fail)
               clear C1 k2 k3
               have k4':=fun (j:Nat)=>k4 (H2.out.drewN j)
               go_quiet ((first
                | (go_at_call 131;exact Calls.quiet_of_same (k1 _))
                | (go_at_call 162;exact Calls.quiet_of_same (k6 _))
                | (go_at_call 90;exact Calls.quiet_of_same (k4' _))
                | (go_at_call 128;exact Calls.quiet_of_same (k5 _))))
               go_wp2_with fail
               go_ret
               exact ⟨by rw [← HG.out];first | (simp [h2,h3];done) | (simp [h2,h3];omega) | (simp;omega),(HB.out.2.then H2.out).drewN _⟩
           | true =>
             by_cases h7:(0:Int)<(n:Int)
             · have h7d:decide ((0:Int)<(n:Int))=true:=decide_eq_true h7
               have h7n:0<n:=by omega
               by_cases h8:id≤n4
               · have h8d:decide (id≤n4)=true:=decide_eq_true h8
                 cases b5 with
                 | false =>
                   go_enter Tryz.func129,Tryz.ntmps129
                   go_upto_region 1 with fail
                   rw [← hW1]
                   clear hW1
                   go_upto_region 3 with (first
                    | (go_at_call 161;refine k2.mono ?_;rintro e w2 ⟨rfl,m2⟩;have C2:=blk_cell (m2.at_ HB.out.1 (by simp));have H2:=hide m2;clear m2)
                    | (go_at_call 132;refine (k3 H2.out).mono ?_;rintro e w3 ⟨rfl,hx⟩;rw [hx];clear hx)
                    | fail)
                   clear C1 k2 k3
                   have k4':=fun (j:Nat)=>k4 (H2.out.drewN j)
                   go_quiet ((first
                    | (go_at_call 131;exact Calls.quiet_of_same (k1 _))
                    | (go_at_call 162;exact Calls.quiet_of_same (k6 _))
                    | (go_at_call 90;exact Calls.quiet_of_same (k4' _))
                    | (go_at_call 128;exact Calls.quiet_of_same (k5 _))))
                   go_wp2_with fail
                   go_ret
                   exact ⟨by rw [← HG.out];first | (simp [h2,h3,h7n,h8];done) | (simp [h2,h3,h7n,h8];omega) | (simp;omega),(HB.out.2.then H2.out).drewN _⟩
                 | true =>
                   go_enter Tryz.func129,Tryz.ntmps129
                   go_upto_region 1 with fail
                   rw [← hW1]
                   clear hW1
                   go_upto_region 3 with (first
                    | (go_at_call 161;refine k2.mono ?_;rintro e w2 ⟨rfl,m2⟩;have C2:=blk_cell (m2.at_ HB.out.1 (by simp));have H2:=hide m2;clear m2)
                    | (go_at_call 132;refine (k3 H2.out).mono ?_;rintro e w3 ⟨rfl,hx⟩;rw [hx];clear hx)
                    | fail)
                   clear C1 k2 k3
                   have k4':=fun (j:Nat)=>k4 (H2.out.drewN j)
                   go_quiet ((first
                    | (go_at_call 131;exact Calls.quiet_of_same (k1 _))
                    | (go_at_call 162;exact Calls.quiet_of_same (k6 _))
                    | (go_at_call 90;exact Calls.quiet_of_same (k4' _))
                    | (go_at_call 128;exact Calls.quiet_of_same (k5 _))))
                   go_wp2_with fail
                   go_ret
                   exact ⟨by rw [← HG.out];first | (simp [h2,h3,h7n,h8];done) | (simp [h2,h3,h7n,h8];omega) | (simp;omega),(HB.out.2.then H2.out).drewN _⟩
               · have h8d:decide (id≤n4)=false:=decide_eq_false h8
                 go_enter Tryz.func129,Tryz.ntmps129
                 go_upto_region 1 with fail
                 rw [← hW1]
                 clear hW1
                 go_upto_region 3 with (first
                  | (go_at_call 161;refine k2.mono ?_;rintro e w2 ⟨rfl,m2⟩;have C2:=blk_cell (m2.at_ HB.out.1 (by simp));have H2:=hide m2;clear m2)
                  | (go_at_call 132;refine (k3 H2.out).mono ?_;rintro e w3 ⟨rfl,hx⟩;rw [hx];clear hx)
                  | fail)
                 clear C1 k2 k3
                 have k4':=fun (j:Nat)=>k4 (H2.out.drewN j)
                 go_quiet ((first
                  | (go_at_call 131;exact Calls.quiet_of_same (k1 _))
                  | (go_at_call 162;exact Calls.quiet_of_same (k6 _))
                  | (go_at_call 90;exact Calls.quiet_of_same (k4' _))
                  | (go_at_call 128;exact Calls.quiet_of_same (k5 _))))
                 go_wp2_with fail
                 go_ret
                 exact ⟨by rw [← HG.out];first | (simp [h2,h3,h7n,h8];done) | (simp [h2,h3,h7n,h8];omega) | (simp;omega),(HB.out.2.then H2.out).drewN _⟩
             · have h7d:decide ((0:Int)<(n:Int))=false:=decide_eq_false h7
               have h7n:¬ 0<n:=by omega
               go_enter Tryz.func129,Tryz.ntmps129
               go_upto_region 1 with fail
               rw [← hW1]
               clear hW1
               go_upto_region 3 with (first
                | (go_at_call 161;refine k2.mono ?_;rintro e w2 ⟨rfl,m2⟩;have C2:=blk_cell (m2.at_ HB.out.1 (by simp));have H2:=hide m2;clear m2)
                | (go_at_call 132;refine (k3 H2.out).mono ?_;rintro e w3 ⟨rfl,hx⟩;rw [hx];clear hx)
                | fail)
               clear C1 k2 k3
               have k4':=fun (j:Nat)=>k4 (H2.out.drewN j)
               go_quiet ((first
                | (go_at_call 131;exact Calls.quiet_of_same (k1 _))
                | (go_at_call 162;exact Calls.quiet_of_same (k6 _))
                | (go_at_call 90;exact Calls.quiet_of_same (k4' _))
                | (go_at_call 128;exact Calls.quiet_of_same (k5 _))))
               go_wp2_with fail
               go_ret
               exact ⟨by rw [← HG.out];first | (simp [h2,h3,h7n];done) | (simp [h2,h3,h7n];omega) | (simp;omega),(HB.out.2.then H2.out).drewN _⟩
     · have h3d:decide (ho<8)=false:=decide_eq_false h3
       cases b2
       all_goals
        cases b3
        all_goals
         by_cases h7:(0:Int)<(n:Int)
         · have h7d:decide ((0:Int)<(n:Int))=true:=decide_eq_true h7
           go_enter Tryz.func129,Tryz.ntmps129
           go_upto_region 1 with fail
           rw [← hW1]
           clear hW1
           go_upto_region 3 with (first
            | (go_at_call 161;refine k2.mono ?_;rintro e w2 ⟨rfl,m2⟩;have C2:=blk_cell (m2.at_ HB.out.1 (by simp));have H2:=hide m2;clear m2)
            | (go_at_call 132;refine (k3 H2.out).mono ?_;rintro e w3 ⟨rfl,hx⟩;rw [hx];clear hx)
            | fail)
           clear C1 k2 k3
           have k4':=fun (j:Nat)=>k4 (H2.out.drewN j)
           go_quiet ((first
            | (go_at_call 131;exact Calls.quiet_of_same (k1 _))
            | (go_at_call 162;exact Calls.quiet_of_same (k6 _))
            | (go_at_call 90;exact Calls.quiet_of_same (k4' _))
            | (go_at_call 128;exact Calls.quiet_of_same (k5 _))))
           go_wp2_with fail
           go_ret
           exact ⟨by rw [← HG.out];first | (simp [h2,h3];done) | (simp [h2,h3];omega) | (simp;omega),(HB.out.2.then H2.out).drewN _⟩
         · have h7d:decide ((0:Int)<(n:Int))=false:=decide_eq_false h7
           go_enter Tryz.func129,Tryz.ntmps129
           go_upto_region 1 with fail
           rw [← hW1]
           clear hW1
           go_upto_region 3 with (first
            | (go_at_call 161;refine k2.mono ?_;rintro e w2 ⟨rfl,m2⟩;have C2:=blk_cell (m2.at_ HB.out.1 (by simp));have H2:=hide m2;clear m2)
            | (go_at_call 132;refine (k3 H2.out).mono ?_;rintro e w3 ⟨rfl,hx⟩;rw [hx];clear hx)
            | fail)
           clear C1 k2 k3
           have k4':=fun (j:Nat)=>k4 (H2.out.drewN j)
           go_quiet ((first
            | (go_at_call 131;exact Calls.quiet_of_same (k1 _))
            | (go_at_call 162;exact Calls.quiet_of_same (k6 _))
            | (go_at_call 90;exact Calls.quiet_of_same (k4' _))
            | (go_at_call 128;exact Calls.quiet_of_same (k5 _))))
           go_wp2_with fail
           go_ret
           exact ⟨by rw [← HG.out];first | (simp [h2,h3];done) | (simp [h2,h3];omega) | (simp;omega),(HB.out.2.then H2.out).drewN _⟩
   · have h2d:decide (0≤ho)=false:=decide_eq_false h2
     cases b2
     all_goals
      cases b3
      all_goals
       by_cases h7:(0:Int)<(n:Int)
       · have h7d:decide ((0:Int)<(n:Int))=true:=decide_eq_true h7
         go_enter Tryz.func129,Tryz.ntmps129
         go_upto_region 1 with fail
         rw [← hW1]
         clear hW1
         go_upto_region 3 with (first
          | (go_at_call 161;refine k2.mono ?_;rintro e w2 ⟨rfl,m2⟩;have C2:=blk_cell (m2.at_ HB.out.1 (by simp));have H2:=hide m2;clear m2)
          | (go_at_call 132;refine (k3 H2.out).mono ?_;rintro e w3 ⟨rfl,hx⟩;rw [hx];clear hx)
          | fail)
         clear C1 k2 k3
         have k4':=fun (j:Nat)=>k4 (H2.out.drewN j)
         go_quiet ((first
          | (go_at_call 131;exact Calls.quiet_of_same (k1 _))
          | (go_at_call 162;exact Calls.quiet_of_same (k6 _))
          | (go_at_call 90;exact Calls.quiet_of_same (k4' _))
          | (go_at_call 128;exact Calls.quiet_of_same (k5 _))))
         go_wp2_with fail
         go_ret
         exact ⟨by rw [← HG.out];first | (simp [h2];done) | (simp [h2];omega) | (simp;omega),(HB.out.2.then H2.out).drewN _⟩
       · have h7d:decide ((0:Int)<(n:Int))=false:=decide_eq_false h7
         go_enter Tryz.func129,Tryz.ntmps129
         go_upto_region 1 with fail
         rw [← hW1]
         clear hW1
         go_upto_region 3 with (first
          | (go_at_call 161;refine k2.mono ?_;rintro e w2 ⟨rfl,m2⟩;have C2:=blk_cell (m2.at_ HB.out.1 (by simp));have H2:=hide m2;clear m2)
          | (go_at_call 132;refine (k3 H2.out).mono ?_;rintro e w3 ⟨rfl,hx⟩;rw [hx];clear hx)
          | fail)
         clear C1 k2 k3
         have k4':=fun (j:Nat)=>k4 (H2.out.drewN j)
         go_quiet ((first
          | (go_at_call 131;exact Calls.quiet_of_same (k1 _))
          | (go_at_call 162;exact Calls.quiet_of_same (k6 _))
          | (go_at_call 90;exact Calls.quiet_of_same (k4' _))
          | (go_at_call 128;exact Calls.quiet_of_same (k5 _))))
         go_wp2_with fail
         go_ret
         exact ⟨by rw [← HG.out];first | (simp [h2];done) | (simp [h2];omega) | (simp;omega),(HB.out.2.then H2.out).drewN _⟩
end Go.Proofs.YtpphoeimakjjdaaGreatDoor
/-
  WALKS: the document's layer 11: may it be a book?
-/
namespace Go.Proofs.YtpphoeimakjjdaaGreatDoor
set_option maxRecDepth 100000
set_option maxHeartbeats 4000000
open Go.RowKit

theorem okFrom_nextR {next:Int} {l:List Grt} {k:Nat} (hk:okFrom next 0 (l.take k)=true) (hlt:k<l.length) (hg:grantB (l.getD k default)=true) (hn:lastI (l.getD k default).stamp<next)
 (hp:0<k→(l.getD (k - 1) default).id<(l.getD k default).id):okFrom next 0 (l.take (k+1))=true:=by
 have h0:0<(l.getD k default).id:=by have:=(grant_iff.1 hg).1.1;omega
 refine okFrom_take hk hlt ⟨hg,hn,fun x hx=>?_,h0⟩
 cases k with
 | zero=>simp at hx
 | succ j =>
   have hj:=hp (by omega)
   rw [Nat.add_sub_cancel] at hj
   have e:l.take (j+1)=l.take j++[l.getD j default]:=by rw [List.take_add_one];simp [show j<l.length by omega]
   have hs:=okFrom_sorted hk
   rw [e] at hs hx
   rcases List.mem_append.1 hx with hx | hx
   · have:=(List.pairwise_append.1 hs).2.2 x hx _ (List.mem_singleton.2 rfl)
     omega
   · obtain rfl:=List.mem_singleton.1 hx
     exact hj
theorem okFrom_stop {next:Int} {l:List Grt} {k:Nat} (hlt:k<l.length)
 (hn:grantB (l.getD k default)=false∨next≤lastI (l.getD k default).stamp∨(0<k∧(l.getD k default).id≤(l.getD (k - 1) default).id)):okFrom next 0 l=false:=by
 cases k with
 | zero=>exact okFrom_bad (idp:=0) hlt (.inl rfl) (hn.imp id (Or.imp id (fun h=>absurd h.1 (by omega))))
 | succ j =>
   refine okFrom_bad (idp:=(l.getD j default).id) hlt (.inr ⟨l.getD j default,?_,rfl⟩) (hn.imp id (Or.imp id (·.2)))
   have hj:j<l.length:=by omega
   rw [show l.getD j default=l[j] by simp [hj]]
   exact List.mem_iff_getElem.2 ⟨j,by simp;omega,by simp⟩
def RvRel (W0:World) (nx:Int) (gs:List Grt) (i:Value) (wr:World):Prop :=
 ∃ k:Nat,i=.int .i64 (k:Int)∧k≤gs.length∧okFrom nx 0 (gs.take k)=true∧Mod [] W0 wr
theorem rvalid_any {w:World} {base:Nat} {gv:Value} {b:Bk} {lv:List (Grt × Value)} (h:BkM w base gv b lv) (hps:∀ p,p∈lv→p.1.path.size≤9223372036854775806) :
 Calls Tryz.prog 88 #[aggB b gv] w fun e w'=>e=.returned (.bool (validB b))∧Mod [] w w':=by
 obtain ⟨nx,bo,lo,gs⟩:=b
 have heq:gs=lv.map Prod.fst:=h.eq
 obtain ⟨q,c,rfl,hmx⟩:=h.gr.shape
 have hmx':lv.length≤9223372036854775807:=hmx
 have kl:=fun (W:World)=>rlegal_any lo W
 obtain ⟨V,hV⟩:∃ V,validB ⟨nx,bo,lo,gs⟩=V:=⟨_,rfl⟩
 rw [hV]
 unfold validB headsB at hV
 simp only at hV
 have hlen:gs.length=lv.length:=by rw [heq];simp
 rw [hlen] at hV
 unfold aggB
 simp only
 obtain ⟨W0,hW0⟩:∃ W0,W0=w.alloc (.cells #[.int .i64 nx,.int .i64 bo,.int .i64 lo,.slice q lv.length c] 34 (0,0)):=⟨_,rfl⟩
 have hb0:W0.heap[w.heap.size]?=some (.cells #[.int .i64 nx,.int .i64 bo,.int .i64 lo,.slice q lv.length c] 34 (0,0)):=by rw [hW0];exact heap_alloc_new w _
 have hgr:Gr w W0:=by rw [hW0];exact (Gr.refl w).alloc _
 have B0:=blk_cell hb0
 have HB:=Hj2 hb0 hgr
 have HH:=Hj4 h hps heq hlen
 clear h hps heq hb0 hgr hlen
 go_enter Tryz.func88,Tryz.ntmps88
 go_upto_region 1 with fail
 rw [← hW0]
 clear hW0
 have hcase:nx<1∨(¬ nx<1∧1099511627777<nx)∨(¬ nx<1∧¬ 1099511627777<nx∧bo<0)∨(¬ nx<1∧¬ 1099511627777<nx∧¬ bo<0∧1099511627776<bo)∨(¬ nx<1∧¬ 1099511627777<nx∧¬ bo<0∧¬ 1099511627776<bo∧6<(lv.length:Int))∨(¬ nx<1∧¬ 1099511627777<nx∧¬ bo<0∧¬ 1099511627776<bo∧¬ 6<(lv.length:Int)):=by omega
 rcases hcase with h1 | ⟨h1,h2⟩ | ⟨h1,h2,h3⟩ | ⟨h1,h2,h3,h4⟩ | ⟨h1,h2,h3,h4,h5⟩ | ⟨h1,h2,h3,h4,h5⟩
 rotate_left 5
 · have hV2:(decide (lo=0∨legalT lo)&&okFrom nx 0 gs)=V:=by
    rw [← hV,show decide (1≤nx∧nx≤1099511627777∧0≤bo∧bo≤1099511627776)=true from decide_eq_true (by omega),show decide (lv.length≤6)=true from decide_eq_true (by omega)]
    simp
   clear hV
   go_upto_region 3 with fail
   clear h1 h2 h3 h4 h5
   go_cut [37] (fun s wx=>s=.bool (decide (lo≠0∧¬ legalT lo))∧wx=W0)
   case first =>
    by_cases hlo:lo=0
    · subst hlo
      go_wp2_with fail
      go_meet
      case rel=>exact ⟨by simp,rfl⟩
    · have hlb:(lo==0)=false:=by simpa using hlo
      have hlo':=hide hlo
      clear hlo
      go_wp2_with (first
       | (go_at_call 128;refine (kl _).mono ?_;rintro e w1 ⟨rfl,hx⟩;rw [hx];clear hx)
       | fail)
      go_meet
      case rel=>exact ⟨by have:=hlo'.out;simp [this,legalT];rw [Bool.eq_iff_iff];simp;omega,rfl⟩
   case rest =>
   obtain ⟨rfl,rfl⟩:=hcut
   by_cases hlo:lo≠0∧¬ legalT lo
   · have hd:decide (lo≠0∧¬ legalT lo)=true:=decide_eq_true hlo
     rw [hd]
     rw [show decide (lo=0∨legalT lo)=false from decide_eq_false (fun e=>by rcases e with e | e;exact hlo.1 e;exact hlo.2 e)] at hV2
     have HV:=hide hV2
     clear hd hV2 hlo
     go_wp2_with fail
     go_ret
     exact ⟨by rw [← HV.out];rfl,HB.out.2.mod []⟩
   · have hd:decide (lo≠0∧¬ legalT lo)=false:=decide_eq_false hlo
     rw [hd]
     rw [show decide (lo=0∨legalT lo)=true from decide_eq_true (by by_cases e:lo=0;exact .inl e;exact .inr (by by_cases e2:legalT lo;exact e2;exact absurd ⟨e,e2⟩ hlo)),Bool.true_and] at hV2
     have HV:=hide hV2
     clear hd hV2 hlo kl
     go_wp2_with fail
     go_loopw [3] (fun i wr=>RvRel wc nx gs i wr) (fun i _=>lv.length - (intOf i).toNat)
     case atStart=>exact ⟨0,rfl,Nat.zero_le _,rfl,Mod.refl _ _⟩
     case round =>
      obtain ⟨k,rfl,hk,hok,hm⟩:=hrel
      have hgl:=HH.out.2.2.2
      by_cases hlt:k<lv.length
      · skip
        have hki:(k:Int)<(lv.length:Int):=by omega
        have hk0:(0:Int)≤(k:Int):=by omega
        have hgm:=(HH.out.1.gr.gr HB.out.2).mod hm (by simp)
        obtain ⟨gb,rfl,hgb,hgb2,hc,-,hrd⟩:=hgm.at_ k hlt
        have hpa:=HH.out.2.1 _ (show lv.getD k default∈lv by simp [hlt])
        have hgk:gs.getD k default=(lv.getD k default).1:=by rw [HH.out.2.2.1];simp [hlt]
        obtain ⟨idp,hidp⟩:∃ idp,0<k→(gs.getD (k - 1) default).id=idp∧wr.cell? ⟨gb,(k - 1) * 6,none⟩=some (.int .i64 idp):=by
         refine ⟨(gs.getD (k - 1) default).id,fun h0=>⟨rfl,?_⟩⟩
         obtain ⟨gb',e',-,-,hc',-,-⟩:=hgm.at_ (k - 1) (by omega)
         simp only [Option.some.injEq,Addr.mk.injEq,and_true] at e'
         subst e'
         have:=hc' 0 (by decide)
         simp only [Nat.add_zero] at this
         rw [this,show gs.getD (k - 1) default=(lv.getD (k - 1) default).1 by rw [HH.out.2.2.1];simp [show k - 1<lv.length by omega]]
         rfl
        have hbk:=hm.at_ HB.out.1 (by simp)
        obtain ⟨pr,hpr⟩:∃ p,lv.getD k default=p:=⟨_,rfl⟩
        rw [hpr] at hc hrd hpa hgk
        obtain ⟨⟨id,ho,pa,mo,st,te⟩,sv⟩:=pr
        simp only at hrd hpa hgk
        have c0:=hc 0 (by decide)
        have c1:=hc 1 (by decide)
        have c2:=hc 2 (by decide)
        have c3:=hc 3 (by decide)
        have c4:=hc 4 (by decide)
        have c5:=hc 5 (by decide)
        simp [encG,cellsG] at c0 c1 c2 c3 c4 c5
        have km:=fun {W:World} (m:Mod [] wr W)=>rgrant_any (g:=⟨id,ho,pa,mo,st,te⟩) (hrd.mod m (by simp)) hpa
        have kn:=fun {W:World} (m:Mod [] wr W)=>rlast_any (hrd.mod m (by simp))
        obtain ⟨qs,cs,rfl⟩:=hrd.len
        obtain ⟨X,hX⟩:∃ X,X=wr.alloc (.cells #[.int .i64 id,.int .i64 ho,.string pa,.int .i64 mo,.slice qs st.length cs,.int .i64 te] 40 (0,0)):=⟨_,rfl⟩
        have hbx:X.heap[wr.heap.size]?=some (.cells #[.int .i64 id,.int .i64 ho,.string pa,.int .i64 mo,.slice qs st.length cs,.int .i64 te] 40 (0,0)):=by rw [hX];exact heap_alloc_new wr _
        have hmX:Mod [] wr X:=by rw [hX];exact (Mod.refl _ _).alloc _
        have hF:∀ W,Mod [] X W→(∀ i,W.cell? ⟨wr.heap.size,i,none⟩=(#[.int .i64 id,.int .i64 ho,.string pa,.int .i64 mo,.slice qs st.length cs,.int .i64 te]:Array Value)[i]?)∧(∀ i,W.cell? ⟨w.heap.size,i,none⟩=(#[.int .i64 nx,.int .i64 bo,.int .i64 lo,.slice (some ⟨gb,0,none⟩) lv.length c]:Array Value)[i]?)∧(0<k→W.cell? ⟨gb,(k - 1) * 6,none⟩=some (.int .i64 idp)):=fun W m =>
         ⟨blk_cell (m.at_ hbx (by simp)),blk_cell ((hmX.then m).at_ hbk (by simp)),fun h0=>(hmX.then m).kept (hidp h0).2 (by simp)⟩
        have HF:=hide hF
        have B2:=blk_cell hbk
        generalize hG:grantB ⟨id,ho,pa,mo,st,te⟩=G at km
        generalize hN:lastI st=n at kn
        unfold aggG cellsG at km
        simp only at km
        have HG:=Hj5 hgk hG hN hidp hmX
        clear hc hgk hpr hbx hF hG hN hidp hmX hbk hgm
        go_upto_region 9 with fail
        rw [← hX]
        clear hX c0 c1 c2 c3 c4 c5 B2
        have hbad:∀ {W:World},Mod [] X W→okFrom nx 0 gs=false→Ending.returned (.bool false)=.returned (.bool V)∧Mod [] w W:=fun m e=>⟨by rw [← HV.out,e],(((HB.out.2.mod []).then hm).then HG.out.2.2.2.2).then m⟩
        refine pB 999 (Mod [] X) ((Mod.refl [] X).drew) ?_
        refine pH 0 rfl (fun w h=>by obtain ⟨C0,C1,C2⟩:=HF.out _ h;go_simp;try with_reducible rfl) ?_
        refine pX 1 fun hT K HK=>?_
        go_simp
        refine (km (HG.out.2.2.2.2.then hT)).mono ?_;rintro e x7 ⟨rfl,m7⟩
        refine HK.out _ _ _ (hT.then m7) ?_
        clear HK K hT m7
        refine pP 2 ?_;refine pP 3 ?_
        cases G with
        | false =>
          refine pN 4 ?_;refine pN 5 ?_;refine pN 6 ?_;refine pN 7 ?_;refine pN 8 ?_;refine pN 9 ?_;refine pP 10 ?_;refine pP 11 ?_;refine pN 12 ?_;refine pN 13 ?_;refine pN 14 ?_;refine pN 15 ?_;refine pN 16 ?_;refine pN 17 ?_;refine pN 18 ?_;refine pN 19 ?_;refine pN 20 ?_;refine pN 21 ?_;refine pN 22 ?_;refine pN 23 ?_;refine pN 24 ?_;refine pN 25 ?_;refine pP 26 ?_
          refine pE fun hT=>?_
          go_wp2_with fail
          go_ret
          exact hbad hT (okFrom_stop (k:=k) (by omega) (by rw [HG.out.1];exact .inl HG.out.2.1))
        | true =>
          refine pP 4 ?_
          refine pH 5 rfl (fun w h=>by obtain ⟨C0,C1,C2⟩:=HF.out _ h;go_simp;try with_reducible rfl) ?_
          refine pP 7 ?_
          refine pH 8 rfl (fun w h=>by obtain ⟨C0,C1,C2⟩:=HF.out _ h;go_simp;try with_reducible rfl) ?_
          refine pX 6 fun hT K HK=>?_
          go_simp
          refine (kn (HG.out.2.2.2.2.then hT)).mono ?_;rintro e x8 ⟨rfl,rfl⟩
          refine HK.out _ _ _ hT ?_
          clear HK K hT
          by_cases hn:nx≤n
          · have dn:decide (nx≤n)=true:=decide_eq_true hn
            refine pP 9 ?_;refine pP 10 ?_;refine pP 11 ?_;refine pN 12 ?_;refine pN 13 ?_;refine pN 14 ?_;refine pN 15 ?_;refine pN 16 ?_;refine pN 17 ?_;refine pN 18 ?_;refine pN 19 ?_;refine pN 20 ?_;refine pN 21 ?_;refine pN 22 ?_;refine pN 23 ?_;refine pN 24 ?_;refine pN 25 ?_;refine pP 26 ?_
            refine pE fun hT=>?_
            go_wp2_with fail
            go_ret
            exact hbad hT (okFrom_stop (k:=k) (by omega) (by rw [HG.out.1];exact .inr (.inl (by rw [HG.out.2.2.1];exact hn))))
          · have dn:decide (nx≤n)=false:=decide_eq_false hn
            refine pP 9 ?_;refine pP 10 ?_;refine pP 11 ?_;refine pP 12 ?_
            by_cases h1k:0<k
            · have hkd:decide ((0:Int)<(k:Int))=true:=decide_eq_true (by omega)
              have hkw:IntKind.i64.wrap ((k:Int) - 1)=((k - 1:Nat):Int):=(IntWalk.i64_in _ (by omega)).trans (by omega)
              have hk1:k - 1<lv.length:=by omega
              have hk2:(0:Int)≤((k - 1:Nat):Int):=by omega
              have hk3:((k - 1:Nat):Int)<(lv.length:Int):=by omega
              refine pP 13 ?_;refine pP 14 ?_;refine pP 15 ?_
              refine pH 16 rfl (fun w h=>by obtain ⟨C0,C1,C2⟩:=HF.out _ h;go_simp;try with_reducible rfl) ?_
              refine pP 17 ?_;refine pP 18 ?_;refine pP 19 ?_;refine pP 20 ?_
              refine pH 21 rfl (fun w h=>by have C2:=(HF.out _ h).2.2 h1k;go_simp;try with_reducible rfl) ?_
              refine pP 22 ?_
              refine pH 23 rfl (fun w h=>by obtain ⟨C0,C1,C2⟩:=HF.out _ h;go_simp;try with_reducible rfl) ?_
              by_cases hi:id≤idp
              · have di:decide (id≤idp)=true:=decide_eq_true hi
                refine pP 24 ?_;refine pP 25 ?_;refine pP 26 ?_
                refine pE fun hT=>?_
                go_wp2_with fail
                go_ret
                exact hbad hT (okFrom_stop (k:=k) (by omega) (by rw [HG.out.1,(HG.out.2.2.2.1 h1k).1];exact .inr (.inr ⟨h1k,hi⟩)))
              · have di:decide (id≤idp)=false:=decide_eq_false hi
                refine pP 24 ?_;refine pP 25 ?_;refine pP 26 ?_
                refine pE fun hT=>?_
                clear hbad
                go_wp2_with fail
                go_roundw
                case rel=>exact ⟨k+1,by go_num,by omega,okFrom_nextR hok (by omega) (by rw [HG.out.1];exact HG.out.2.1) (by rw [HG.out.1,HG.out.2.2.1];omega) (fun h0=>by rw [HG.out.1,(HG.out.2.2.2.1 h0).1];show idp<id;omega),(hm.then HG.out.2.2.2.2).then hT⟩
                case measure=>simp [intOf];omega
            · obtain rfl:k=0:=by omega
              refine pP 13 ?_;refine pP 14 ?_;refine pN 15 ?_;refine pN 16 ?_;refine pN 17 ?_;refine pN 18 ?_;refine pN 19 ?_;refine pN 20 ?_;refine pN 21 ?_;refine pN 22 ?_;refine pN 23 ?_;refine pN 24 ?_;refine pP 25 ?_;refine pP 26 ?_
              refine pE fun hT=>?_
              clear hbad
              go_wp2_with fail
              go_roundw
              case rel=>exact ⟨1,by go_num,by omega,okFrom_nextR (k:=0) hok (by omega) (by rw [HG.out.1];exact HG.out.2.1) (by rw [HG.out.1,HG.out.2.2.1];omega) (fun h0=>absurd h0 (by omega)),(hm.then HG.out.2.2.2.2).then hT⟩
              case measure=>simp [intOf];omega
      · obtain rfl:k=lv.length:=by omega
        rw [← hgl,List.take_length] at hok
        have B2:=blk_cell (hm.at_ HB.out.1 (by simp))
        go_wp2_with fail
        go_ret
        exact ⟨by rw [← HV.out,hok];rfl,(HB.out.2.mod []).then hm⟩
 all_goals
  obtain rfl:V=false:=by
   rw [← hV]
   first
    | (rw [show decide (lv.length≤6)=false from decide_eq_false (by omega)];simp;done)
    | (rw [show decide (1≤nx∧nx≤1099511627777∧0≤bo∧bo≤1099511627776)=false from decide_eq_false (by omega)];rfl)
  clear hV
  go_wp2_with fail
  go_ret
  exact ⟨rfl,HB.out.2.mod []⟩
end Go.Proofs.YtpphoeimakjjdaaGreatDoor
