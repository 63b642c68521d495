/-
  LedRg7 LedRg8: see the remarks below.
-/
import Derived.Test.YtpphoeimakjjdaaGreatDoorMLedRg6
import Derived.Test.YtpphoeimakjjdaaGreatDoorMDisk3
import Derived.Test.YtpphoeimakjjdaaGreatDoorMWpL
import Derived.Deep.DeepCutAuto
/-
  WALKS: the document's layer 9: its disk in memory; Arm, On, Write.
-/
namespace Go.Proofs.YtpphoeimakjjdaaGreatDoor
open Go.RowKit

def armI (d:Dk):Int:=if d.armed=true then d.left else -1
structure RdM (w:World) (base xd:Nat) (sv:Value) (vs:List Value) (d:Dk):Prop where
 blk:w.heap[xd]?=some (.cells #[sv,.int .i64 d.writes,.int .i64 (armI d),.bool d.off] 68 (0,0))
 rows:RdsY w base sv vs d.secs
 ap:base≤xd∧xd ∉ ob sv∧∀ i,i<d.secs.length→xd ∉ ob (vs.getD i nilS)
 ok:d.Ok
section
variable {w w':World} {base xd:Nat} {sv:Value} {vs:List Value} {d d':Dk}
theorem RdM.mod (h:RdM w base xd sv vs d) {S:List Nat} (m:Mod S w w') (hS:∀ k,k∈S→k<base∨w.heap.size≤k):RdM w' base xd sv vs d :=
 ⟨m.at_ h.blk (fun e=>by have:=hS xd e;have:=lt_of_block h.blk;have:=h.ap.1;omega),h.rows.mod m hS,h.ap,h.ok⟩
theorem RdM.quiet (h:RdM w base xd sv vs d) (m:Mod [] w w'):RdM w' base xd sv vs d:=h.mod m (by simp)
theorem RdM.set (h:RdM w base xd sv vs d) (hb:w'.heap[xd]?=some (.cells #[sv,.int .i64 d'.writes,.int .i64 (armI d'),.bool d'.off] 68 (0,0))) (m:Mod [xd] w w') (hs:d'.secs=d.secs) (ok:d'.Ok):RdM w' base xd sv vs d':=by
 refine ⟨hb,?_,⟨h.ap.1,h.ap.2.1,by rw [hs];exact h.ap.2.2⟩,ok⟩
 rw [hs]
 refine ⟨m.row h.rows.row (fun k hk e=>?_),fun i hi=>(h.rows.el i hi).mod m (fun k hk e=>?_),h.rows.apart⟩
 · simp at e
   rw [e] at hk
   exact h.ap.2.1 (by simpa [ob] using hk)
 · simp at e
   rw [e] at hk
   exact h.ap.2.2 i hi hk
end
end Go.Proofs.YtpphoeimakjjdaaGreatDoor
/-
  WALKS: the document's layer 9: Write.
-/
namespace Go.Proofs.YtpphoeimakjjdaaGreatDoor
set_option maxRecDepth 100000
set_option maxHeartbeats 2000000
open Go.RowKit

theorem getD_setV (l:List Value) (i j:Nat) (v:Value) (hi:i<l.length):(l.set i v).getD j nilS=if i=j then v else l.getD j nilS:=by
 simp only [List.getD,List.getElem?_set]
 split
 · subst_vars;rfl
 · rfl
theorem RdsY.setEl {w:World} {base rb n c:Nat} {vs:List Value} {ls:List B8} (h:RdsY w base (.slice (some ⟨rb,0,none⟩) n c) vs ls) {i:Nat} (hi:i<ls.length) {v:Value} {b:B8} (he:ElY w base v b) (hn:rb ∉ ob v) :
 RdsY (w.setCell ⟨rb,i,none⟩ v) base (.slice (some ⟨rb,0,none⟩) n c) (vs.set i v) (ls.set i b):=by
 have hl:=h.len
 obtain rfl:ls.length=n:=by
  obtain ⟨p',c',e,_⟩:=h.shape
  simp only [Value.slice.injEq] at e
  exact e.2.1.symm
 have m:Mod [rb] w (w.setCell ⟨rb,i,none⟩ v):=(Mod.refl _ _).setCell (fun _=>by simp) _
 refine ⟨by rw [List.length_set];exact (World.ownsRow.stored h.row i v).1,fun j hj=>?_,fun j hj k hk=>?_⟩
 · rw [List.length_set] at hj
   rw [getD_setV _ _ _ _ (by omega),getD_set _ _ _ _ hi]
   split
   · exact he.mod m (fun k hk e=>by simp at e;rw [e] at hk;exact hn hk)
   · exact (h.el j hj).mod m (fun k hk e=>h.apart j hj k hk (by simp at e;simp [ob,Value.ownBlock,e]))
 · rw [List.length_set] at hj
   rw [getD_setV _ _ _ _ (by omega)] at hk
   split at hk
   · intro e
     simp [ob,Value.ownBlock] at e
     rw [e] at hk
     exact hn hk
   · exact h.apart j hj k hk
section
variable {w:World} {base xd:Nat} {sv:Value} {vs:List Value} {d:Dk}
def Nw (w:World) (vs vs':List Value):Prop:=∀ i,vs'.getD i nilS=vs.getD i nilS∨∀ k,k∈ob (vs'.getD i nilS)→w.heap.size≤k
theorem Nw.refl (w:World) (vs:List Value):Nw w vs vs:=fun _=>.inl rfl
theorem Nw.trans {w w':World} {a b c:List Value} (h:Nw w a b) (h2:Nw w' b c) (hs:w.heap.size≤w'.heap.size):Nw w a c:=fun i=>by
 rcases h2 i with e | e
 · rw [e];exact h i
 · exact .inr fun k hk=>Nat.le_trans hs (e k hk)
def RwTo (w:World) (base xd:Nat) (sv:Value) (vs:List Value) (p:Int × Dk) (e:Ending) (w':World):Prop:=e=.returned (.int .i64 p.1)∧∃ vs',RdM w' base xd sv vs' p.2∧Mod (xd::ob sv) w w'∧Nw w vs vs'
theorem rw_end {W1 w7 W8:World} {rb c B i:Nat} {q7:Option Addr} {c7:Nat} {b:B8} {d1:Dk} (h:RdM w base xd (.slice (some ⟨rb,0,none⟩) d.secs.length c) vs d) (hbase:base≤w.heap.size) (hlt:i<d.secs.length) (h64:b.length=64) (hcut:¬(d.armed=true∧d.left=0))
 (hd1:d1={ d with left:=if d.armed=true then d.left - 1 else d.left }) (h1:RdM W1 base xd (.slice (some ⟨rb,0,none⟩) d.secs.length c) vs d1) (m1:Mod [xd] w W1) (m7:Mod [] W1 w7) (r7:RowY w7 B (.slice q7 64 c7) b) (hB:W1.heap.size≤B) (hW8:W8=w7.setCell ⟨rb,i,none⟩ (.slice q7 64 c7)) :
 W8.heap[xd]?=some (.cells #[.slice (some ⟨rb,0,none⟩) d.secs.length c,.int .i64 d1.writes,.int .i64 (armI d1),.bool d1.off] 68 (0,0)) ∧
  RdM (W8.setCell ⟨xd,1,none⟩ (.int .i64 (wrap64 (d1.writes+1)))) base xd (.slice (some ⟨rb,0,none⟩) d.secs.length c) (vs.set i (.slice q7 64 c7)) (wroteD d i b)∧Mod [xd,rb] w (W8.setCell ⟨xd,1,none⟩ (.int .i64 (wrap64 (d1.writes+1))))∧Nw w vs (vs.set i (.slice q7 64 c7)):=by
 have hs:=m1.size
 have hlx:=lt_of_block h1.blk
 have hne:rb≠xd:=fun e=>h.ap.2.1 (by simp [ob,Value.ownBlock,e])
 have hb8:W8.heap[xd]?=some (.cells #[.slice (some ⟨rb,0,none⟩) d.secs.length c,.int .i64 d1.writes,.int .i64 (armI d1),.bool d1.off] 68 (0,0)):=by rw [hW8];exact blk_other (m7.at_ h1.blk (by simp)) (by simpa using hne) _
 have h7:=h1.rows.mod m7 (by simp)
 rw [show d1.secs=d.secs by rw [hd1]] at h7
 have hrl:rb<W1.heap.size:=by
  obtain ⟨r,e,l,-⟩:=h1.rows.at_ i (by rw [hd1];exact hlt)
  simp at e
  omega
 have hr8:=h7.setEl hlt (v:=.slice q7 64 c7) (b:=b) ⟨r7.rd,fun k hk=>⟨by have:=(r7.blk k hk).1;omega,(r7.blk k hk).2⟩⟩ (fun e=>by have:=(r7.blk rb e).1;omega)
 rw [← hW8] at hr8
 have m8:Mod [rb] w7 W8:=by rw [hW8];exact (Mod.refl _ _).setCell (fun _=>by simp) _
 have ok:=h.ok.wrote hlt h64 hcut
 have hM8:RdM W8 base xd (.slice (some ⟨rb,0,none⟩) d.secs.length c) (vs.set i (.slice q7 64 c7)) { d1 with secs:=d.secs.set i b }:=by
  refine ⟨hb8,hr8,⟨h.ap.1,h.ap.2.1,fun j hj hk=>?_⟩,?_⟩
  · have hj:j<(d.secs.set i b).length:=hj
    rw [List.length_set] at hj
    rw [getD_setV _ _ _ _ (by have:=h.rows.len;omega)] at hk
    split at hk
    · have:=(r7.blk xd hk).1;omega
    · exact h.ap.2.2 j hj hk
  · rw [hd1]
    exact ⟨ok.all,ok.least,ok.most,ok.left0,ok.leftM⟩
 have m9:Mod [xd] W8 (W8.setCell ⟨xd,1,none⟩ (.int .i64 (wrap64 (d1.writes+1)))):=(Mod.refl _ _).setCell (fun _=>by simp) _
 refine ⟨hb8,hM8.set (d':=wroteD d i b) ?_ m9 rfl ok,?_,fun j=>?_⟩
 · rw [hd1] at hb8 ⊢
   exact blk_set hb8 1 _
 · have a:Mod [xd,rb] w w7:=(m1.mono (by simp)).trans m7 (T:=[]) (fun _ x _=>x) (fun x hx=>by cases hx)
   exact (a.trans m8 (fun _ x _=>x) (fun x hx _=>by simp at hx;simp [hx])).trans m9 (fun _ x _=>x) (fun x hx _=>by simp at hx;simp [hx])
 · rw [getD_setV _ _ _ _ (by have:=h.rows.len;omega)]
   split
   · exact .inr fun k hk=>by have:=(r7.blk k hk).1;omega
   · exact .inl rfl
theorem rwrite_any (h:RdM w base xd sv vs d) (hbase:base≤w.heap.size) (i:Nat) {bv:Value} {b:B8} (hv:RdY w bv b) (hl:b.length≤1000000) (hbv:xd ∉ ob bv) :
 Calls Tryz.prog 97 #[.pointer (some ⟨xd,0,none⟩),.int .i64 (i:Int),bv] w fun e w'=>RwTo w base xd sv vs (writeD d i b) e w':=by
 obtain ⟨R,hR⟩:∃ R,writeD d i b=R:=⟨_,rfl⟩
 rw [hR]
 unfold writeD at hR
 have hb:=h.blk
 have C:=blk_cell hb;have F:=blk_free hb;have L:=lt_of_block hb
 obtain ⟨q,c,rfl,hq⟩:=h.rows.shape
 obtain ⟨p,cp,rfl⟩:=hv.len
 have hlm:=h.ok.leftM
 have hmost:=h.ok.most
 have HH:=Hj2 h hv
 by_cases hoff:d.off=true
 · rw [if_pos hoff] at hR
   subst hR
   clear hb h hv
   rw [hoff] at C
   go_enter Tryz.func97,Tryz.ntmps97
   go_wp2_with fail
   go_ret
   exact ⟨rfl,vs,HH.out.1,Mod.refl _ _,Nw.refl _ _⟩
 have hoff':d.off=false:=by simpa using hoff
 rw [if_neg hoff] at hR
 rw [hoff'] at C
 by_cases hi:d.secs.length≤i
 · rw [if_pos hi] at hR
   subst hR
   clear hb h hv
   go_enter Tryz.func97,Tryz.ntmps97
   go_wp2_with fail
   go_ret
   exact ⟨rfl,vs,HH.out.1,Mod.refl _ _,Nw.refl _ _⟩
 rw [if_neg hi] at hR
 by_cases h64:b.length≠64
 · rw [if_pos h64] at hR
   subst hR
   have h64':((b.length:Int) != 64)=true:=by simp;omega
   clear hb h hv
   go_enter Tryz.func97,Tryz.ntmps97
   go_wp2_with fail
   go_ret
   exact ⟨rfl,vs,HH.out.1,Mod.refl _ _,Nw.refl _ _⟩
 rw [if_neg h64] at hR
 have h64':b.length=64:=by omega
 have h64b:((b.length:Int) != 64)=false:=by simp;omega
 have hlt:i<d.secs.length:=by omega
 obtain ⟨rb,rfl,hrb,crb,erb⟩:=h.rows.at_ i hlt
 by_cases hcut:d.armed=true∧d.left=0
 · rw [if_pos hcut] at hR
   subst hR
   have ha:armI d=0:=by unfold armI;rw [if_pos hcut.1,hcut.2]
   rw [ha] at C
   clear hb h hv crb erb
   go_enter Tryz.func97,Tryz.ntmps97
   go_wp2_with fail
   go_ret
   have m:Mod [xd] w ((w.setCell ⟨xd,3,none⟩ (.bool true)).setCell ⟨xd,2,none⟩ (.int .i64 (-1))):=((Mod.refl _ _).setCell (fun _=>by simp) _).setCell (fun _=>by simp) _
   exact ⟨rfl,vs,HH.out.1.set (d':=cutD d) (blk_set (blk_set HH.out.1.blk 3 _) 2 _) m rfl HH.out.1.ok.cut,m.mono (by simp),Nw.refl _ _⟩
 rw [if_neg hcut] at hR
 subst hR
 have ha0:(armI d==0)=false:=by
  simp only [beq_eq_false_iff_ne]
  unfold armI
  split
  · rename_i e
    exact fun e2=>hcut ⟨e,e2⟩
  · omega
 have hal:=h.ok.left0
 obtain ⟨A,hA⟩:∃ A,armI d=A:=⟨_,rfl⟩
 have hA1 : -1≤A∧A≤9223372036854775807:=by
  rw [← hA];unfold armI
  split
  · rename_i e;have:=hal e;omega
  · omega
 rw [hA] at C ha0
 have hA0:A≠0:=by simpa using ha0
 obtain ⟨d1,hd1⟩:∃ d1:Dk,d1={ d with left:=if d.armed=true then d.left - 1 else d.left }:=⟨_,rfl⟩
 obtain ⟨A1,hA1e⟩:∃ A1,armI d1=A1:=⟨_,rfl⟩
 have hok1:d1.Ok:=by
  rw [hd1]
  refine ⟨h.ok.all,h.ok.least,h.ok.most,fun e=>?_,?_⟩
  · have e':d.armed=true:=e
    have:=hal e'
    have h0:d.left≠0:=fun e2=>hcut ⟨e',e2⟩
    show 0≤(if d.armed=true then d.left - 1 else d.left)
    rw [if_pos e'];omega
  · show (if d.armed=true then d.left - 1 else d.left)≤_
    split <;> omega
 have hAA:A1=if 0<A then A - 1 else A:=by
  rw [← hA1e,← hA,hd1]
  unfold armI
  by_cases e:d.armed=true
  · have:=hal e
    have h0:d.left≠0:=fun e2=>hcut ⟨e,e2⟩
    simp only [e,if_true]
    rw [if_pos (by omega)]
  · simp only [e]
    simp
 have hst:∀ W1,W1=(if 0<A then w.setCell ⟨xd,2,none⟩ (.int .i64 (A - 1)) else w)→RdM W1 base xd (.slice (some ⟨rb,0,none⟩) d.secs.length c) vs d1∧Mod [xd] w W1:=by
  intro W1 e
  have m:Mod [xd] w W1:=by
   rw [e];split
   · exact (Mod.refl _ _).setCell (fun _=>by simp) _
   · exact Mod.refl _ _
  refine ⟨h.set ?_ m (by rw [hd1]) hok1,m⟩
  rw [hA1e,hAA,hd1,e]
  by_cases h0:0<A
  · rw [if_pos h0,if_pos h0]
    exact blk_set h.blk 2 _
  · rw [if_neg h0,if_neg h0]
    have:=h.blk
    rw [hA] at this
    exact this
 have HD:=Hj3 hd1 hA1e hAA
 clear hb h hv crb erb hd1 hA1e hAA hok1 hA
 go_enter Tryz.func97,Tryz.ntmps97
 by_cases hpos:0<A
 · rw [if_pos hpos] at hst
   go_wp2_with fail
   obtain ⟨W1,hW1⟩:∃ x,x=w.setCell ⟨xd,2,none⟩ (.int .i64 (A - 1)):=⟨_,rfl⟩
   try rw [← hW1]
   have HS:=hide (hst W1 hW1)
   clear hW1 C F L hst
   have mv:Mod [] W1 W1.drew:=(Mod.refl _ _).drew
   refine pB 8 (fun w2=>Mod [] W1 w2) mv ?_
   have C:=fun (w2:World) (m:Mod [] W1 w2)=>blk_cell (m.at_ HS.out.1.blk (by simp))
   refine pP 0 ?_;refine pP 1 ?_;refine pP 2 ?_
   refine pT 3 rfl [7,8] (fun w2 h=>by have D:=C w2 h;go_simp;try with_reducible rfl) ?_
   refine pP 4 ?_;refine pP 5 ?_
   refine pX 6 fun hT K HK=>?_
   go_simp
   have hcp:=rcopied_any ((HH.out.2.mod HS.out.2 (fun k hk e=>by simp at e;rw [e] at hk;exact hbv hk)).mod hT (by simp)) hl
   rw [h64'] at hcp
   refine hcp.mono ?_
   rintro e w7 ⟨v7,rfl,r7,m7⟩
   obtain ⟨q7,c7,rfl⟩:=r7.rd.len
   rw [h64'] at r7 ⊢
   have H7:=Hj3 (hT.then m7) r7 hT
   refine HK.out _ _ _ (hT.then m7) ?_
   clear HK K hT m7 r7 hcp
   refine pP 7 ?_
   refine pY 8 fun hT K HK=>?_
   have D:=C w7 hT
   have F:=blk_free (hT.at_ HS.out.1.blk (by simp));have L:=lt_of_block (hT.at_ HS.out.1.blk (by simp))
   have hr7:RdsY w7 base (.slice (some ⟨rb,0,none⟩) d.secs.length c) vs d.secs:=by
    have h:=HS.out.1.rows.mod hT (by simp)
    rw [HD.out.1] at h
    exact h
   obtain ⟨rb',e1,l2,c2,-⟩:=hr7.at_ i hlt
   obtain rfl:rb=rb':=by simpa using e1
   have f2:=World.ownsRow.frozenAt hr7.row i
   have HR7:=hide hr7
   clear hr7 e1
   go_simp
   obtain ⟨W8,hW8⟩:∃ x,x=w7.setCell ⟨rb,i,none⟩ (.slice q7 64 c7):=⟨_,rfl⟩
   rw [← hW8]
   have z:=rw_end HH.out.1 hbase hlt h64' hcut HD.out.1 HS.out.1 HS.out.2 H7.out.1 H7.out.2.1 H7.out.2.2.size hW8
   have D8:=blk_cell z.1;have F8:=blk_free z.1;have L8:=lt_of_block z.1
   have H8:=hide z.2
   refine HK.out _ _ _ ?_
   clear HK K D F L c2 f2 l2 hW8 z C
   refine pD ?_
   go_wp2_with fail
   go_ret
   exact ⟨rfl,_,H8.out⟩
 · rw [if_neg hpos] at hst
   go_wp2_with fail
   obtain ⟨W1,hW1⟩:∃ x,x=w:=⟨_,rfl⟩
   try rw [← hW1]
   have HS:=hide (hst W1 hW1)
   clear hW1 C F L hst
   have mv:Mod [] W1 W1.drew:=(Mod.refl _ _).drew
   refine pB 8 (fun w2=>Mod [] W1 w2) mv ?_
   have C:=fun (w2:World) (m:Mod [] W1 w2)=>blk_cell (m.at_ HS.out.1.blk (by simp))
   refine pP 0 ?_;refine pP 1 ?_;refine pP 2 ?_
   refine pT 3 rfl [7,8] (fun w2 h=>by have D:=C w2 h;go_simp;try with_reducible rfl) ?_
   refine pP 4 ?_;refine pP 5 ?_
   refine pX 6 fun hT K HK=>?_
   go_simp
   have hcp:=rcopied_any ((HH.out.2.mod HS.out.2 (fun k hk e=>by simp at e;rw [e] at hk;exact hbv hk)).mod hT (by simp)) hl
   rw [h64'] at hcp
   refine hcp.mono ?_
   rintro e w7 ⟨v7,rfl,r7,m7⟩
   obtain ⟨q7,c7,rfl⟩:=r7.rd.len
   rw [h64'] at r7 ⊢
   have H7:=Hj3 (hT.then m7) r7 hT
   refine HK.out _ _ _ (hT.then m7) ?_
   clear HK K hT m7 r7 hcp
   refine pP 7 ?_
   refine pY 8 fun hT K HK=>?_
   have D:=C w7 hT
   have F:=blk_free (hT.at_ HS.out.1.blk (by simp));have L:=lt_of_block (hT.at_ HS.out.1.blk (by simp))
   have hr7:RdsY w7 base (.slice (some ⟨rb,0,none⟩) d.secs.length c) vs d.secs:=by
    have h:=HS.out.1.rows.mod hT (by simp)
    rw [HD.out.1] at h
    exact h
   obtain ⟨rb',e1,l2,c2,-⟩:=hr7.at_ i hlt
   obtain rfl:rb=rb':=by simpa using e1
   have f2:=World.ownsRow.frozenAt hr7.row i
   have HR7:=hide hr7
   clear hr7 e1
   go_simp
   obtain ⟨W8,hW8⟩:∃ x,x=w7.setCell ⟨rb,i,none⟩ (.slice q7 64 c7):=⟨_,rfl⟩
   rw [← hW8]
   have z:=rw_end HH.out.1 hbase hlt h64' hcut HD.out.1 HS.out.1 HS.out.2 H7.out.1 H7.out.2.1 H7.out.2.2.size hW8
   have D8:=blk_cell z.1;have F8:=blk_free z.1;have L8:=lt_of_block z.1
   have H8:=hide z.2
   refine HK.out _ _ _ ?_
   clear HK K D F L c2 f2 l2 hW8 z C
   refine pD ?_
   go_wp2_with fail
   go_ret
   exact ⟨rfl,_,H8.out⟩
end
end Go.Proofs.YtpphoeimakjjdaaGreatDoor
