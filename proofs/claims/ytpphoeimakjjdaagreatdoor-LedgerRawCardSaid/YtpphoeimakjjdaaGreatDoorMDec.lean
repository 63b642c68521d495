/-
  WALKS: layer 11: Decode. (Written by wip/gen_dec.py.)
-/
import Derived.Test.YtpphoeimakjjdaaGreatDoorMCtr
import Derived.Deep.CutBlock
namespace Go.Proofs.YtpphoeimakjjdaaGreatDoor
set_option maxRecDepth 100000
set_option maxHeartbeats 8000000
open Go.RowKit

def zeroR:Array Value:=#[.int .i64 0,.int .i64 0,.int .i64 0,.string ⟨#[]⟩,.int .i64 0,.slice none 0 0,.int .i64 0,.int .i64 0,.slice none 0 0,.int .i64 0,.int .i64 0,.int .i64 0]
structure DS (w W:World) (p:Nat) (v:Value) (s:RS) (X:Nat) (R:Array Value):Prop where
 rr:RrM W p v s.1 s.2
 ov:∀ k,k∈ob v→w.heap.size≤k∧k<p
 pw:w.heap.size<p
 px:p<X
 bx:W.heap[X]?=some (.cells R 42 (0,0))
 bz:W.heap[w.heap.size]?=some (.cells zeroR 42 (0,0))
 md:Mod [] w W
theorem DS.step {w W W':World} {p X:Nat} {v v':Value} {s s':RS} {R:Array Value} (h:DS w W p v s X R) (hr:RrM W' p v' s'.1 s'.2) (ho:∀ k,k∈ob v'→k∈ob v) (hm:Mod [p] W W'):DS w W' p v' s' X R :=
 ⟨hr,fun k hk=>h.ov k (ho k hk),h.pw,h.px,hm.at_ h.bx (by have:=h.px;simp;omega),hm.at_ h.bz (by have:=h.pw;simp;omega),h.md.trans hm (by simp) (fun x hx hlt=>by have:=h.pw;simp at hx;omega)⟩
theorem num_ds {w W:World} {p X:Nat} {v:Value} {s s':RS} {R:Array Value} {n:Int} (h:DS w W p v s X R) (he:nxt s=(n,s')) :
 Calls Tryz.prog 111 #[.pointer (some ⟨p,0,none⟩)] W fun e W'=>e=.returned (.int .i64 n)∧∃ v',DS w W' p v' s' X R:=by
 refine (readNum_any h.rr).mono ?_
 rintro e W' ⟨rfl,v',h1,h2,h3⟩
 unfold nxt at he
 simp only [Prod.mk.injEq] at he
 obtain ⟨rfl,rfl⟩:=he
 exact ⟨rfl,v',h.step h1 h2 h3⟩
theorem txt_ds {w W:World} {p X:Nat} {v:Value} {s s':RS} {R:Array Value} {t:ByteArray} (h:DS w W p v s X R) (most:Int) (h0:0≤most) (he:txt most s=(t,s')) :
 Calls Tryz.prog 112 #[.pointer (some ⟨p,0,none⟩),.int .i64 most] W fun e W'=>e=.returned (.string t)∧∃ v',DS w W' p v' s' X R:=by
 refine (readText_any h.rr most h0).mono ?_
 rintro e W' ⟨rfl,v',h1,h2,h3⟩
 unfold txt at he
 simp only [Prod.mk.injEq] at he
 obtain ⟨rfl,rfl⟩:=he
 exact ⟨rfl,v',h.step h1 h2 h3⟩
theorem ctr_ds {w W:World} {p X:Nat} {v:Value} {s s':RS} {R:Array Value} {st:List Int} (h:DS w W p v s X R) (he:countersS s=(st,s')) :
 Calls Tryz.prog 113 #[.pointer (some ⟨p,0,none⟩)] W fun e W'=>∃ q c,e=.returned (.slice q st.length c)∧W'.ownsRow W.heap.size 3 1 (.slice q st.length c) st.length (st.map (Value.int .i64))∧∃ v',DS w W' p v' s' X R:=by
 have hX:=lt_of_block h.bx
 refine (counters_any h.rr (fun k hk=>by have:=h.ov k hk;have:=h.px;omega)).mono ?_
 rintro e W' ⟨u,v',rfl,h0,h1,h2,h3⟩
 rw [show ((s.1,s.2):RS)=s from rfl,he] at h0 h1
 obtain ⟨q,c,rfl⟩:=(rdN_of_row h0).len
 exact ⟨q,c,rfl,h0,v',h.step h1 h2 h3⟩
theorem DS.box {w W:World} {p X:Nat} {v:Value} {s:RS} {R:Array Value} (h:DS w W p v s X R):(∀ o,W.cell? ⟨X,o,none⟩=R[o]?)∧(∀ o,W.frozen? ⟨X,o,none⟩=false):=⟨fun o=>blk_cell h.bx o,fun o=>blk_free h.bx o⟩
theorem DS.set {w W:World} {p X:Nat} {v:Value} {s:RS} {R:Array Value} (h:DS w W p v s X R) (i:Nat) (x:Value):DS w (W.setCell ⟨X,i,none⟩ x) p v s X (R.setIfInBounds i x):=by
 have hm:Mod [X] W (W.setCell ⟨X,i,none⟩ x):=(Mod.refl _ _).setCell (fun _=>by simp) _
 have hX:=h.px
 have hp:=h.pw
 refine ⟨⟨hm.at_ h.rr.blk (by simp;omega),h.rr.rd.mod hm (fun k hk e=>by have:=h.ov k hk;simp at e;omega),h.rr.apart⟩,h.ov,h.pw,h.px,blk_set h.bx i x,hm.at_ h.bz (by simp;omega),h.md.trans hm (by simp) (fun y hy hlt=>by simp at hy;omega)⟩
def DecTo (w:World) (b:B8) (e:Ending) (w':World):Prop :=
 ∃ sv tv,e=.returned (.tuple #[aggR ((decB b).getD Rcd.zero) sv tv,.int .i64 (if (decB b).isSome=true then 0 else 43)])∧RdN w' sv ((decB b).getD Rcd.zero).grant.stamp∧RdN w' tv ((decB b).getD Rcd.zero).stamp∧Mod [] w w'
theorem dec_loose {b:B8} {r:Rcd} (h:looseB b.length b=r):decB b=if mayB r=true∧encB r=b then some r else none:=by
 unfold decB decM
 rw [h]
theorem dec_bad {b:B8} {r:Rcd} (h:looseB b.length b=r) (hb:mayB r=false∨encB r≠b):decB b=none:=by
 rw [dec_loose h,if_neg (fun x=>by rcases hb with hb | hb <;> simp_all)]
theorem dec_good {b:B8} {r:Rcd} (h:looseB b.length b=r) (h1:mayB r=true) (h2:encB r=b):decB b=some r:=by
 rw [dec_loose h,if_pos ⟨h1,h2⟩]
theorem DecTo.bad {w W W':World} {b:B8} (h:decB b=none) (hm:Mod [] w W) (hm2:Mod [w.heap.size] W W'):DecTo w b (.returned (.tuple #[.agg zeroR,.int .i64 43])) W':=by
 refine ⟨.slice none 0 0,.slice none 0 0,?_,?_,?_,hm.trans hm2 (by simp) (fun x hx hlt=>by simp at hx;omega)⟩
 · rw [h];rfl
 · rw [h];exact rdN_nil _
 · rw [h];exact rdN_nil _
theorem DecTo.good {w W W':World} {b:B8} {r:Rcd} {sv tv:Value} (h:decB b=some r) (hm:Mod [] w W) (hm2:Mod [w.heap.size] W W') (hs:RdN W' sv r.grant.stamp) (ht:RdN W' tv r.stamp):DecTo w b (.returned (.tuple #[aggR r sv tv,.int .i64 0])) W':=by
 refine ⟨sv,tv,?_,?_,?_,hm.trans hm2 (by simp) (fun x hx hlt=>by simp at hx;omega)⟩
 · rw [h];rfl
 · rw [h];exact hs
 · rw [h];exact ht
theorem EncQ.f {w w':World} {M:Bool} {EB:B8} {e:Ending} (h:EncQ w M EB e w') (hM:M=false):e=.returned (.tuple #[.slice none 0 0,.int .i64 43])∧Mod [] w w':=by
 rcases h with ⟨_,h1,h2⟩ | ⟨h0,_⟩
 · exact ⟨h1,h2⟩
 · rw [hM] at h0;cases h0
theorem EncQ.t {w w':World} {M:Bool} {EB:B8} {e:Ending} (h:EncQ w M EB e w') (hM:M=true):∃ p c,e=.returned (.tuple #[.slice p EB.length c,.int .i64 0])∧RowY w' w.heap.size (.slice p EB.length c) EB∧Mod [] w w':=by
 rcases h with ⟨h0,_⟩ | ⟨_,h1⟩
 · rw [hM] at h0;cases h0
 · exact h1
theorem txt_size (most:Int) (s:RS):(txt most s).1.size≤s.1.length:=by
 unfold txt rdText
 simp only
 have e:∀ l:B8,(⟨l.toArray⟩:ByteArray).size=l.length:=fun l=>by simp [ByteArray.size]
 rw [e]
 repeat' split
 all_goals simp
 omega
theorem nxt_left (s:RS):(nxt s).2.1.length≤s.1.length:=by
 unfold nxt rdNum
 split <;> simp
def DMid (w:World) (b:B8) (X:Nat) (wx:World):Prop :=
 ∃ (r:Rcd) (p1:Option Addr) (n1 c1:Nat) (p2:Option Addr) (n2 c2:Nat),looseB b.length b=r∧wx.heap[X]?=some (.cells (cellsR r (.slice p1 n1 c1) (.slice p2 n2 c2)).toArray 42 (0,0))∧RdN wx (.slice p1 n1 c1) r.grant.stamp∧RdN wx (.slice p2 n2 c2) r.stamp∧r.grant.path.size≤9223372036854775807∧wx.heap[w.heap.size]?=some (.cells zeroR 42 (0,0))∧Mod [] w wx∧(∀ k,k∈ob (.slice p1 n1 c1)→k ∉ [w.heap.size])∧∀ k,k∈ob (.slice p2 n2 c2)→k ∉ [w.heap.size]
theorem decode_any {w:World} {u:Value} {b:B8} (hu:RdY w u b) (hl:b.length≤1000000000) :
 Calls Tryz.prog 78 #[u] w fun e w'=>DecTo w b e w':=by
 obtain ⟨W0,hW0⟩:∃ W0,W0=w.alloc (.cells zeroR 42 (0,0)):=⟨_,rfl⟩
 have hz0:W0.heap[w.heap.size]?=some (.cells zeroR 42 (0,0)):=by rw [hW0];exact heap_alloc_new w _
 have hm0:Mod [] w W0:=by rw [hW0];exact (Mod.refl _ _).alloc _
 have hsz0:W0.heap.size=w.heap.size+1:=by rw [hW0];simp
 have hrd:=reader_any (hu.mod hm0 (by simp)) hl
 obtain ⟨⟨kd,s0⟩,hE0⟩:∃ t,nxt (b,0)=t:=⟨_,rfl⟩
 obtain ⟨q0,c0,rfl⟩:=hu.len
 have HU:=Hj2 hu hl
 have HZ:=Hj3 hz0 hm0 hsz0
 have HE0:=hide hE0
 unfold zeroR at hW0
 clear hz0 hm0 hsz0 hu hl
 go_enter Tryz.func78,Tryz.ntmps78
 go_upto_region 1 with fail
 rw [← hW0]
 clear hW0
 go_upto_region 3 with (first
  | (go_at_call 110;refine hrd.mono ?_;rintro e w1 ⟨p,v,rfl,hr1,hp1,ho1,hm1⟩
     have hnum:=readNum_any hr1
     have H1:=Hj5 (hm1.at_ HZ.out.1 (by simp)) (HZ.out.2.1.then hm1) hp1 ho1 (lt_of_block hr1.blk)
     clear hr1 hp1 ho1 hm1 hrd)
  | (go_at_call 111;refine hnum.mono ?_;rintro e w2 ⟨rfl,v2,hr2,ho2,hm2⟩
     have hE:=HE0.out
     unfold nxt at hE
     simp only [Prod.mk.injEq] at hE
     obtain ⟨e1,e2⟩:=hE
     rw [e1]
     have hr3:RrM w2 p v2 s0.1 s0.2:=by rw [← e2];exact hr2
     have H2:=Hj3 hr3 ho2 hm2
     clear hr2 ho2 hm2 e1 e2 hr3 hnum)
  | fail)
 obtain ⟨W3,hW3⟩:∃ W3,W3=w2.alloc (.cells #[.int .i64 kd,.int .i64 0,.int .i64 0,.string ⟨#[]⟩,.int .i64 0,.slice none 0 0,.int .i64 0,.int .i64 0,.slice none 0 0,.int .i64 0,.int .i64 0,.int .i64 0] 42 (0,0)):=⟨_,rfl⟩
 rw [← hW3]
 have hds0:DS w W3 p v2 s0 w2.heap.size #[.int .i64 kd,.int .i64 0,.int .i64 0,.string ⟨#[]⟩,.int .i64 0,.slice none 0 0,.int .i64 0,.int .i64 0,.slice none 0 0,.int .i64 0,.int .i64 0,.int .i64 0]:=by
  have g:Gr w2 W3:=by rw [hW3];exact (Gr.refl w2).alloc _
  obtain ⟨hz1,hmw1,hp1,ho1,hl1⟩:=H1.out
  obtain ⟨hr2,ho2,hm2⟩:=H2.out
  have hs0:=HZ.out.2.2
  have hsz:=hm2.size
  refine ⟨⟨(g.mod []).at_ hr2.blk (by simp),hr2.rd.gr g,hr2.apart⟩,fun k hk=>?_,by omega,by omega,by rw [hW3];exact heap_alloc_new w2 _,(g.mod []).at_ (hm2.at_ hz1 (by simp;omega)) (by simp),(hmw1.trans hm2 (by simp) (fun x hx hlt=>by simp at hx;omega)).gr g⟩
  have:=ho1 k (ho2 k hk)
  exact ⟨by omega,this.2⟩
 obtain ⟨X,hX⟩:∃ X,w2.heap.size=X:=⟨_,rfl⟩
 rw [hX] at hds0 ⊢
 have HXW:Hid (w.heap.size<X):=Nat.lt_trans hds0.pw hds0.px
 have hds:=hide hds0
 have CX:=hds0.box.1
 have FX:=hds0.box.2
 clear hds0 hW3 hX H1 H2 HZ
 go_upto_block 0 with fail
 go_cut [] (fun wx=>DMid w b X wx)
 case first =>
  have hkd:kd=1∨kd=2∨kd=3∨kd=4∨kd=5∨kd=6∨kd=7∨(¬ kd=1∧¬ kd=2∧¬ kd=3∧¬ kd=4∧¬ kd=5∧¬ kd=6∧¬ kd=7):=by omega
  rcases hkd with rfl | rfl | rfl | rfl | rfl | rfl | rfl | hkd
  -- kind 1
  · skip
    have t1:=hide trivial
    have t2:=hide trivial
    have t9:=hide trivial
    obtain ⟨⟨n1,s1⟩,hE1⟩:∃ t,nxt s0=t:=⟨_,rfl⟩
    obtain ⟨⟨n2,s2⟩,hE2⟩:∃ t,nxt s1=t:=⟨_,rfl⟩
    have HLO:Hid (looseB b.length b=(⟨1,Grt.zero,0,[],n1,n2,0⟩:Rcd)):=by
     show looseB b.length b=_
     unfold looseB looseR
     rw [hE0]
     simp [hE1,hE2,Rcd.zero]
    have HE1:=hide hE1
    have HE2:=hide hE2
    clear hE1 hE2
    go_wp2_with (first
     | (have tk:=t1;go_at_call 111;refine (num_ds hds.out HE1.out).mono ?_;rintro e W2 ⟨rfl,v2,h2⟩;clear tk;clear t1;have hds2:Hid (DS w W2 p v2 s1 X #[.int .i64 1,.int .i64 0,.int .i64 0,.string ⟨#[]⟩,.int .i64 0,.slice none 0 0,.int .i64 0,.int .i64 0,.slice none 0 0,.int .i64 0,.int .i64 0,.int .i64 0]):=h2;clear hds CX FX h2;have hds:=hds2;clear hds2;have CX:=hds.out.box.1;have FX:=hds.out.box.2)
     | (have tk:=t2;go_at_call 111;refine (num_ds hds.out HE2.out).mono ?_;rintro e W2 ⟨rfl,v2,h2⟩;clear tk;clear t2;have hds2:Hid (DS w W2 p v2 s2 X #[.int .i64 1,.int .i64 0,.int .i64 0,.string ⟨#[]⟩,.int .i64 0,.slice none 0 0,.int .i64 0,.int .i64 0,.slice none 0 0,.int .i64 0,.int .i64 0,.int .i64 0]):=h2;clear hds CX FX h2;have hds:=hds2;clear hds2;have CX:=hds.out.box.1;have FX:=hds.out.box.2)
     | fail)
    go_meet
    case rel =>
     have hd5:=((hds.out.set 9 (.int .i64 n1)).set 10 (.int .i64 n2))
     exact ⟨(⟨1,Grt.zero,0,[],n1,n2,0⟩:Rcd),none,0,0,none,0,0,HLO.out,hd5.bx,rdN_nil _,rdN_nil _,(by show ByteArray.empty.size≤_;decide),hd5.bz,hd5.md,(by simp [ob,Value.ownBlock]),(by simp [ob,Value.ownBlock])⟩
  -- kind 2
  · skip
    have t1:=hide trivial
    have t9:=hide trivial
    obtain ⟨⟨n1,s1⟩,hE1⟩:∃ t,nxt s0=t:=⟨_,rfl⟩
    have HLO:Hid (looseB b.length b=(⟨2,Grt.zero,0,[],0,0,n1⟩:Rcd)):=by
     show looseB b.length b=_
     unfold looseB looseR
     rw [hE0]
     simp [hE1,Rcd.zero]
    have HE1:=hide hE1
    clear hE1
    go_wp2_with (first
     | (have tk:=t1;go_at_call 111;refine (num_ds hds.out HE1.out).mono ?_;rintro e W2 ⟨rfl,v2,h2⟩;clear tk;clear t1;have hds2:Hid (DS w W2 p v2 s1 X #[.int .i64 2,.int .i64 0,.int .i64 0,.string ⟨#[]⟩,.int .i64 0,.slice none 0 0,.int .i64 0,.int .i64 0,.slice none 0 0,.int .i64 0,.int .i64 0,.int .i64 0]):=h2;clear hds CX FX h2;have hds:=hds2;clear hds2;have CX:=hds.out.box.1;have FX:=hds.out.box.2)
     | fail)
    go_meet
    case rel =>
     have hd5:=(hds.out.set 11 (.int .i64 n1))
     exact ⟨(⟨2,Grt.zero,0,[],0,0,n1⟩:Rcd),none,0,0,none,0,0,HLO.out,hd5.bx,rdN_nil _,rdN_nil _,(by show ByteArray.empty.size≤_;decide),hd5.bz,hd5.md,(by simp [ob,Value.ownBlock]),(by simp [ob,Value.ownBlock])⟩
  -- kind 3
  · skip
    have t1:=hide trivial
    have t2:=hide trivial
    have t3:=hide trivial
    have t4:=hide trivial
    have t5:=hide trivial
    have t6:=hide trivial
    have t9:=hide trivial
    obtain ⟨⟨n1,s1⟩,hE1⟩:∃ t,nxt s0=t:=⟨_,rfl⟩
    obtain ⟨⟨n2,s2⟩,hE2⟩:∃ t,nxt s1=t:=⟨_,rfl⟩
    obtain ⟨⟨pt,s3⟩,hE3⟩:∃ t,txt (b.length:Int) s2=t:=⟨_,rfl⟩
    obtain ⟨⟨n4,s4⟩,hE4⟩:∃ t,nxt s3=t:=⟨_,rfl⟩
    obtain ⟨⟨n5,s5⟩,hE5⟩:∃ t,nxt s4=t:=⟨_,rfl⟩
    obtain ⟨⟨st,s6⟩,hE6⟩:∃ t,countersS s5=t:=⟨_,rfl⟩
    have HLO:Hid (looseB b.length b=(⟨3,⟨n1,n2,pt,n4,st,n5⟩,0,[],0,0,0⟩:Rcd)):=by
     show looseB b.length b=_
     unfold looseB looseR
     rw [hE0]
     simp [looseG,hE1,hE2,hE3,hE4,hE5,hE6,Rcd.zero]
    have hpt:pt.size≤9223372036854775807:=by
     have l0:=nxt_left (b,0)
     have l1:=nxt_left s0
     have l2:=nxt_left s1
     have l3:=txt_size (b.length:Int) s2
     have l4:=HU.out.2
     rw [hE0] at l0
     rw [hE1] at l1
     rw [hE2] at l2
     rw [hE3] at l3
     dsimp only at l0 l1 l2 l3
     omega
    have HE1:=hide hE1
    have HE2:=hide hE2
    have HE3:=hide hE3
    have HE4:=hide hE4
    have HE5:=hide hE5
    have HE6:=hide hE6
    clear hE1 hE2 hE3 hE4 hE5 hE6
    go_wp2_with (first
     | (have tk:=t1;go_at_call 111;refine (num_ds hds.out HE1.out).mono ?_;rintro e W2 ⟨rfl,v2,h2⟩;clear tk;clear t1;have hds2:Hid (DS w W2 p v2 s1 X #[.int .i64 3,.int .i64 0,.int .i64 0,.string ⟨#[]⟩,.int .i64 0,.slice none 0 0,.int .i64 0,.int .i64 0,.slice none 0 0,.int .i64 0,.int .i64 0,.int .i64 0]):=h2;clear hds CX FX h2;have hds:=hds2;clear hds2;have CX:=hds.out.box.1;have FX:=hds.out.box.2)
     | (have tk:=t2;go_at_call 111;refine (num_ds hds.out HE2.out).mono ?_;rintro e W2 ⟨rfl,v2,h2⟩;clear tk;clear t2;have hds2:Hid (DS w W2 p v2 s2 X #[.int .i64 3,.int .i64 0,.int .i64 0,.string ⟨#[]⟩,.int .i64 0,.slice none 0 0,.int .i64 0,.int .i64 0,.slice none 0 0,.int .i64 0,.int .i64 0,.int .i64 0]):=h2;clear hds CX FX h2;have hds:=hds2;clear hds2;have CX:=hds.out.box.1;have FX:=hds.out.box.2)
     | (have tk:=t3;go_at_call 112;refine (txt_ds hds.out (b.length:Int) (by omega) HE3.out).mono ?_;rintro e W2 ⟨rfl,v2,h2⟩;clear tk;clear t3;have hds2:Hid (DS w W2 p v2 s3 X #[.int .i64 3,.int .i64 0,.int .i64 0,.string ⟨#[]⟩,.int .i64 0,.slice none 0 0,.int .i64 0,.int .i64 0,.slice none 0 0,.int .i64 0,.int .i64 0,.int .i64 0]):=h2;clear hds CX FX h2;have hds:=hds2;clear hds2;have CX:=hds.out.box.1;have FX:=hds.out.box.2)
     | (have tk:=t4;go_at_call 111;refine (num_ds (((hds.out.set 1 (.int .i64 n1)).set 2 (.int .i64 n2)).set 3 (.string pt)) HE4.out).mono ?_;rintro e W2 ⟨rfl,v2,h2⟩;clear tk;clear t4;have hds2:Hid (DS w W2 p v2 s4 X #[.int .i64 3,.int .i64 n1,.int .i64 n2,.string pt,.int .i64 0,.slice none 0 0,.int .i64 0,.int .i64 0,.slice none 0 0,.int .i64 0,.int .i64 0,.int .i64 0]):=h2;clear hds CX FX h2;have hds:=hds2;clear hds2;have CX:=hds.out.box.1;have FX:=hds.out.box.2)
     | (have tk:=t5;go_at_call 111;refine (num_ds hds.out HE5.out).mono ?_;rintro e W2 ⟨rfl,v2,h2⟩;clear tk;clear t5;have hds2:Hid (DS w W2 p v2 s5 X #[.int .i64 3,.int .i64 n1,.int .i64 n2,.string pt,.int .i64 0,.slice none 0 0,.int .i64 0,.int .i64 0,.slice none 0 0,.int .i64 0,.int .i64 0,.int .i64 0]):=h2;clear hds CX FX h2;have hds:=hds2;clear hds2;have CX:=hds.out.box.1;have FX:=hds.out.box.2)
     | (have tk:=t6;go_at_call 113;have HXP:=hide (lt_of_block (((hds.out.set 4 (.int .i64 n4)).set 6 (.int .i64 n5))).bx);refine (ctr_ds ((hds.out.set 4 (.int .i64 n4)).set 6 (.int .i64 n5)) HE6.out).mono ?_;rintro e W2 ⟨qs,cs,rfl,hown,v2,h2⟩;clear tk;have HOW:=hide hown;clear hown;clear t6;have hds2:Hid (DS w W2 p v2 s6 X #[.int .i64 3,.int .i64 n1,.int .i64 n2,.string pt,.int .i64 n4,.slice none 0 0,.int .i64 n5,.int .i64 0,.slice none 0 0,.int .i64 0,.int .i64 0,.int .i64 0]):=h2;clear hds CX FX h2;have hds:=hds2;clear hds2;have CX:=hds.out.box.1;have FX:=hds.out.box.2)
     | fail)
    go_meet
    case rel =>
     have hd5:=(hds.out.set 5 (.slice qs st.length cs))
     exact ⟨(⟨3,⟨n1,n2,pt,n4,st,n5⟩,0,[],0,0,0⟩:Rcd),qs,st.length,cs,none,0,0,HLO.out,hd5.bx,(rdN_of_row HOW.out).mod (S:=[X]) ((Mod.refl _ _).setCell (fun _=>by simp) _) (fun k hk e=>by have:=(ob_of_row HOW.out k hk).1;have:=HXP.out;have:=HXW.out;simp at e;omega),rdN_nil _,(hpt),hd5.bz,hd5.md,(fun k hk e=>by have:=(ob_of_row HOW.out k hk).1;have:=HXP.out;have:=HXW.out;simp at e;omega),(by simp [ob,Value.ownBlock])⟩
  -- kind 4
  · skip
    have t1:=hide trivial
    have t2:=hide trivial
    have t3:=hide trivial
    have t4:=hide trivial
    have t5:=hide trivial
    have t6:=hide trivial
    have t9:=hide trivial
    obtain ⟨⟨n1,s1⟩,hE1⟩:∃ t,nxt s0=t:=⟨_,rfl⟩
    obtain ⟨⟨n2,s2⟩,hE2⟩:∃ t,nxt s1=t:=⟨_,rfl⟩
    obtain ⟨⟨pt,s3⟩,hE3⟩:∃ t,txt (b.length:Int) s2=t:=⟨_,rfl⟩
    obtain ⟨⟨n4,s4⟩,hE4⟩:∃ t,nxt s3=t:=⟨_,rfl⟩
    obtain ⟨⟨n5,s5⟩,hE5⟩:∃ t,nxt s4=t:=⟨_,rfl⟩
    obtain ⟨⟨st,s6⟩,hE6⟩:∃ t,countersS s5=t:=⟨_,rfl⟩
    have HLO:Hid (looseB b.length b=(⟨4,⟨n1,n2,pt,n4,st,n5⟩,0,[],0,0,0⟩:Rcd)):=by
     show looseB b.length b=_
     unfold looseB looseR
     rw [hE0]
     simp [looseG,hE1,hE2,hE3,hE4,hE5,hE6,Rcd.zero]
    have hpt:pt.size≤9223372036854775807:=by
     have l0:=nxt_left (b,0)
     have l1:=nxt_left s0
     have l2:=nxt_left s1
     have l3:=txt_size (b.length:Int) s2
     have l4:=HU.out.2
     rw [hE0] at l0
     rw [hE1] at l1
     rw [hE2] at l2
     rw [hE3] at l3
     dsimp only at l0 l1 l2 l3
     omega
    have HE1:=hide hE1
    have HE2:=hide hE2
    have HE3:=hide hE3
    have HE4:=hide hE4
    have HE5:=hide hE5
    have HE6:=hide hE6
    clear hE1 hE2 hE3 hE4 hE5 hE6
    go_wp2_with (first
     | (have tk:=t1;go_at_call 111;refine (num_ds hds.out HE1.out).mono ?_;rintro e W2 ⟨rfl,v2,h2⟩;clear tk;clear t1;have hds2:Hid (DS w W2 p v2 s1 X #[.int .i64 4,.int .i64 0,.int .i64 0,.string ⟨#[]⟩,.int .i64 0,.slice none 0 0,.int .i64 0,.int .i64 0,.slice none 0 0,.int .i64 0,.int .i64 0,.int .i64 0]):=h2;clear hds CX FX h2;have hds:=hds2;clear hds2;have CX:=hds.out.box.1;have FX:=hds.out.box.2)
     | (have tk:=t2;go_at_call 111;refine (num_ds hds.out HE2.out).mono ?_;rintro e W2 ⟨rfl,v2,h2⟩;clear tk;clear t2;have hds2:Hid (DS w W2 p v2 s2 X #[.int .i64 4,.int .i64 0,.int .i64 0,.string ⟨#[]⟩,.int .i64 0,.slice none 0 0,.int .i64 0,.int .i64 0,.slice none 0 0,.int .i64 0,.int .i64 0,.int .i64 0]):=h2;clear hds CX FX h2;have hds:=hds2;clear hds2;have CX:=hds.out.box.1;have FX:=hds.out.box.2)
     | (have tk:=t3;go_at_call 112;refine (txt_ds hds.out (b.length:Int) (by omega) HE3.out).mono ?_;rintro e W2 ⟨rfl,v2,h2⟩;clear tk;clear t3;have hds2:Hid (DS w W2 p v2 s3 X #[.int .i64 4,.int .i64 0,.int .i64 0,.string ⟨#[]⟩,.int .i64 0,.slice none 0 0,.int .i64 0,.int .i64 0,.slice none 0 0,.int .i64 0,.int .i64 0,.int .i64 0]):=h2;clear hds CX FX h2;have hds:=hds2;clear hds2;have CX:=hds.out.box.1;have FX:=hds.out.box.2)
     | (have tk:=t4;go_at_call 111;refine (num_ds (((hds.out.set 1 (.int .i64 n1)).set 2 (.int .i64 n2)).set 3 (.string pt)) HE4.out).mono ?_;rintro e W2 ⟨rfl,v2,h2⟩;clear tk;clear t4;have hds2:Hid (DS w W2 p v2 s4 X #[.int .i64 4,.int .i64 n1,.int .i64 n2,.string pt,.int .i64 0,.slice none 0 0,.int .i64 0,.int .i64 0,.slice none 0 0,.int .i64 0,.int .i64 0,.int .i64 0]):=h2;clear hds CX FX h2;have hds:=hds2;clear hds2;have CX:=hds.out.box.1;have FX:=hds.out.box.2)
     | (have tk:=t5;go_at_call 111;refine (num_ds hds.out HE5.out).mono ?_;rintro e W2 ⟨rfl,v2,h2⟩;clear tk;clear t5;have hds2:Hid (DS w W2 p v2 s5 X #[.int .i64 4,.int .i64 n1,.int .i64 n2,.string pt,.int .i64 0,.slice none 0 0,.int .i64 0,.int .i64 0,.slice none 0 0,.int .i64 0,.int .i64 0,.int .i64 0]):=h2;clear hds CX FX h2;have hds:=hds2;clear hds2;have CX:=hds.out.box.1;have FX:=hds.out.box.2)
     | (have tk:=t6;go_at_call 113;have HXP:=hide (lt_of_block (((hds.out.set 4 (.int .i64 n4)).set 6 (.int .i64 n5))).bx);refine (ctr_ds ((hds.out.set 4 (.int .i64 n4)).set 6 (.int .i64 n5)) HE6.out).mono ?_;rintro e W2 ⟨qs,cs,rfl,hown,v2,h2⟩;clear tk;have HOW:=hide hown;clear hown;clear t6;have hds2:Hid (DS w W2 p v2 s6 X #[.int .i64 4,.int .i64 n1,.int .i64 n2,.string pt,.int .i64 n4,.slice none 0 0,.int .i64 n5,.int .i64 0,.slice none 0 0,.int .i64 0,.int .i64 0,.int .i64 0]):=h2;clear hds CX FX h2;have hds:=hds2;clear hds2;have CX:=hds.out.box.1;have FX:=hds.out.box.2)
     | fail)
    go_meet
    case rel =>
     have hd5:=(hds.out.set 5 (.slice qs st.length cs))
     exact ⟨(⟨4,⟨n1,n2,pt,n4,st,n5⟩,0,[],0,0,0⟩:Rcd),qs,st.length,cs,none,0,0,HLO.out,hd5.bx,(rdN_of_row HOW.out).mod (S:=[X]) ((Mod.refl _ _).setCell (fun _=>by simp) _) (fun k hk e=>by have:=(ob_of_row HOW.out k hk).1;have:=HXP.out;have:=HXW.out;simp at e;omega),rdN_nil _,(hpt),hd5.bz,hd5.md,(fun k hk e=>by have:=(ob_of_row HOW.out k hk).1;have:=HXP.out;have:=HXW.out;simp at e;omega),(by simp [ob,Value.ownBlock])⟩
  -- kind 5
  · skip
    have t1:=hide trivial
    have t2:=hide trivial
    have t9:=hide trivial
    obtain ⟨⟨n1,s1⟩,hE1⟩:∃ t,nxt s0=t:=⟨_,rfl⟩
    obtain ⟨⟨st,s2⟩,hE2⟩:∃ t,countersS s1=t:=⟨_,rfl⟩
    have HLO:Hid (looseB b.length b=(⟨5,Grt.zero,n1,st,0,0,0⟩:Rcd)):=by
     show looseB b.length b=_
     unfold looseB looseR
     rw [hE0]
     simp [hE1,hE2,Rcd.zero]
    have HE1:=hide hE1
    have HE2:=hide hE2
    clear hE1 hE2
    go_wp2_with (first
     | (have tk:=t1;go_at_call 111;refine (num_ds hds.out HE1.out).mono ?_;rintro e W2 ⟨rfl,v2,h2⟩;clear tk;clear t1;have hds2:Hid (DS w W2 p v2 s1 X #[.int .i64 5,.int .i64 0,.int .i64 0,.string ⟨#[]⟩,.int .i64 0,.slice none 0 0,.int .i64 0,.int .i64 0,.slice none 0 0,.int .i64 0,.int .i64 0,.int .i64 0]):=h2;clear hds CX FX h2;have hds:=hds2;clear hds2;have CX:=hds.out.box.1;have FX:=hds.out.box.2)
     | (have tk:=t2;go_at_call 113;have HXP:=hide (lt_of_block ((hds.out.set 7 (.int .i64 n1))).bx);refine (ctr_ds (hds.out.set 7 (.int .i64 n1)) HE2.out).mono ?_;rintro e W2 ⟨qs,cs,rfl,hown,v2,h2⟩;clear tk;have HOW:=hide hown;clear hown;clear t2;have hds2:Hid (DS w W2 p v2 s2 X #[.int .i64 5,.int .i64 0,.int .i64 0,.string ⟨#[]⟩,.int .i64 0,.slice none 0 0,.int .i64 0,.int .i64 n1,.slice none 0 0,.int .i64 0,.int .i64 0,.int .i64 0]):=h2;clear hds CX FX h2;have hds:=hds2;clear hds2;have CX:=hds.out.box.1;have FX:=hds.out.box.2)
     | fail)
    go_meet
    case rel =>
     have hd5:=(hds.out.set 8 (.slice qs st.length cs))
     exact ⟨(⟨5,Grt.zero,n1,st,0,0,0⟩:Rcd),none,0,0,qs,st.length,cs,HLO.out,hd5.bx,rdN_nil _,(rdN_of_row HOW.out).mod (S:=[X]) ((Mod.refl _ _).setCell (fun _=>by simp) _) (fun k hk e=>by have:=(ob_of_row HOW.out k hk).1;have:=HXP.out;have:=HXW.out;simp at e;omega),(by show ByteArray.empty.size≤_;decide),hd5.bz,hd5.md,(by simp [ob,Value.ownBlock]),(fun k hk e=>by have:=(ob_of_row HOW.out k hk).1;have:=HXP.out;have:=HXW.out;simp at e;omega)⟩
  -- kind 6
  · skip
    have t1:=hide trivial
    have t9:=hide trivial
    obtain ⟨⟨n1,s1⟩,hE1⟩:∃ t,nxt s0=t:=⟨_,rfl⟩
    have HLO:Hid (looseB b.length b=(⟨6,Grt.zero,n1,[],0,0,0⟩:Rcd)):=by
     show looseB b.length b=_
     unfold looseB looseR
     rw [hE0]
     simp [hE1,Rcd.zero]
    have HE1:=hide hE1
    clear hE1
    go_wp2_with (first
     | (have tk:=t1;go_at_call 111;refine (num_ds hds.out HE1.out).mono ?_;rintro e W2 ⟨rfl,v2,h2⟩;clear tk;clear t1;have hds2:Hid (DS w W2 p v2 s1 X #[.int .i64 6,.int .i64 0,.int .i64 0,.string ⟨#[]⟩,.int .i64 0,.slice none 0 0,.int .i64 0,.int .i64 0,.slice none 0 0,.int .i64 0,.int .i64 0,.int .i64 0]):=h2;clear hds CX FX h2;have hds:=hds2;clear hds2;have CX:=hds.out.box.1;have FX:=hds.out.box.2)
     | fail)
    go_meet
    case rel =>
     have hd5:=(hds.out.set 7 (.int .i64 n1))
     exact ⟨(⟨6,Grt.zero,n1,[],0,0,0⟩:Rcd),none,0,0,none,0,0,HLO.out,hd5.bx,rdN_nil _,rdN_nil _,(by show ByteArray.empty.size≤_;decide),hd5.bz,hd5.md,(by simp [ob,Value.ownBlock]),(by simp [ob,Value.ownBlock])⟩
  -- kind 7
  · skip
    have t9:=hide trivial
    have HLO:Hid (looseB b.length b=(⟨7,Grt.zero,0,[],0,0,0⟩:Rcd)):=by
     show looseB b.length b=_
     unfold looseB looseR
     rw [hE0]
     simp [Rcd.zero]
    go_wp2_with fail
    go_meet
    case rel =>
     have hd5:=hds.out
     exact ⟨(⟨7,Grt.zero,0,[],0,0,0⟩:Rcd),none,0,0,none,0,0,HLO.out,hd5.bx,rdN_nil _,rdN_nil _,(by show ByteArray.empty.size≤_;decide),hd5.bz,hd5.md,(by simp [ob,Value.ownBlock]),(by simp [ob,Value.ownBlock])⟩
  -- kind o
  · skip
    have t9:=hide trivial
    have HLO:Hid (looseB b.length b=(⟨kd,Grt.zero,0,[],0,0,0⟩:Rcd)):=by
     show looseB b.length b=_
     unfold looseB looseR
     rw [hE0]
     rw [if_neg hkd.1,if_neg hkd.2.1,if_neg (by omega),if_neg hkd.2.2.2.2.1,if_neg hkd.2.2.2.2.2.1]
     rfl
    have n1:(kd==1)=false:=by simp;omega
    have n2:(kd==2)=false:=by simp;omega
    have n3:(kd==3)=false:=by simp;omega
    have n4:(kd==4)=false:=by simp;omega
    have n5:(kd==5)=false:=by simp;omega
    have n6:(kd==6)=false:=by simp;omega
    clear hkd
    go_wp2_with fail
    go_meet
    case rel =>
     have hd5:=hds.out
     exact ⟨(⟨kd,Grt.zero,0,[],0,0,0⟩:Rcd),none,0,0,none,0,0,HLO.out,hd5.bx,rdN_nil _,rdN_nil _,(by show ByteArray.empty.size≤_;decide),hd5.bz,hd5.md,(by simp [ob,Value.ownBlock]),(by simp [ob,Value.ownBlock])⟩
 case rest =>
 obtain ⟨⟨kd,⟨gi,gh,gp,gm,gs,gt⟩,ri,rs,rn,rb,rl⟩,p1,n1,c1,p2,n2,c2,hlo,hbx,hr1,hr2,hpa,hbz,hmd,hob⟩:=hcut
 have HOB:=hide hob
 clear hob
 obtain ⟨W5,rfl⟩:∃ x:World,x=wc:=⟨_,rfl⟩
 have henc:=encode_any hr1 hr2 hpa
 obtain ⟨M,hM⟩:∃ M,mayB ⟨kd,⟨gi,gh,gp,gm,gs,gt⟩,ri,rs,rn,rb,rl⟩=M:=⟨_,rfl⟩
 obtain ⟨EB,hEB⟩:∃ EB,encB ⟨kd,⟨gi,gh,gp,gm,gs,gt⟩,ri,rs,rn,rb,rl⟩=EB:=⟨_,rfl⟩
 obtain ⟨S1,hS1⟩:∃ S1,(⟨EB.toArray⟩:ByteArray)=S1:=⟨_,rfl⟩
 obtain ⟨S2,hS2⟩:∃ S2,(⟨b.toArray⟩:ByteArray)=S2:=⟨_,rfl⟩
 rw [hM,hEB] at henc
 unfold aggR cellsR at henc
 simp only at henc
 have K5:=blk_cell hbx
 unfold cellsR at K5
 simp only at K5
 have HR:=Hj6 hr1 hr2 hbx hbz hmd hlo
 have HS:=Hj2 hS1 hS2
 have HE:=Hj2 hM hEB
 clear hr1 hr2 hpa hbz hmd hlo hbx hM hEB hds CX FX
 cases M with
 | false =>
   clear hS1 hS2
   go_wp2_with (first
    | (go_at_call 48;refine henc.mono ?_;intro e W6 hq;obtain ⟨rfl,hm6⟩:=hq.f rfl;have hz6:=hm6.at_ HR.out.2.2.2.1 (by simp);unfold zeroR at hz6;have Z0:=blk_cell hz6;have ZF:=blk_free hz6;have H6:=Hj2 hz6 (HR.out.2.2.2.2.1.then hm6);clear hq hm6 hz6 henc K5)
    | fail)
   obtain ⟨hz6,hm6⟩:=H6.out
   have q:=stL_all hz6 [.int .i64 0,.int .i64 0,.int .i64 0,.string ⟨#[]⟩,.int .i64 0,.slice none 0 0,.int .i64 0,.int .i64 0,.slice none 0 0,.int .i64 0,.int .i64 0,.int .i64 0] rfl
   have qm:=stL_mod (S:=[w.heap.size]) (w0:=W6) (r:=w.heap.size) (fun _=>by simp) [.int .i64 0,.int .i64 0,.int .i64 0,.string ⟨#[]⟩,.int .i64 0,.slice none 0 0,.int .i64 0,.int .i64 0,.slice none 0 0,.int .i64 0,.int .i64 0,.int .i64 0] 0 _ (Mod.refl _ _)
   exact bodyPost_ret (v:=.tuple #[.agg zeroR,.int .i64 43]) (res_cell2 Tryz.results78 _ _ rfl q Tryz.isAgg42 Tryz.sizeOf42 rfl) rfl (DecTo.bad (dec_bad HR.out.2.2.2.2.2 (.inl HE.out.1)) hm6 qm)
 | true =>
   by_cases hb:EB=b
   · have hcm:(S1.toList==S2.toList)=true:=by rw [← hS1,← hS2,hb];simp
     have HB:=hide hb
     clear hS1 hS2 hb
     go_wp2_with (first
      | (go_at_call 48;refine henc.mono ?_;intro e W6 hq;obtain ⟨p6,c6,rfl,hrow6,hm6⟩:=hq.t rfl;have hX6:=hm6.at_ HR.out.2.2.1 (by simp);unfold cellsR at hX6;have RX:=blk_cell hX6
         have hz6:=hm6.at_ HR.out.2.2.2.1 (by simp);unfold zeroR at hz6;have Z0:=blk_cell hz6;have ZF:=blk_free hz6
         have st1:=hrow6.rd.str;rw [HS.out.1] at st1;have st2:=(HU.out.1.mod (S:=[]) (HR.out.2.2.2.2.1.then hm6) (by simp)).str;rw [HS.out.2] at st2
         have HR6:=Hj2 (HR.out.1.mod hm6 (by simp)) (HR.out.2.1.mod hm6 (by simp))
         have H6:=Hj2 hz6 (HR.out.2.2.2.2.1.then hm6);clear hq hm6 hz6 hX6 hrow6 henc K5)
      | fail)
     obtain ⟨hz6,hm6⟩:=H6.out
     have q:=stL_all hz6 [.int .i64 kd,.int .i64 gi,.int .i64 gh,.string gp,.int .i64 gm,.slice p1 n1 c1,.int .i64 gt,.int .i64 ri,.slice p2 n2 c2,.int .i64 rn,.int .i64 rb,.int .i64 rl] rfl
     have qm:=stL_mod (S:=[w.heap.size]) (w0:=W6) (r:=w.heap.size) (fun _=>by simp) [.int .i64 kd,.int .i64 gi,.int .i64 gh,.string gp,.int .i64 gm,.slice p1 n1 c1,.int .i64 gt,.int .i64 ri,.slice p2 n2 c2,.int .i64 rn,.int .i64 rb,.int .i64 rl] 0 _ (Mod.refl _ _)
     exact bodyPost_ret (v:=.tuple #[aggR ⟨kd,⟨gi,gh,gp,gm,gs,gt⟩,ri,rs,rn,rb,rl⟩ (.slice p1 n1 c1) (.slice p2 n2 c2),.int .i64 0]) (res_cell2 Tryz.results78 _ _ rfl q Tryz.isAgg42 Tryz.sizeOf42 rfl) rfl (DecTo.good (dec_good HR.out.2.2.2.2.2 HE.out.1 (HE.out.2.trans HB.out)) hm6 qm (HR6.out.1.mod qm HOB.out.1) (HR6.out.2.mod qm HOB.out.2))
   · have hcm:(S1.toList==S2.toList)=false:=by
      rw [beq_eq_false_iff_ne,← hS1,← hS2]
      intro e
      rw [Lib.toList_data,Lib.toList_data] at e
      exact hb (by simpa using e)
     have HB:=hide (fun e=>hb (HE.out.2.symm.trans e))
     clear hS1 hS2 hb
     go_wp2_with (first
      | (go_at_call 48;refine henc.mono ?_;intro e W6 hq;obtain ⟨p6,c6,rfl,hrow6,hm6⟩:=hq.t rfl;have hX6:=hm6.at_ HR.out.2.2.1 (by simp);unfold cellsR at hX6;have RX:=blk_cell hX6
         have hz6:=hm6.at_ HR.out.2.2.2.1 (by simp);unfold zeroR at hz6;have Z0:=blk_cell hz6;have ZF:=blk_free hz6
         have st1:=hrow6.rd.str;rw [HS.out.1] at st1;have st2:=(HU.out.1.mod (S:=[]) (HR.out.2.2.2.2.1.then hm6) (by simp)).str;rw [HS.out.2] at st2
         have HR6:=Hj2 (HR.out.1.mod hm6 (by simp)) (HR.out.2.1.mod hm6 (by simp))
         have H6:=Hj2 hz6 (HR.out.2.2.2.2.1.then hm6);clear hq hm6 hz6 hX6 hrow6 henc K5)
      | fail)
     obtain ⟨hz6,hm6⟩:=H6.out
     have q:=stL_all hz6 [.int .i64 0,.int .i64 0,.int .i64 0,.string ⟨#[]⟩,.int .i64 0,.slice none 0 0,.int .i64 0,.int .i64 0,.slice none 0 0,.int .i64 0,.int .i64 0,.int .i64 0] rfl
     have qm:=stL_mod (S:=[w.heap.size]) (w0:=W6) (r:=w.heap.size) (fun _=>by simp) [.int .i64 0,.int .i64 0,.int .i64 0,.string ⟨#[]⟩,.int .i64 0,.slice none 0 0,.int .i64 0,.int .i64 0,.slice none 0 0,.int .i64 0,.int .i64 0,.int .i64 0] 0 _ (Mod.refl _ _)
     exact bodyPost_ret (v:=.tuple #[.agg zeroR,.int .i64 43]) (res_cell2 Tryz.results78 _ _ rfl q Tryz.isAgg42 Tryz.sizeOf42 rfl) rfl (DecTo.bad (dec_bad HR.out.2.2.2.2.2 (.inr HB.out)) hm6 qm)
end Go.Proofs.YtpphoeimakjjdaaGreatDoor
