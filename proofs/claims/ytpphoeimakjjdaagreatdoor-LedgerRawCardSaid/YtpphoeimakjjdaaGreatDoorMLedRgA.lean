/-
  LedRg10 LedRgA: see the remarks below.
-/
import Derived.Test.YtpphoeimakjjdaaGreatDoorMLedRg9
import Derived.Test.YtpphoeimakjjdaaGreatDoorMRds
import Derived.Test.YtpphoeimakjjdaaGreatDoorMOctR
/-
  WALKS: the document's layer 10: Pack, where generation, number and length may be.
-/
namespace Go.Proofs.YtpphoeimakjjdaaGreatDoor
set_option maxRecDepth 100000
set_option maxHeartbeats 4000000
open Go.RowKit

def PkRel (w:World) (gen seq:Nat) (data:B8) (v i:Value) (wr:World):Prop :=
 ∃ (k:Nat) (q:Option Addr) (c:Nat) (vs:List Value),i=.int .i64 (k:Int)∧k≤widthN data.length∧v=.slice q k c∧RowsY wr w.heap.size (.slice q k c) vs ((packL gen seq data).take k)∧Mod [] w wr
theorem rpack_any {w:World} {gen seq:Nat} (hg1:1≤gen) (hg2:gen≤1073741824) (hs:seq≤1073741824) {q:Option Addr} {c:Nat} {data:B8} (hu:RdY w (.slice q data.length c) data) (hl:data.length≤188) :
 Calls Tryz.prog 96 #[.int .i64 (gen:Int),.int .i64 (seq:Int),.slice q data.length c] w fun e w'=>∃ v vs,e=.returned (.tuple #[v,.int .i64 0])∧RowsY w' w.heap.size v vs (packL gen seq data)∧Mod [] w w':=by
 obtain ⟨N,hN⟩:∃ N,widthN data.length=N:=⟨_,rfl⟩
 have hN1:1≤N∧N≤4∧data.length≤47 * N∧(0<data.length→47 * N<data.length+47):=by rw [← hN];unfold widthN;omega
 have hcap:=hu.cap
 have HU:=Hj2 hu hN
 have hdiv:((data.length:Int)+47 - 1).tdiv 47=(((data.length+46) / 47:Nat):Int):=by
  rw [show (data.length:Int)+47 - 1=((data.length+46:Nat):Int) by omega]
  rfl
 clear hu hN
 go_enter Tryz.func96,Tryz.ntmps96
 have hN0:data.length=0→N=1:=by rw [← HU.out.2];unfold widthN;omega
 have hNd:data.length≠0→((data.length:Int)+46) / 47=(N:Int):=by rw [← HU.out.2];unfold widthN;omega
 obtain ⟨L,hL⟩:∃ L,data.length=L:=⟨_,rfl⟩
 have HLn:=hide hL
 rw [hL] at hN1 hcap hdiv hN0 hNd hl ⊢
 clear hL
 go_upto_if 35 with fail
 go_cut [8] (fun s8 wx=>s8=.int .i64 (N:Int)∧wx=w)
 case first =>
  by_cases h0:L=0
  · have hn1:=hN0 h0
    subst h0 hn1
    go_wp2_with fail
    go_meet
    case rel=>exact ⟨rfl,rfl⟩
  · have hnn:=hNd h0
    have hn0:((N:Int)==0)=false:=by simp;omega
    go_wp2_with fail
    go_meet
    case rel=>exact ⟨by first | rfl | rw [hnn],rfl⟩
 case rest =>
 obtain ⟨rfl,hwx⟩:=hcut
 rw [hwx]
 clear hwx hNd hdiv
 go_wp2_with fail
 go_loopw [9,10] (fun v i wr=>PkRel w gen seq data v i wr) (fun _ i _=>N - (intOf i).toNat)
 case atStart=>exact ⟨0,none,0,[],rfl,Nat.zero_le _,rfl,by rw [List.take_zero];exact RowsY.nil w _,Mod.refl _ _⟩
 case round =>
  obtain ⟨k,qv,cv,vs,rfl,hk,rfl,hrow,hm⟩:=hrel
  rw [HU.out.2] at hk
  by_cases hlt:k<N
  · have hsz:=hm.size
    have hrd:=HU.out.1.mod hm (by simp)
    obtain ⟨E,hE⟩:∃ E:Nat,min (k * 47+47) L=E:=⟨_,rfl⟩
    have hE1:k * 47≤E∧E≤L∧E - k * 47≤47:=by
     rcases Nat.eq_zero_or_pos L with h0 | h0
     · have:=hN0 h0;omega
     · have:=hN1.2.2.2 h0;omega
    obtain ⟨pc,hpc⟩:∃ pc,pieceS data k=pc:=⟨_,rfl⟩
    have hpl:pc.length=E - k * 47:=by rw [← hpc,pieceS_len,HLn.out];omega
    have hlc:(packL gen seq data).take (k+1)=(packL gen seq data).take k++[packOne gen seq k N pc]:=by
     have h:=packL_at (gen:=gen) (seq:=seq) (data:=data) (i:=k) (by rw [HU.out.2];exact hlt)
     rw [HU.out.2,hpc] at h
     rw [List.take_add_one,h]
     rfl
    have hpr:RdY wr (.slice (if c=k * 47 then q else q.map fun x=>x.add (k * 47)) (E - k * 47) (if c=k * 47 then 0 else c - k * 47)) pc:=by
     by_cases hck:c=k * 47
     · rw [if_pos hck,if_pos hck]
       obtain rfl:pc=[]:=List.length_eq_zero_iff.1 (by omega)
       rw [show E - k * 47=0 by omega]
       exact RdY.nil _ _ _
     · rw [if_neg hck,if_neg hck]
       have h1:=hrd.cut (k:=k * 47) (by rw [HLn.out];omega)
       rw [← List.length_drop] at h1
       have h2:=h1.take (k:=E - k * 47) (by rw [List.length_drop,HLn.out];omega)
       rw [← hpc]
       unfold pieceS
       rw [Nat.mul_comm 47 k,show (data.drop (k * 47)).take 47=(data.drop (k * 47)).take (E - k * 47) by
        rcases Nat.lt_or_ge (k * 47+47) L with h | h
        · rw [show E - k * 47=47 by omega]
        · rw [List.take_of_length_le (by rw [List.length_drop,HLn.out];omega),List.take_of_length_le (by rw [List.length_drop,HLn.out];omega)]]
       exact h2
    obtain ⟨vl,hvl⟩:∃ l,vs.length=l:=⟨_,rfl⟩
    obtain ⟨ls,hls⟩:∃ ls,(packL gen seq data).take k=ls:=⟨_,rfl⟩
    have hll:ls.length=k:=by rw [← hls,List.length_take,packL_len,HU.out.2];omega
    rw [hls] at hrow hlc
    have HP:=Hj4 hlc hrow hll hm
    have hEI:(E:Int)≤L:=by omega
    have hE2:(k:Int) * 47≤E:=by omega
    have hmE:(((k:Int)+1) * 47≤L→((k:Int)+1) * 47=E)∧(¬ ((k:Int)+1) * 47≤L→(L:Int)=E):=by omega
    clear hlc hrow hls hll hm hvl hE
    go_upto_region 12 with fail
    go_cut [11] (fun s wx=>s=.int .i64 (E:Int)∧wx=wr)
    case first =>
     go_wp2_with fail
     all_goals
      go_meet
      case rel=>exact ⟨congrArg (Value.int .i64) (by omega),rfl⟩
    case rest =>
    obtain ⟨rfl,hwx⟩:=hcut
    rw [hwx]
    clear hwx
    by_cases hck:c=k * 47
    · rw [if_pos hck,if_pos hck] at hpr
      subst hck
      have hcall:=rlay_any (gen:=gen) (seq:=seq) (i:=k) (n:=N) (by omega) (by omega) (by omega) (by omega) (show RdY wr (.slice q pc.length 0) pc by rw [hpl];exact hpr) (by omega)
      rw [hpl] at hcall
      obtain ⟨P,hP⟩:∃ P,packOne gen seq k N pc=P:=⟨_,rfl⟩
      rw [hP] at hcall
      have HQ:=hide hP
      clear hpr hP hpl hpc
      go_wp2_with (first
       | (go_at_call 137;refine hcall.mono ?_;rintro e w1 ⟨v1,rfl,r1,m1⟩
          obtain ⟨q1,c1,rfl⟩:=r1.rd.len
          obtain ⟨pl,hpl⟩:∃ n,P.length=n:=⟨_,rfl⟩
          rw [hpl] at r1 ⊢
          have H1:=Hj2 r1 m1
          clear hcall r1 m1 hpl)
       | (at_builtin
          refine wpList_app_ys _ rfl _ _ rfl w.heap.size (.slice qv k cv) vs ls rfl (HP.out.2.1.mod (H1.out.2.alloc _) (by simp)) w1.heap.size (.slice q1 pl c1) P rfl (heap_alloc_new w1 _) rfl ((H1.out.1.mod_alloc _).base hsz) (fun x hx hx2=>by have a1:=(H1.out.1.blk x hx).1;have a2:=(HP.out.2.1.blk x hx2).2;omega) (by have:=HP.out.2.2.1;omega) (by have:=H1.out.2.size;simp;omega) ?_
          intro g cap' w3 hr3 hm3 hg1 hg2
          have H3:=Hj2 hr3 hm3
          clear hr3 hm3 hg1 hg2)
       | fail)
      go_roundw
      case rel =>
       refine ⟨k+1,some ⟨g,0,none⟩,cap',vs++[.slice q1 pl c1],by go_num,by rw [HU.out.2];omega,by rw [HP.out.2.2.1],?_,mod_new (HP.out.2.2.2.then (H1.out.2.alloc _)) H3.out.2 (fun x hx=>(HP.out.2.1.blk x hx).1)⟩
       rw [HP.out.1,HQ.out]
       have h:=H3.out.1
       rw [HP.out.2.2.1] at h
       exact h
      case measure=>simp [intOf];omega
    · rw [if_neg hck,if_neg hck] at hpr
      have hcall:=rlay_any (gen:=gen) (seq:=seq) (i:=k) (n:=N) (by omega) (by omega) (by omega) (by omega) (show RdY wr (.slice (q.map fun x=>x.add (k * 47)) pc.length (c - k * 47)) pc by rw [hpl];exact hpr) (by omega)
      rw [hpl] at hcall
      obtain ⟨P,hP⟩:∃ P,packOne gen seq k N pc=P:=⟨_,rfl⟩
      rw [hP] at hcall
      have HQ:=hide hP
      clear hpr hP hpl hpc
      go_wp2_with (first
       | (go_at_call 137;refine hcall.mono ?_;rintro e w1 ⟨v1,rfl,r1,m1⟩
          obtain ⟨q1,c1,rfl⟩:=r1.rd.len
          obtain ⟨pl,hpl⟩:∃ n,P.length=n:=⟨_,rfl⟩
          rw [hpl] at r1 ⊢
          have H1:=Hj2 r1 m1
          clear hcall r1 m1 hpl)
       | (at_builtin
          refine wpList_app_ys _ rfl _ _ rfl w.heap.size (.slice qv k cv) vs ls rfl (HP.out.2.1.mod (H1.out.2.alloc _) (by simp)) w1.heap.size (.slice q1 pl c1) P rfl (heap_alloc_new w1 _) rfl ((H1.out.1.mod_alloc _).base hsz) (fun x hx hx2=>by have a1:=(H1.out.1.blk x hx).1;have a2:=(HP.out.2.1.blk x hx2).2;omega) (by have:=HP.out.2.2.1;omega) (by have:=H1.out.2.size;simp;omega) ?_
          intro g cap' w3 hr3 hm3 hg1 hg2
          have H3:=Hj2 hr3 hm3
          clear hr3 hm3 hg1 hg2)
       | fail)
      go_roundw
      case rel =>
       refine ⟨k+1,some ⟨g,0,none⟩,cap',vs++[.slice q1 pl c1],by go_num,by rw [HU.out.2];omega,by rw [HP.out.2.2.1],?_,mod_new (HP.out.2.2.2.then (H1.out.2.alloc _)) H3.out.2 (fun x hx=>(HP.out.2.1.blk x hx).1)⟩
       rw [HP.out.1,HQ.out]
       have h:=H3.out.1
       rw [HP.out.2.2.1] at h
       exact h
      case measure=>simp [intOf];omega
  · obtain rfl:k=N:=by omega
    go_wp2_with fail
    go_ret2
    have ht:(packL gen seq data).take k=packL gen seq data:=List.take_of_length_le (by rw [packL_len,HU.out.2];exact Nat.le_refl _)
    rw [ht] at hrow
    exact ⟨_,vs,rfl,hrow,hm⟩
end Go.Proofs.YtpphoeimakjjdaaGreatDoor
/-
  PLAIN LAWS OF MEMORY: a slice, of any place in its row, whose elements read as bytes.
-/
namespace Go.Proofs.YtpphoeimakjjdaaGreatDoor
open Go.RowKit

def RdA (w:World) (v:Value) (ls:List B8):Prop :=
 ls.length≤maxLen∧((∃ p c,v=.slice p 0 c∧ls=[])∨∃ b off cap,v=.slice (some ⟨b,off,none⟩) ls.length cap∧(ls.length≤cap∧cap≤maxLen)∧b<w.heap.size∧∀ i,i<ls.length→∃ u,w.cell? ⟨b,off+i,none⟩=some u∧RdY w u (ls.getD i []))
section
variable {w w':World} {v:Value} {ls:List B8} {p:Option Addr} {n c:Nat}
theorem RdA.quiet (h:RdA w v ls) (m:Mod [] w w'):RdA w' v ls:=by
 refine ⟨h.1,h.2.imp id ?_⟩
 rintro ⟨b,off,cap,rfl,hcap,hb,hc⟩
 refine ⟨b,off,cap,rfl,hcap,Nat.lt_of_lt_of_le hb m.size,fun i hi=>?_⟩
 obtain ⟨u,h1,h2⟩:=hc i hi
 exact ⟨u,m.kept h1 (by simp),h2.mod m (by simp)⟩
theorem RdA.nil (w:World) (p:Option Addr) (c:Nat):RdA w (.slice p 0 c) []:=⟨by simp,.inl ⟨p,c,rfl,rfl⟩⟩
theorem RdA.len (h:RdA w v ls):∃ p c,v=.slice p ls.length c:=by
 rcases h.2 with ⟨p,c,rfl,rfl⟩ | ⟨b,off,cap,rfl,_⟩
 · exact ⟨p,c,rfl⟩
 · exact ⟨_,cap,rfl⟩
theorem RdA.at_ (h:RdA w (.slice p n c) ls) (i:Nat) (hi:i<ls.length):∃ b off u,p=some ⟨b,off,none⟩∧b<w.heap.size∧w.cell? ⟨b,off+i,none⟩=some u∧RdY w u (ls.getD i []):=by
 rcases h.2 with ⟨_,c,_,rfl⟩ | ⟨b,off,cap,hv,_,hb,hc⟩
 · simp at hi
 · simp only [Value.slice.injEq] at hv
   obtain ⟨u,h1,h2⟩:=hc i hi
   exact ⟨b,off,u,hv.1,hb,h1,h2⟩
theorem RdA.cap (h:RdA w (.slice p n c) ls):ls.length≤c:=by
 rcases h.2 with ⟨_,c,_,rfl⟩ | ⟨b,off,cap,hv,h2,_,_⟩
 · simp
 · simp only [Value.slice.injEq] at hv
   omega
theorem RdA.cut (h:RdA w (.slice p ls.length c) ls) {k:Nat} (hk:k≤ls.length):RdA w (.slice (p.map fun x=>x.add k) (ls.length - k) (c - k)) (ls.drop k):=by
 have hl:(ls.drop k).length=ls.length - k:=List.length_drop
 refine ⟨by have:=h.1;omega,?_⟩
 rcases h.2 with ⟨p',c',hv,rfl⟩ | ⟨b,off,cap,hv,h2,h3,h4⟩
 · refine .inl ⟨p.map fun x=>x.add k,c - k,by simp,by simp⟩
 · simp only [Value.slice.injEq] at hv
   obtain ⟨rfl,_,rfl⟩:=hv
   refine .inr ⟨b,off+k,c - k,?_,⟨by omega,by omega⟩,h3,fun i hi=>?_⟩
   · rw [hl];simp [Addr.add_lit]
   · obtain ⟨u,e1,e2⟩:=h4 (k+i) (by omega)
     refine ⟨u,by rw [Nat.add_assoc];exact e1,?_⟩
     have:(ls.drop k).getD i []=ls.getD (k+i) []:=by simp [List.getD,List.getElem?_drop]
     rw [this]
     exact e2
theorem RdA.take (h:RdA w (.slice p ls.length c) ls) {k:Nat} (hk:k≤ls.length):RdA w (.slice p k c) (ls.take k):=by
 have hl:(ls.take k).length=k:=by simp;omega
 refine ⟨by have:=h.1;omega,?_⟩
 rcases h.2 with ⟨p',c',hv,rfl⟩ | ⟨b,off,cap,hv,h2,h3,h4⟩
 · obtain rfl:k=0:=by simpa using hk
   exact .inl ⟨p,c,rfl,by simp⟩
 · simp only [Value.slice.injEq] at hv
   obtain ⟨rfl,_,rfl⟩:=hv
   refine .inr ⟨b,off,c,by rw [hl],⟨by omega,by omega⟩,h3,fun i hi=>?_⟩
   rw [hl] at hi
   obtain ⟨u,e1,e2⟩:=h4 i (by omega)
   refine ⟨u,e1,?_⟩
   have:(ls.take k).getD i []=ls.getD i []:=by simp [List.getD,hi]
   rw [this]
   exact e2
theorem RdsY.rda {base:Nat} {vs:List Value} (h:RdsY w base v vs ls):RdA w v ls:=by
 obtain ⟨p,c,rfl,hm⟩:=h.shape
 refine ⟨hm,?_⟩
 by_cases h0:ls=[]
 · subst h0
   exact .inl ⟨p,c,rfl,rfl⟩
 have hpos:0<ls.length:=List.length_pos_iff.2 h0
 rcases h.row.2 with ⟨hv,hn⟩ | ⟨g,cap,cur,hv,a1,hg,hh1,hh2,a2⟩
 · omega
 · simp only [Value.slice.injEq] at hv
   obtain ⟨rfl,_,rfl⟩:=hv
   refine .inr ⟨g,0,c,rfl,⟨by omega,by omega⟩,lt_of_block hg,fun i hi=>?_⟩
   obtain ⟨b,e1,_,e3,e4⟩:=h.at_ i hi
   obtain rfl:g=b:=by simpa using e1
   exact ⟨_,by rw [Nat.zero_add];exact e3,e4.rd⟩
end
end Go.Proofs.YtpphoeimakjjdaaGreatDoor
