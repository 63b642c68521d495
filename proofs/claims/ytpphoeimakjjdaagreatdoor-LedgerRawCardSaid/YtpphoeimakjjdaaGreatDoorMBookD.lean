/-
  BookE BookD: see the remarks below.
-/
import Derived.Test.YtpphoeimakjjdaaGreatDoorMGrM
import Derived.Test.YtpphoeimakjjdaaGreatDoorMOctR
/-
  PLAIN LAWS, NO WALK: layer 11: a record's bytes, and the record of bytes: the way there and back.
-/
namespace Go.Proofs.YtpphoeimakjjdaaGreatDoor
open Go.RowKit

def numsB (l:List Int):B8:=l.flatMap numB
def grantE (g:Grt):B8:=numsB [g.id,g.holder]++(textB g.path++(numsB [g.mode,g.term,(g.stamp.length:Int)]++numsB g.stamp))
def tailE (r:Rcd):B8 :=
 if r.kind=1 then numsB [r.next,r.boots]
 else if r.kind=2 then numB r.longest
 else if r.kind=4∨r.kind=3 then grantE r.grant
 else if r.kind=5 then numsB [r.id,(r.stamp.length:Int)]++numsB r.stamp
 else if r.kind=6 then numB r.id
 else []
def encB (r:Rcd):B8:=numB r.kind++tailE r

/-! ### the way back -/
abbrev RS:=B8 × Int
def nxt (s:RS):Int × RS:=((rdNum s.1 s.2).1,((rdNum s.1 s.2).2.1,(rdNum s.1 s.2).2.2))
def txt (most:Int) (s:RS):ByteArray × RS:=(⟨(rdText most s.1 s.2).1.toArray⟩,((rdText most s.1 s.2).2.1,(rdText most s.1 s.2).2.2))
def readK:Nat→RS→List Int × RS
 | 0,s=>([],s)
 | n+1,s=>((nxt s).1::(readK n (nxt s).2).1,(readK n (nxt s).2).2)
def countersS (s:RS):List Int × RS:=readK (min (nxt s).1 5).toNat (nxt s).2
def looseG (most:Int) (s:RS):Grt :=
 let a:=nxt s
 let b:=nxt a.2
 let c:=txt most b.2
 let d:=nxt c.2
 let e:=nxt d.2
 let f:=countersS e.2
 ⟨a.1,b.1,c.1,d.1,f.1,e.1⟩
def looseR (most:Int) (k:Int) (s:RS):Rcd :=
 if k=1 then { Rcd.zero with kind:=k,next:=(nxt s).1,boots:=(nxt (nxt s).2).1 }
 else if k=2 then { Rcd.zero with kind:=k,longest:=(nxt s).1 }
 else if k=4∨k=3 then { Rcd.zero with kind:=k,grant:=looseG most s }
 else if k=5 then { Rcd.zero with kind:=k,id:=(nxt s).1,stamp:=(countersS (nxt s).2).1 }
 else if k=6 then { Rcd.zero with kind:=k,id:=(nxt s).1 }
 else { Rcd.zero with kind:=k }
def looseB (most:Int) (b:B8):Rcd:=looseR most (nxt (b,0)).1 (nxt (b,0)).2
def decM (most:Int) (b:B8):Option Rcd:=if mayB (looseB most b)=true∧encB (looseB most b)=b then some (looseB most b) else none
def decB (b:B8):Option Rcd:=decM b.length b

theorem nxt_num {n:Int} (h0:0≤n) (hn:n<9223372036854775808) (r:B8):nxt (numB n++r,0)=(n,(r,0)):=by
 have h:=take_numB h0 hn r
 unfold nxt rdNum
 rw [if_pos rfl,h]
 simp only [Prod.mk.injEq,List.drop_left',and_true]
 omega
theorem nxt_last {n:Int} (h0:0≤n) (hn:n<9223372036854775808):nxt (numB n,0)=(n,([],0)):=by
 have:=nxt_num h0 hn []
 rwa [List.append_nil] at this
theorem txt_text {s:ByteArray} {most:Int} (h:(s.size:Int)≤most) (hs:s.size<1000000) (r:B8):txt most (textB s++r,0)=(s,(r,0)):=by
 have hl:s.data.toList.length=s.size:=by simp
 have e:textB s++r=numB s.size++(s.data.toList++r):=by simp [textB]
 have hk:=take_numB (n:=(s.size:Int)) (by omega) (by omega) (s.data.toList++r)
 unfold txt rdText
 rw [e]
 simp only [ne_eq,not_true_eq_false,if_false,hk,Int.toNat_natCast]
 rw [if_neg (by omega),if_neg (by simp)]
 simp only [Prod.mk.injEq]
 refine ⟨?_,?_,trivial⟩
 · rw [List.drop_left' rfl,List.take_left' hl]
 · rw [← List.drop_drop,List.drop_left' rfl,List.drop_left' hl]
theorem readK_nums:∀ (l:List Int) (r:B8),(∀ n,n∈l→0≤n∧n<9223372036854775808)→readK l.length (numsB l++r,0)=(l,(r,0))
 | [],r,_=>rfl
 | n::l,r,h=>by
   have h1:=h n List.mem_cons_self
   have e:numsB (n::l)++r=numB n++(numsB l++r):=by simp [numsB]
   rw [e]
   simp only [List.length_cons,readK]
   rw [nxt_num h1.1 h1.2]
   rw [readK_nums l r (fun m hm=>h m (List.mem_cons_of_mem _ hm))]
theorem counters_nums {l:List Int} (r:B8) (hl:l.length≤5) (h:∀ n,n∈l→0≤n∧n<9223372036854775808):countersS (numB (l.length:Int)++(numsB l++r),0)=(l,(r,0)):=by
 unfold countersS
 rw [nxt_num (by omega) (by omega)]
 rw [show (min ((l.length:Int)) 5).toNat=l.length by omega]
 exact readK_nums l r h
theorem stm_range {s:List Int} (h:stmB s=true):s.length≤4∧∀ n,n∈s→1≤n∧n≤1099511627776:=by
 simp only [stmB,Bool.and_eq_true,decide_eq_true_eq] at h
 exact ⟨h.2.1,fun n hn=>h.2.2 n hn⟩
theorem loose_grant {g:Grt} (h:grantB g=true) {most:Int} (hm:(g.path.size:Int)≤most):looseG most (grantE g,0)=g:=by
 obtain ⟨h1,h2,h3,h4,h5,h6,h7⟩:=grant_iff.1 h
 obtain ⟨k1,k2⟩:=stm_range h5
 have hp:g.path.size≤27:=by have:=pathOk_len h3;simpa using this
 unfold countOk at h1
 unfold legalT at h7
 have e:grantE g=numB g.id++(numB g.holder++(textB g.path++(numB g.mode++(numB g.term++(numB (g.stamp.length:Int)++(numsB g.stamp++[])))))):=by simp [grantE,numsB]
 unfold looseG
 rw [e]
 rw [nxt_num (by omega) (by omega)]
 simp only
 rw [nxt_num (by omega) (by omega)]
 simp only
 rw [txt_text hm (by omega)]
 simp only
 rw [nxt_num (by omega) (by omega)]
 simp only
 rw [nxt_num (by omega) (by omega)]
 simp only
 rw [counters_nums [] (by omega) (fun n hn=>by have:=k2 n hn;omega)]
theorem may_kind {r:Rcd} (h:mayB r=true):1≤r.kind∧r.kind≤7:=by
 unfold mayB at h
 repeat' split at h
 all_goals first | omega | (cases h)
theorem noGrant_iff {r:Rcd}:noGrant r=true↔r.grant=Grt.zero:=by simp [noGrant]
theorem may1 {r:Rcd} (h:r.kind=1):mayB r=(headsB r.next r.boots&&(decide (r.longest=0)&&(noGrant r&&noId r))):=by unfold mayB;rw [if_pos h]
theorem may2 {r:Rcd} (h:r.kind=2):mayB r=(decide (legalT r.longest)&&(decide (r.next=0∧r.boots=0)&&(noGrant r&&noId r))):=by unfold mayB;rw [if_neg (by omega),if_pos h]
theorem may4 {r:Rcd} (h:r.kind=4):mayB r=(decide (lastI r.grant.stamp=r.grant.id)&&(grantB r.grant&&(bareB r&&noId r))):=by unfold mayB;rw [if_neg (by omega),if_neg (by omega),if_pos h]
theorem may3 {r:Rcd} (h:r.kind=3):mayB r=(grantB r.grant&&(bareB r&&noId r)):=by unfold mayB;rw [if_neg (by omega),if_neg (by omega),if_neg (by omega),if_pos h]
theorem may5 {r:Rcd} (h:r.kind=5):mayB r=(decide (countOk r.id)&&(stmB r.stamp&&(bareB r&&noGrant r))):=by unfold mayB;rw [if_neg (by omega),if_neg (by omega),if_neg (by omega),if_neg (by omega),if_pos h]
theorem may6 {r:Rcd} (h:r.kind=6):mayB r=(decide (countOk r.id)&&(decide (r.stamp=[])&&(bareB r&&noGrant r))):=by unfold mayB;rw [if_neg (by omega),if_neg (by omega),if_neg (by omega),if_neg (by omega),if_neg (by omega),if_pos h]
theorem may7 {r:Rcd} (h:r.kind=7):mayB r=(bareB r&&(noGrant r&&noId r)):=by unfold mayB;rw [if_neg (by omega),if_neg (by omega),if_neg (by omega),if_neg (by omega),if_neg (by omega),if_neg (by omega),if_pos h]
theorem may_path {r:Rcd} (h:mayB r=true):r.grant.path.size≤27:=by
 unfold mayB at h
 have hg:grantB r.grant=true→r.grant.path.size≤27:=fun h=>by
  have:=pathOk_len (grant_iff.1 h).2.2.1
  simpa using this
 have hz:noGrant r=true→r.grant.path.size≤27:=fun h=>by
  rw [noGrant_iff.1 h];decide
 repeat' split at h
 all_goals first | (simp only [Bool.and_eq_true] at h;first | exact hg h.1 | exact hg h.2.1 | exact hz h.2.2.1 | exact hz h.2.2.2 | exact hz h.2.1) | (cases h)
theorem loose_enc {r:Rcd} (h:mayB r=true) {most:Int} (hm:(r.grant.path.size:Int)≤most):looseB most (encB r)=r:=by
 have hk:=may_kind h
 obtain ⟨kind,g,id,stamp,next,boots,longest⟩:=r
 simp only at hm hk
 unfold looseB encB
 rw [nxt_num (by simp only;omega) (by simp only;omega)]
 unfold mayB bareB noGrant noId at h
 unfold tailE looseR Rcd.zero
 simp only at h ⊢
 by_cases e1:kind=1
 · simp only [if_pos e1,headsB,Bool.and_eq_true,decide_eq_true_eq] at h ⊢
   obtain ⟨a1,rfl,rfl,rfl,rfl⟩:=h
   have e:numsB [next,boots]=numB next++(numB boots++[]):=by simp [numsB]
   rw [e,nxt_num (by omega) (by omega)]
   simp only
   rw [nxt_num (by omega) (by omega)]
 simp only [if_neg e1] at h ⊢
 by_cases e2:kind=2
 · simp only [if_pos e2,Bool.and_eq_true,decide_eq_true_eq] at h ⊢
   obtain ⟨a1,⟨rfl,rfl⟩,rfl,rfl,rfl⟩:=h
   unfold legalT at a1
   rw [nxt_last (by omega) (by omega)]
 simp only [if_neg e2] at h ⊢
 by_cases e4:kind=4
 · have e43:kind=4∨kind=3:=.inl e4
   simp only [if_pos e4,if_pos e43,Bool.and_eq_true,decide_eq_true_eq] at h ⊢
   obtain ⟨a1,hg,⟨rfl,rfl,rfl⟩,rfl,rfl⟩:=h
   rw [loose_grant hg hm]
 simp only [if_neg e4] at h
 by_cases e3:kind=3
 · have e43:kind=4∨kind=3:=.inr e3
   simp only [if_pos e3,if_pos e43,Bool.and_eq_true,decide_eq_true_eq] at h ⊢
   obtain ⟨hg,⟨rfl,rfl,rfl⟩,rfl,rfl⟩:=h
   rw [loose_grant hg hm]
 have e43:¬ (kind=4∨kind=3):=by omega
 simp only [if_neg e3] at h
 simp only [if_neg e43]
 by_cases e5:kind=5
 · simp only [if_pos e5,Bool.and_eq_true,decide_eq_true_eq] at h ⊢
   obtain ⟨a1,hs,⟨rfl,rfl,rfl⟩,rfl⟩:=h
   unfold countOk at a1
   obtain ⟨k1,k2⟩:=stm_range hs
   have e:numsB [id,(stamp.length:Int)]++numsB stamp=numB id++(numB (stamp.length:Int)++(numsB stamp++[])):=by simp [numsB]
   rw [e,nxt_num (by omega) (by omega)]
   simp only
   rw [counters_nums [] (by omega) (fun n hn=>by have:=k2 n hn;omega)]
 simp only [if_neg e5] at h ⊢
 by_cases e6:kind=6
 · simp only [if_pos e6,Bool.and_eq_true,decide_eq_true_eq] at h ⊢
   obtain ⟨a1,rfl,⟨rfl,rfl,rfl⟩,rfl⟩:=h
   unfold countOk at a1
   rw [nxt_last (by omega) (by omega)]
 simp only [if_neg e6] at h ⊢
 by_cases e7:kind=7
 · simp only [if_pos e7,Bool.and_eq_true,decide_eq_true_eq] at h ⊢
   obtain ⟨⟨rfl,rfl,rfl⟩,rfl,rfl,rfl⟩:=h
   rfl
 · simp only [if_neg e7] at h
   cases h
theorem numsB_len_of (k:Nat) (h1:1≤k) (h2:k≤9):∀ l:List Int,(∀ n,n∈l→n.toNat<128 ^ k)→(numsB l).length≤k * l.length
 | [],_=>by simp [numsB]
 | n::l,h=>by
   have a:=numB_len_of k (h n List.mem_cons_self) h1 h2
   have b:=numsB_len_of k h1 h2 l (fun m hm=>h m (List.mem_cons_of_mem _ hm))
   have e:numsB (n::l)=numB n++numsB l:=by simp [numsB]
   rw [e,List.length_append,List.length_cons,Nat.mul_add]
   omega
theorem enc_len {r:Rcd} (h:mayB r=true):1≤(encB r).length∧(encB r).length≤65:=by
 have hk:=may_kind h
 have hkb:=numB_len_of 1 (n:=r.kind) (by omega) (by omega) (by omega)
 have hk1:=(numB_len r.kind).1
 have hp:=may_path h
 have p6:(128:Nat) ^ 6=4398046511104:=by decide
 have p3:(128:Nat) ^ 3=2097152:=by decide
 have hn6:∀ n:Int,n≤1099511627777→(numB n).length≤6:=fun n hn=>numB_len_of 6 (by omega) (by omega) (by omega)
 have hst:∀ s,stmB s=true→(numsB s).length≤24∧(numB (s.length:Int)).length≤1:=fun s hs=>by
  obtain ⟨k1,k2⟩:=stm_range hs
  have:=numsB_len_of 6 (by omega) (by omega) s (fun n hn=>by
   have:=k2 n hn
   omega)
  exact ⟨by omega,numB_len_of 1 (by omega) (by omega) (by omega)⟩
 have hgr:grantB r.grant=true→(grantE r.grant).length≤64:=fun hg=>by
  obtain ⟨h1,h2,h3,h4,h5,h6,h7⟩:=grant_iff.1 hg
  unfold countOk at h1
  unfold legalT at h7
  have a1:=hn6 r.grant.id (by omega)
  have a2:=numB_len_of 1 (n:=r.grant.holder) (by omega) (by omega) (by omega)
  have a3:=numB_len_of 1 (n:=r.grant.mode) (by omega) (by omega) (by omega)
  have a4:=numB_len_of 3 (n:=r.grant.term) (by omega) (by omega) (by omega)
  have a5:=numB_len_of 1 (n:=(r.grant.path.size:Int)) (by omega) (by omega) (by omega)
  obtain ⟨a6,a7⟩:=hst _ h5
  have e:grantE r.grant=numB r.grant.id++(numB r.grant.holder++(numB r.grant.path.size++(r.grant.path.data.toList++(numB r.grant.mode++(numB r.grant.term++(numB (r.grant.stamp.length:Int)++numsB r.grant.stamp)))))):=by simp [grantE,numsB,textB]
  have hl:r.grant.path.data.toList.length=r.grant.path.size:=by simp
  rw [e]
  simp only [List.length_append,hl]
  omega
 refine ⟨by unfold encB;rw [List.length_append];omega,?_⟩
 have:(tailE r).length≤64:=by
  unfold tailE
  unfold mayB at h
  by_cases e1:r.kind=1
  · simp only [if_pos e1,Bool.and_eq_true] at h ⊢
    have:=heads_iff.1 h.1
    have a1:=hn6 r.next (by omega)
    have a2:=hn6 r.boots (by omega)
    have e:numsB [r.next,r.boots]=numB r.next++numB r.boots:=by simp [numsB]
    rw [e,List.length_append];omega
  simp only [if_neg e1] at h ⊢
  by_cases e2:r.kind=2
  · simp only [if_pos e2,Bool.and_eq_true,decide_eq_true_eq] at h ⊢
    have a0:=h.1
    unfold legalT at a0
    have a1:=hn6 r.longest (by omega)
    omega
  simp only [if_neg e2] at h ⊢
  by_cases e4:r.kind=4
  · rw [if_pos (.inl e4)]
    simp only [if_pos e4,Bool.and_eq_true] at h
    exact hgr h.2.1
  simp only [if_neg e4] at h ⊢
  by_cases e3:r.kind=3
  · simp only [if_pos e3,Bool.and_eq_true] at h
    rw [if_pos (.inr e3)]
    exact hgr h.1
  rw [if_neg (by omega)]
  simp only [if_neg e3] at h
  by_cases e5:r.kind=5
  · simp only [if_pos e5,Bool.and_eq_true,decide_eq_true_eq] at h ⊢
    have a0:=h.1
    unfold countOk at a0
    have a1:=hn6 r.id (by omega)
    obtain ⟨a6,a7⟩:=hst _ h.2.1
    have e:numsB [r.id,(r.stamp.length:Int)]++numsB r.stamp=numB r.id++(numB (r.stamp.length:Int)++numsB r.stamp):=by simp [numsB]
    rw [e]
    simp only [List.length_append]
    omega
  simp only [if_neg e5] at h ⊢
  by_cases e6:r.kind=6
  · simp only [if_pos e6,Bool.and_eq_true,decide_eq_true_eq] at h ⊢
    have a0:=h.1
    unfold countOk at a0
    have a1:=hn6 r.id (by omega)
    omega
  simp [if_neg e6]
 unfold encB
 rw [List.length_append]
 omega
theorem enc_width {r:Rcd} (h:mayB r=true):1≤widthN (encB r).length∧widthN (encB r).length≤2:=by
 have:=enc_len h
 unfold widthN
 omega
theorem decM_some {most:Int} {b:B8} {r:Rcd} (h:decM most b=some r):mayB r=true∧encB r=b:=by
 unfold decM at h
 split at h
 · rename_i hc
   cases h
   exact hc
 · cases h
theorem decM_enc {most:Int} {r:Rcd} (h:mayB r=true) (hm:(r.grant.path.size:Int)≤most):decM most (encB r)=some r:=by
 unfold decM
 rw [loose_enc h hm,if_pos ⟨h,rfl⟩]
theorem path_len {r:Rcd} (h:mayB r=true):r.grant.path.size≤(encB r).length:=by
 have hk:=may_kind h
 by_cases h4:r.kind=4∨r.kind=3
 · have e:encB r=numB r.kind++(numB r.grant.id++(numB r.grant.holder++(numB r.grant.path.size++(r.grant.path.data.toList++(numB r.grant.mode++(numB r.grant.term++(numB (r.grant.stamp.length:Int)++numsB r.grant.stamp))))))):=by
    simp only [encB,tailE]
    rw [if_neg (by omega),if_neg (by omega),if_pos h4]
    simp [grantE,numsB,textB]
   have hl:r.grant.path.data.toList.length=r.grant.path.size:=by simp
   rw [e]
   simp only [List.length_append,hl]
   omega
 · have:r.grant=Grt.zero:=by
    have hc:r.kind=1∨r.kind=2∨r.kind=5∨r.kind=6∨r.kind=7:=by omega
    rcases hc with e | e | e | e | e
    · rw [may1 e] at h;simp only [Bool.and_eq_true,noGrant_iff] at h;exact h.2.2.1
    · rw [may2 e] at h;simp only [Bool.and_eq_true,noGrant_iff] at h;exact h.2.2.1
    · rw [may5 e] at h;simp only [Bool.and_eq_true,noGrant_iff] at h;exact h.2.2.2
    · rw [may6 e] at h;simp only [Bool.and_eq_true,noGrant_iff] at h;exact h.2.2.2
    · rw [may7 e] at h;simp only [Bool.and_eq_true,noGrant_iff] at h;exact h.2.1
   rw [this]
   exact Nat.zero_le _
theorem decB_iff {b:B8} {r:Rcd}:decB b=some r↔mayB r=true∧encB r=b:=by
 constructor
 · exact decM_some
 · rintro ⟨h,rfl⟩
   exact decM_enc h (by have:=path_len h;omega)
theorem dec_doc {b:B8}:decM 188 b=decB b:=by
 cases h:decB b with
 | some r =>
   obtain ⟨h1,rfl⟩:=decB_iff.1 h
   exact decM_enc h1 (by have:=may_path h1;omega)
 | none =>
   cases h2:decM 188 b with
   | none=>rfl
   | some r=>rw [decB_iff.2 (decM_some h2)] at h;cases h
end Go.Proofs.YtpphoeimakjjdaaGreatDoor
/-
  PLAIN LAWS, NO WALK: layer 11: a record keeps a book a book; the fewest records of a book make it again; records played from bytes.
-/
namespace Go.Proofs.YtpphoeimakjjdaaGreatDoor
open Go.RowKit

theorem apply_zero {b:Bk} {r:Rcd}:(applyB b r).2=0↔validB b=true∧mayB r=true∧limitI b r.kind=0∧∃ c,changeB b r=some c:=by
 unfold applyB
 by_cases h:validB b=false∨mayB r=false
 · rw [if_pos h]
   constructor
   · intro h';cases h'
   · rintro ⟨h1,h2,_⟩
     rw [h1,h2] at h;simp at h
 · rw [if_neg h]
   have h1:validB b=true:=by cases hv:validB b <;> simp_all
   have h2:mayB r=true:=by cases hv:mayB r <;> simp_all
   by_cases h3:limitI b r.kind=0
   · rw [if_neg (by simpa using h3)]
     cases h4:changeB b r with
     | none=>simp
     | some c=>simp [h1,h2,h3]
   · rw [if_pos h3]
     simp only
     exact ⟨fun h=>absurd h h3,fun h=>absurd h.2.2.1 h3⟩
theorem apply_eq {b:Bk} {r:Rcd} {c:Bk} (h:validB b=true) (h2:mayB r=true) (h3:limitI b r.kind=0) (h4:changeB b r=some c):applyB b r=(c,0):=by
 unfold applyB
 rw [if_neg (by simp [h,h2]),if_neg (by simpa using h3),h4]
theorem apply_errs (b:Bk) (r:Rcd):(applyB b r).2=0∨(applyB b r).2=43∨(applyB b r).2=51∨(applyB b r).2=66:=by
 unfold applyB
 split
 · simp
 · split
   · simp only
     unfold limitI
     split
     · simp
     · split <;> simp
   · split <;> simp
theorem limit_zero {b:Bk} {k:Int}:limitI b k=0↔((k=4∨k=5)→b.next≤1099511627776)∧(k=7→b.boots≠1099511627776)∧((k=4∨k=3)→b.grants.length≠6):=by
 unfold limitI
 by_cases h1:((k=4∨k=5)∧1099511627776<b.next)∨(k=7∧b.boots=1099511627776)
 · rw [if_pos h1]
   refine ⟨fun h=>by omega,fun h=>?_⟩
   rcases h1 with ⟨h1,h2⟩ | ⟨h1,h2⟩
   · have:=h.1 h1;omega
   · exact absurd h2 (h.2.1 h1)
 · rw [if_neg h1]
   by_cases h2:(k=4∨k=3)∧b.grants.length=6
   · rw [if_pos h2]
     exact ⟨fun h=>by omega,fun h=>absurd h2.2 (h.2.2 h2.1)⟩
   · rw [if_neg h2]
     refine ⟨fun _=>⟨fun h=>?_,fun h e=>h1 (.inr ⟨h,e⟩),fun h e=>h2 ⟨h,e⟩⟩,fun _=>rfl⟩
     refine Classical.byContradiction fun hn=>h1 (.inl ⟨h,by omega⟩)
theorem may_grant {r:Rcd} (h:mayB r=true) (h4:r.kind=4∨r.kind=3):grantB r.grant=true∧(r.kind=4→lastI r.grant.stamp=r.grant.id):=by
 rcases h4 with e | e
 · rw [may4 e] at h
   simp only [Bool.and_eq_true,decide_eq_true_eq] at h
   exact ⟨h.2.1,fun _=>h.1⟩
 · rw [may3 e] at h
   simp only [Bool.and_eq_true] at h
   exact ⟨h.1,fun k=>by omega⟩
theorem may_fresh {r:Rcd} (h:mayB r=true) (h5:r.kind=5):countOk r.id∧stmB r.stamp=true:=by
 rw [may5 h5] at h
 simp only [Bool.and_eq_true,decide_eq_true_eq] at h
 exact ⟨h.1,h.2.1⟩
theorem may_heads {r:Rcd} (h:mayB r=true) (h1:r.kind=1):headsB r.next r.boots=true:=by
 rw [may1 h1] at h
 simp only [Bool.and_eq_true] at h
 exact h.1
theorem may_longest {r:Rcd} (h:mayB r=true) (h1:r.kind=2):legalT r.longest:=by
 rw [may2 h1] at h
 simp only [Bool.and_eq_true,decide_eq_true_eq] at h
 exact h.1
theorem okFrom_next {n m:Int} {id:Int} {l:List Grt} (h:okFrom n id l=true) (hm:n≤m):okFrom m id l=true:=by
 obtain ⟨h1,h2⟩:=okFrom_iff.1 h
 exact okFrom_iff.2 ⟨fun g hg=>⟨(h1 g hg).1,by have:=(h1 g hg).2.1;omega,(h1 g hg).2.2⟩,h2⟩
theorem okFrom_put {n:Int} {l:List Grt} {g:Grt} (h:okFrom n 0 l=true) (hg:grantB g=true) (hl:lastI g.stamp<n) (hn:hasG l g.id=false):okFrom n 0 (putG l g)=true:=by
 obtain ⟨h1,h2⟩:=okFrom_iff.1 h
 refine okFrom_iff.2 ⟨fun x hx=>?_,putG_srt h2 hn⟩
 rcases mem_putG.1 hx with rfl | hx
 · refine ⟨hg,hl,?_⟩
   have:=(grant_iff.1 hg).1
   unfold countOk at this
   omega
 · exact h1 x hx
theorem set_sorted {l:List Grt} (hs:SrtG l) (k:Nat) (g:Grt) (h:k<l.length→g.id=(l.getD k default).id):SrtG (l.set k g):=by
 unfold SrtG at *
 rw [List.pairwise_iff_getElem] at *
 intro i j hi hj hij
 rw [List.length_set] at hi hj
 have key:∀ m (hm:m<l.length) (hm':m<(l.set k g).length),((l.set k g)[m]).id=(l[m]).id:=fun m hm hm'=>by
  rw [List.getElem_set]
  by_cases e:k=m
  · subst e
    rw [if_pos rfl,h hm]
    simp [hm]
  · rw [if_neg e]
 rw [key i hi (by simpa using hi),key j hj (by simpa using hj)]
 exact hs i j hi hj hij
theorem change_valid {b c:Bk} {r:Rcd} (hb:validB b=true) (hr:mayB r=true) (hl:limitI b r.kind=0) (h:changeB b r=some c):validB c=true:=by
 obtain ⟨h1,h2,h3,h4⟩:=valid_iff.1 hb
 have hh:=heads_iff.1 h1
 obtain ⟨l1,l2,l3⟩:=limit_zero.1 hl
 have hk:=may_kind hr
 unfold changeB at h
 by_cases e1:r.kind=1
 · rw [if_pos e1] at h
   split at h
   · rename_i he
     cases h
     subst he
     exact valid_iff.2 ⟨may_heads hr e1,.inl rfl,by simp [Bk.new],rfl⟩
   · cases h
 rw [if_neg e1] at h
 by_cases e2:r.kind=2
 · rw [if_pos e2] at h
   split at h
   · cases h
     exact valid_iff.2 ⟨h1,.inr (may_longest hr e2),h3,h4⟩
   · cases h
 rw [if_neg e2] at h
 by_cases e4:r.kind=4
 · rw [if_pos e4] at h
   obtain ⟨hg,hlast⟩:=may_grant hr (.inl e4)
   have hlast:=hlast e4
   have l1:=l1 (.inl e4)
   have l3:=l3 (.inl e4)
   split at h
   · rename_i he
     cases h
     have hno:hasG b.grants r.grant.id=false:=by
      cases hh:hasG b.grants r.grant.id with
      | false=>rfl
      | true =>
        obtain ⟨g,hm,hi⟩:=hasG_iff.1 hh
        have k:=okFrom_mem h4 g hm
        have:=(grant_iff.1 k.1).2.2.2.2.2.1
        omega
     refine valid_iff.2 ⟨heads_iff.2 (by simp only;omega),h2,?_,?_⟩
     · simp only;rw [putG_len];omega
     · exact okFrom_put (okFrom_next h4 (by simp only;omega)) hg (by simp only;omega) hno
   · cases h
 rw [if_neg e4] at h
 by_cases e3:r.kind=3
 · rw [if_pos e3] at h
   obtain ⟨hg,_⟩:=may_grant hr (.inr e3)
   have l3:=l3 (.inr e3)
   split at h
   · rename_i he
     cases h
     refine valid_iff.2 ⟨h1,h2,?_,?_⟩
     · simp only;rw [putG_len];omega
     · exact okFrom_put h4 hg he.2 he.1
   · cases h
 rw [if_neg e3] at h
 by_cases e5:r.kind=5
 · rw [if_pos e5] at h
   have l1:=l1 (.inr e5)
   obtain ⟨f1,f2⟩:=may_fresh hr e5
   split at h
   · rename_i he
     cases h
     have hp:=(has_at (okFrom_sorted h4)).1 he.1
     have hm:b.grants.getD (posG b.grants r.id) default∈b.grants:=by
      rw [List.getD_eq_getElem?_getD,List.getElem?_eq_getElem hp.1];simp
     have hg:=okFrom_mem h4 _ hm
     refine valid_iff.2 ⟨heads_iff.2 (by simp only;omega),h2,by simpa [setG] using h3,?_⟩
     have h4':=okFrom_next (m:=b.next+1) h4 (by omega)
     obtain ⟨k1,k2⟩:=okFrom_iff.1 h4'
     refine okFrom_iff.2 ⟨fun x hx=>?_,set_sorted k2 _ _ (fun _=>rfl)⟩
     rcases List.mem_or_eq_of_mem_set hx with hx | rfl
     · exact k1 x hx
     · obtain ⟨g1,g2,g3,g4,g5,g6,g7⟩:=grant_iff.1 hg.1
       refine ⟨grant_iff.2 ⟨g1,g2,g3,g4,f2,?_,g7⟩,?_,hg.2.2⟩
       · show (b.grants.getD _ default).id≤lastI r.stamp
         omega
       · show lastI r.stamp<b.next+1
         omega
   · cases h
 rw [if_neg e5] at h
 by_cases e6:r.kind=6
 · rw [if_pos e6] at h
   split at h
   · rename_i he
     cases h
     have hs:=okFrom_iff.1 h4
     refine valid_iff.2 ⟨h1,h2,?_,okFrom_iff.2 ⟨fun g hg=>hs.1 g (delG_mem hg),hs.2.sublist (delG_sub _ _)⟩⟩
     have:=delG_len hs.2 he
     simp only;omega
   · cases h
 rw [if_neg e6] at h
 cases h
 have:=l2 (by omega)
 exact valid_iff.2 ⟨heads_iff.2 (by simp only;omega),h2,h3,h4⟩
theorem apply_valid {b:Bk} {r:Rcd} (h:(applyB b r).2=0):validB (applyB b r).1=true:=by
 obtain ⟨h1,h2,h3,c,h4⟩:=apply_zero.1 h
 rw [apply_eq h1 h2 h3 h4]
 exact change_valid h1 h2 h3 h4
theorem new_valid:validB Bk.new=true:=by decide

/-! ### the fewest records -/
def recC (next boots:Int):Rcd:={ Rcd.zero with kind:=1,next:=next,boots:=boots }
def recL (longest:Int):Rcd:={ Rcd.zero with kind:=2,longest:=longest }
def recK (g:Grt):Rcd:={ Rcd.zero with kind:=3,grant:=g }
def dumpB (b:Bk):List Rcd:=recC b.next b.boots::((if 0<b.longest then [recL b.longest] else [])++b.grants.map recK)
def playB:Bk→List B8→Bk × Nat × Nat
 | b,[]=>(b,0,0)
 | b,d::l=>match decB d with
   | none=>(b,0,0)
   | some r=>if (applyB b r).2=0 then ((playB (applyB b r).1 l).1,(playB (applyB b r).1 l).2.1+1,(playB (applyB b r).1 l).2.2+widthN d.length) else (b,0,0)
def sumW (l:List B8):Nat:=(l.map fun d=>widthN d.length).sum
def fitB:Bk→List Rcd→Option Bk
 | b,[]=>some b
 | b,r::l=>if (applyB b r).2=0 then fitB (applyB b r).1 l else none
theorem fitB_app:∀ (b:Bk) (l m:List Rcd),fitB b (l++m)=(fitB b l).bind fun c=>fitB c m
 | b,[],m=>rfl
 | b,r::l,m=>by
   simp only [List.cons_append,fitB]
   by_cases h:(applyB b r).2=0
   · rw [if_pos h,if_pos h];exact fitB_app _ l m
   · rw [if_neg h,if_neg h];rfl
theorem play_fit:∀ {b c:Bk} {l:List Rcd} (ds:List B8),fitB b l=some c→playB b (l.map encB++ds)=((playB c ds).1,(playB c ds).2.1+l.length,(playB c ds).2.2+sumW (l.map encB))
 | b,c,[],ds,h=>by cases h;rfl
 | b,c,r::l,ds,h=>by
   simp only [fitB] at h
   by_cases h0:(applyB b r).2=0
   · rw [if_pos h0] at h
     have hr:mayB r=true:=(apply_zero.1 h0).2.1
     simp only [List.map_cons,List.cons_append,playB]
     rw [decB_iff.2 ⟨hr,rfl⟩]
     simp only
     rw [if_pos h0,play_fit ds h]
     simp only [Prod.mk.injEq,true_and,List.length_cons,sumW,List.map_cons,List.sum_cons]
     omega
   · rw [if_neg h0] at h;cases h
theorem play_all {b c:Bk} {l:List Rcd} (h:fitB b l=some c):playB b (l.map encB)=(c,l.length,sumW (l.map encB)):=by
 have:=play_fit [] h
 rw [List.append_nil] at this
 rw [this]
 simp [playB]
theorem play_valid:∀ {b:Bk} (l:List B8),validB b=true→validB (playB b l).1=true
 | b,[],hb=>hb
 | b,d::l,hb=>by
   simp only [playB]
   split
   · exact hb
   · split
     · rename_i h0;exact play_valid l (apply_valid h0)
     · exact hb
theorem may_recC {n k:Int} (h:headsB n k=true):mayB (recC n k)=true:=by
 show (headsB n k&&(decide ((0:Int)=0)&&(decide (Grt.zero=Grt.zero)&&decide ((0:Int)=0∧([]:List Int)=[]))))=true
 simp [h]
theorem may_recL {n:Int} (h:legalT n):mayB (recL n)=true:=by
 show (decide (legalT n)&&(decide ((0:Int)=0∧(0:Int)=0)&&(decide (Grt.zero=Grt.zero)&&decide ((0:Int)=0∧([]:List Int)=[]))))=true
 simp [h]
theorem may_recK {g:Grt} (h:grantB g=true):mayB (recK g)=true:=by
 show (grantB g&&(decide ((0:Int)=0∧(0:Int)=0∧(0:Int)=0)&&decide ((0:Int)=0∧([]:List Int)=[])))=true
 simp [h]
theorem fit_grants {n k lo:Int} (hh:headsB n k=true) (hlo:lo=0∨legalT lo):∀ (r l:List Grt),(l++r).length≤6→okFrom n 0 (l++r)=true→fitB ⟨n,k,lo,l⟩ (r.map recK)=some ⟨n,k,lo,l++r⟩
 | [],l,_,_=>by simp [fitB]
 | g::r,l,hl,ho=>by
   have hs:=okFrom_iff.1 ho
   have hsub:(l++[g])++r=l++g::r:=by simp
   have hgm:=hs.1 g (by simp)
   have hp:=List.pairwise_append.1 hs.2
   have hlow:∀ x,x∈l→x.id<g.id:=fun x hx=>hp.2.2 x hx g List.mem_cons_self
   have hno:hasG l g.id=false:=by
    cases hh:hasG l g.id with
    | false=>rfl
    | true =>
      obtain ⟨x,hx,he⟩:=hasG_iff.1 hh
      have:=hlow x hx
      omega
   have hv:validB ⟨n,k,lo,l⟩=true:=valid_iff.2 ⟨hh,hlo,by simp only [List.length_append] at hl;simp only;omega,okFrom_iff.2 ⟨fun x hx=>hs.1 x (by simp [hx]),hp.1⟩⟩
   have ha:applyB ⟨n,k,lo,l⟩ (recK g)=(⟨n,k,lo,l++[g]⟩,0):=by
    refine apply_eq hv (may_recK hgm.1) (limit_zero.2 ⟨fun h=>by simp [recK] at h,fun h=>by simp [recK] at h,fun _=>?_⟩) ?_
    · simp only [List.length_append,List.length_cons] at hl;simp only;omega
    · show (if hasG l g.id=false∧lastI g.stamp<n then some (⟨n,k,lo,putG l g⟩:Bk) else none)=_
      rw [if_pos ⟨hno,hgm.2.1⟩,putG_end hlow]
   simp only [List.map_cons,fitB]
   rw [ha]
   simp only [if_true]
   rw [fit_grants hh hlo r (l++[g]) (by rw [hsub];exact hl) (by rw [hsub];exact ho),hsub]
theorem fit_dump {b:Bk} (h:validB b=true):fitB Bk.new (dumpB b)=some b:=by
 obtain ⟨h1,h2,h3,h4⟩:=valid_iff.1 h
 obtain ⟨n,k,lo,l⟩:=b
 simp only at h1 h2 h3 h4
 have a1:applyB Bk.new (recC n k)=(⟨n,k,0,[]⟩,0):=by
  refine apply_eq new_valid (may_recC h1) (limit_zero.2 ⟨fun h=>by simp [recC] at h,fun h=>by simp [recC] at h,fun h=>by simp [recC] at h⟩) ?_
  show (if Bk.new=Bk.new then some (⟨n,k,0,[]⟩:Bk) else none)=_
  rw [if_pos rfl]
 unfold dumpB
 simp only [fitB]
 rw [a1]
 simp only [if_true]
 by_cases hl:0<lo
 · rw [if_pos hl]
   have hle:legalT lo:=by
    rcases h2 with h2 | h2
    · omega
    · exact h2
   have a2:applyB ⟨n,k,0,[]⟩ (recL lo)=(⟨n,k,lo,[]⟩,0):=by
    refine apply_eq (valid_iff.2 ⟨h1,.inl rfl,by simp,rfl⟩) (may_recL hle) (limit_zero.2 ⟨fun h=>by simp [recL] at h,fun h=>by simp [recL] at h,fun h=>by simp [recL] at h⟩) ?_
    show (if 0<lo then some (⟨n,k,lo,[]⟩:Bk) else none)=_
    rw [if_pos hl]
   simp only [List.cons_append,List.nil_append,fitB]
   rw [a2]
   simp only [if_true]
   have:=fit_grants h1 h2 l [] h3 h4
   simpa using this
 · rw [if_neg hl]
   have e0:lo=0:=by
    rcases h2 with h2 | h2
    · exact h2
    · unfold legalT at h2;omega
   subst e0
   have:=fit_grants h1 (.inl rfl) l [] h3 h4
   simpa using this
theorem may_dump {b:Bk} (h:validB b=true):∀ r,r∈dumpB b→mayB r=true:=by
 obtain ⟨h1,h2,h3,h4⟩:=valid_iff.1 h
 intro r hr
 unfold dumpB at hr
 rcases List.mem_cons.1 hr with rfl | hr
 · exact may_recC h1
 rcases List.mem_append.1 hr with hr | hr
 · split at hr
   · rename_i hl
     simp at hr
     subst hr
     exact may_recL (by rcases h2 with h2 | h2
                        · omega
                        · exact h2)
   · cases hr
 · obtain ⟨g,hg,rfl⟩:=List.mem_map.1 hr
   exact may_recK (okFrom_mem h4 g hg).1
theorem dump_len (b:Bk) (h:validB b=true):1≤(dumpB b).length∧(dumpB b).length≤b.grants.length+2∧(dumpB b).length≤8:=by
 obtain ⟨h1,h2,h3,h4⟩:=valid_iff.1 h
 unfold dumpB
 split <;> simp <;> omega
theorem sumW_le {l:List Rcd} (h:∀ r,r∈l→mayB r=true):sumW (l.map encB)≤2 * l.length:=by
 induction l with
 | nil=>simp [sumW]
 | cons r l ih =>
   have:=enc_width (h r List.mem_cons_self)
   have ih:=ih (fun x hx=>h x (List.mem_cons_of_mem _ hx))
   simp only [sumW,List.map_cons,List.sum_cons,List.length_cons] at ih ⊢
   omega
theorem dump_width {b:Bk} (h:validB b=true):sumW ((dumpB b).map encB)≤16:=by
 have:=sumW_le (may_dump h)
 have:=(dump_len b h).2.2
 omega
end Go.Proofs.YtpphoeimakjjdaaGreatDoor
