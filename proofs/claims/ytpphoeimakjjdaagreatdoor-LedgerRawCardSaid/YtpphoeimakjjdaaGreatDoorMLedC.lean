/-
  Led LedL LedL2 LedC: see the remarks below.
-/
import Derived.Test.YtpphoeimakjjdaaGreatDoorMBookD
import Derived.Test.YtpphoeimakjjdaaGreatDoorMDsk
/-
  PLAIN, NO WALK: layer 12: a ledger over a disk: what each call does.
-/
namespace Go.Proofs.YtpphoeimakjjdaaGreatDoor
open Go.RowKit

structure Lg where
 gen:Nat
 area:Nat
 seq:Nat
 used:Nat
 book:Bk
 dead:Bool
def sideS (s:List B8) (k:Nat):List B8:=(s.drop (1+k * 24)).take 24
def headB (gen k:Nat):B8:=packOne gen 0 0 1 [UInt8.ofNat k]
def headS (b:B8):Option (Nat × Nat):=(lookS b).bind fun p=>if p.seq=0∧p.parts=1∧p.data.length=1∧(p.data.getD 0 0).toNat≤1 then some (p.gen,(p.data.getD 0 0).toNat) else none
def playS (s:List B8) (gen k:Nat):Bk × Nat × Nat:=playB Bk.new (scanS (sideS s k) gen).1
def readL (s:List B8) (gen k:Nat):Lg:=⟨gen,k,(playS s gen k).2.1,(playS s gen k).2.2,(playS s gen k).1,false⟩
def stateS (s:List B8):Option Lg:=(headS (s.getD 0 [])).map fun h=>readL s h.1 h.2
def nameD (d:Dk) (gen k:Nat):Int × Dk:=writeD d 0 (headB gen k)
def openD (d:Dk):Int × Dk × Option Lg :=
 if d.secs.length<49 then (41,d,none)
 else if d.off=true then (40,d,none)
 else match stateS d.secs with
  | some l=>(0,d,some l)
  | none=>if (nameD d 1 0).1=0 then (0,(nameD d 1 0).2,some (readL (nameD d 1 0).2.secs 1 0)) else ((nameD d 1 0).1,(nameD d 1 0).2,none)
def writesD (d:Dk) (at_:Nat):List B8→Int × Dk
 | []=>(0,d)
 | b::l=>if (writeD d at_ b).1=0 then writesD (writeD d at_ b).2 (at_+1) l else writeD d at_ b
def putD (d:Dk) (at_ gen seq:Nat) (data:B8):Int × Dk:=writesD d at_ (packL gen seq data)
def layD (d:Dk) (at_ gen:Nat):Nat→List B8→Int × Dk
 | _,[]=>(0,d)
 | i,b::l=>if (putD d at_ gen i b).1=0 then layD (putD d at_ gen i b).2 (at_+widthN b.length) gen (i+1) l else putD d at_ gen i b
def maxGen (g:Nat) (l:List B8):Nat:=l.foldl (fun g b=>match lookS b with | some p=>max g p.gen | none=>g) g
def deadL (l:Lg):Lg:={ l with dead:=true }
def compactD (d:Dk) (l:Lg):Int × Dk × Lg :=
 if l.dead=true then (40,d,l)
 else if d.off=true then (40,d,deadL l)
 else if 1073741824≤maxGen l.gen (sideS d.secs (1 - l.area)) then (42,d,l)
 else
  let g:=maxGen l.gen (sideS d.secs (1 - l.area))+1
  let t:=layD d (1+(1 - l.area) * 24) g 0 ((dumpB l.book).map encB)
  if t.1≠0 then (t.1,t.2,deadL l)
  else
   let u:=nameD t.2 g (1 - l.area)
   if u.1≠0 then (u.1,u.2,deadL l)
   else (0,u.2,⟨g,1 - l.area,(dumpB l.book).length,sumW ((dumpB l.book).map encB),l.book,l.dead⟩)
def addD (d:Dk) (l:Lg) (c:Bk) (b:B8):Int × Dk × Lg :=
 let t:=putD d (1+l.area * 24+l.used) l.gen l.seq b
 if t.1≠0 then (t.1,t.2,deadL l) else (0,t.2,{ l with seq:=l.seq+1,used:=l.used+widthN b.length,book:=c })
def appendD (d:Dk) (l:Lg) (r:Rcd):Int × Dk × Lg :=
 if l.dead=true then (40,d,l)
 else if (applyB l.book r).2≠0 then ((applyB l.book r).2,d,l)
 else if 24<l.used+widthN (encB r).length then
  (if (compactD d l).1≠0 then compactD d l else addD (compactD d l).2.1 (compactD d l).2.2 (applyB l.book r).1 (encB r))
 else addD d l (applyB l.book r).1 (encB r)

/-! ### what holds of every ledger -/
structure Lg.Ok (l:Lg):Prop where
 gen1:1≤l.gen
 genM:l.gen≤1073741824
 area:l.area≤1
 seq:l.seq≤l.used
 used:l.used≤24
 book:validB l.book=true
theorem write_err (d:Dk) (i:Nat) (b:B8) (hi:i<d.secs.length) (hb:b.length=64):(writeD d i b).1=0∨(writeD d i b).1=40:=by
 unfold writeD
 repeat' split
 all_goals first | (simp;done) | omega
theorem write_ok {d:Dk} (h:d.Ok) {i:Nat} {b:B8}:(writeD d i b).2.Ok:=by
 unfold writeD
 repeat' split
 · exact h
 · exact h
 · exact h
 · exact h.cut
 · exact h.wrote (by omega) (by omega) (by assumption)
theorem write_len (d:Dk) (i:Nat) (b:B8):(writeD d i b).2.secs.length=d.secs.length:=by
 unfold writeD cutD wroteD
 repeat' split
 all_goals simp
theorem write_zero {d:Dk} {i:Nat} {b:B8} (h:(writeD d i b).1=0):(writeD d i b).2.secs=d.secs.set i b∧d.off=false∧(writeD d i b).2.off=false∧i<d.secs.length∧b.length=64:=by
 unfold writeD at h ⊢
 split at h
 · cases h
 rename_i h1
 split at h
 · cases h
 rename_i h2
 split at h
 · cases h
 rename_i h3
 split at h
 · cases h
 rename_i h4
 rw [if_neg h1,if_neg h2,if_neg h3,if_neg h4]
 have h1':d.off=false:=by cases ho:d.off <;> simp_all
 exact ⟨rfl,h1',h1',by omega,by omega⟩
theorem write_fail {d:Dk} {i:Nat} {b:B8} (h:(writeD d i b).1≠0):(writeD d i b).2.secs=d.secs∧((writeD d i b).1=40→(writeD d i b).2.off=true):=by
 unfold writeD at h ⊢
 split
 · rename_i h1
   exact ⟨rfl,fun _=>h1⟩
 rename_i h1
 split
 · exact ⟨rfl,fun h=>by cases h⟩
 rename_i h2
 split
 · exact ⟨rfl,fun h=>by cases h⟩
 rename_i h3
 split
 · exact ⟨rfl,fun _=>rfl⟩
 · rename_i h4
   rw [if_neg h1,if_neg h2,if_neg h3,if_neg h4] at h
   exact absurd rfl h
theorem writes_err:∀ (d:Dk) (a:Nat) (l:List B8),a+l.length≤d.secs.length→(∀ b,b∈l→b.length=64)→(writesD d a l).1=0∨(writesD d a l).1=40
 | d,a,[],_,_=>.inl rfl
 | d,a,b::l,h,h64=>by
   simp only [List.length_cons] at h
   unfold writesD
   split
   · exact writes_err _ _ l (by rw [write_len];omega) (fun x hx=>h64 x (List.mem_cons_of_mem _ hx))
   · exact write_err d a b (by omega) (h64 b List.mem_cons_self)
theorem writes_ok:∀ {d:Dk} (_:d.Ok) (a:Nat) (l:List B8),(writesD d a l).2.Ok
 | d,h,a,[]=>h
 | d,h,a,b::l=>by
   unfold writesD
   split
   · exact writes_ok (write_ok h) _ l
   · exact write_ok h
theorem writes_len:∀ (d:Dk) (a:Nat) (l:List B8),(writesD d a l).2.secs.length=d.secs.length
 | d,a,[]=>rfl
 | d,a,b::l=>by
   unfold writesD
   split
   · rw [writes_len,write_len]
   · exact write_len d a b
def splS (s:List B8) (a:Nat):List B8→List B8
 | []=>s
 | b::l=>splS (s.set a b) (a+1) l
theorem splS_len:∀ (s:List B8) (a:Nat) (l:List B8),(splS s a l).length=s.length
 | s,a,[]=>rfl
 | s,a,b::l=>by rw [splS,splS_len,List.length_set]
theorem splS_get:∀ (s:List B8) (a:Nat) (l:List B8) (i:Nat),a+l.length≤s.length→(splS s a l)[i]?=if a≤i∧i<a+l.length then l[i - a]? else s[i]?
 | s,a,[],i,_=>by
   rw [if_neg (by simp only [List.length_nil];omega)];rfl
 | s,a,b::l,i,h=>by
   simp only [List.length_cons] at h ⊢
   rw [splS,splS_get _ _ l i (by rw [List.length_set];omega)]
   by_cases h1:a=i
   · subst h1
     rw [if_neg (by omega),if_pos (by omega),List.getElem?_set_self (by omega)]
     simp
   · rw [List.getElem?_set_ne h1]
     by_cases h2:a+1≤i∧i<a+1+l.length
     · rw [if_pos h2,if_pos (by omega),show i - a=(i - (a+1))+1 by omega,List.getElem?_cons_succ]
     · rw [if_neg h2,if_neg (by omega)]
theorem writes_secs:∀ (d:Dk) (a:Nat) (l:List B8),(∀ b,b∈l→b.length=64)→a+l.length≤d.secs.length→((writesD d a l).1=0∧(writesD d a l).2.secs=splS d.secs a l∧(l≠[]→d.off=false)∧(writesD d a l).2.off=d.off)∨((writesD d a l).1=40∧(writesD d a l).2.off=true∧∃ k,k<l.length∧(writesD d a l).2.secs=splS d.secs a (l.take k))
 | d,a,[],_,_=>.inl ⟨rfl,rfl,fun h=>absurd rfl h,rfl⟩
 | d,a,b::l,h64,h=>by
   simp only [List.length_cons] at h
   unfold writesD
   by_cases h0:(writeD d a b).1=0
   · rw [if_pos h0]
     obtain ⟨hs,ho1,ho2,_,_⟩:=write_zero h0
     rcases writes_secs (writeD d a b).2 (a+1) l (fun x hx=>h64 x (List.mem_cons_of_mem _ hx)) (by rw [write_len];omega) with ⟨e1,e2,_,e4⟩ | ⟨e1,e2,k,hk,e3⟩
     · exact .inl ⟨e1,by rw [e2,hs];rfl,fun _=>ho1,by rw [e4,ho2,ho1]⟩
     · refine .inr ⟨e1,e2,k+1,by simp only [List.length_cons];omega,?_⟩
       rw [e3,hs,List.take_succ_cons]
       rfl
   · rw [if_neg h0]
     have he:=(write_err d a b (by omega) (h64 b List.mem_cons_self)).resolve_left h0
     obtain ⟨f1,f2⟩:=write_fail h0
     exact .inr ⟨he,f2 he,0,by simp,by rw [f1];rfl⟩
theorem pack_64 {gen seq:Nat} {data:B8}:∀ b,b∈packL gen seq data→b.length=64:=by
 intro b hb
 unfold packL at hb
 obtain ⟨i,hi,rfl⟩:=List.mem_map.1 hb
 exact packOne_len (by rw [pieceS_len];omega)
end Go.Proofs.YtpphoeimakjjdaaGreatDoor
/-
  PLAIN LAWS, NO WALK: layer 12: what stands on a ledger's disk, whatever fails.
-/
namespace Go.Proofs.YtpphoeimakjjdaaGreatDoor
open Go.RowKit

/-! ### records laid one behind the other -/
def flatR (gen:Nat):Nat→List B8→List B8
 | _,[]=>[]
 | i,b::l=>packL gen i b++flatR gen (i+1) l
theorem flatR_len (gen:Nat):∀ (i:Nat) (l:List B8),(flatR gen i l).length=sumW l
 | _,[]=>rfl
 | i,b::l=>by
   rw [flatR,List.length_append,packL_len,flatR_len gen (i+1) l]
   simp [sumW]
theorem flatR_app (gen:Nat):∀ (i:Nat) (l m:List B8),flatR gen i (l++m)=flatR gen i l++flatR gen (i+l.length) m
 | i,[],m=>by simp [flatR]
 | i,b::l,m=>by
   rw [List.cons_append,flatR,flatR,flatR_app gen (i+1) l m,List.append_assoc,List.length_cons,show i+1+l.length=i+(l.length+1) by omega]
theorem flatR_64 (gen:Nat):∀ (i:Nat) (l:List B8) (b:B8),b∈flatR gen i l→b.length=64
 | _,[],_,h=>by cases h
 | i,d::l,b,h=>by
   rw [flatR] at h
   rcases List.mem_append.1 h with h | h
   · exact pack_64 b h
   · exact flatR_64 gen (i+1) l b h
theorem writes_app:∀ (d:Dk) (a:Nat) (l m:List B8),writesD d a (l++m)=if (writesD d a l).1=0 then writesD (writesD d a l).2 (a+l.length) m else writesD d a l
 | d,a,[],m=>by simp [writesD]
 | d,a,b::l,m=>by
   rw [List.cons_append,writesD,writesD]
   by_cases h:(writeD d a b).1=0
   · rw [if_pos h,if_pos h,writes_app _ (a+1) l m,List.length_cons,show a+1+l.length=a+(l.length+1) by omega]
   · rw [if_neg h,if_neg h,if_neg h]
theorem lay_writes (gen:Nat):∀ (l:List B8) (d:Dk) (a i:Nat),layD d a gen i l=writesD d a (flatR gen i l)
 | [],d,a,i=>rfl
 | b::l,d,a,i=>by
   rw [layD,flatR,writes_app]
   unfold putD
   by_cases h:(writesD d a (packL gen i b)).1=0
   · rw [if_pos h,if_pos h,lay_writes gen l,packL_len]
   · rw [if_neg h,if_neg h]

/-! ### a record that was laid is read -/
theorem part_pack {l:List B8} {gen a seq i n parts:Nat} {piece:B8} (h:l[a]?=some (packOne gen seq i n piece)) (h1:1≤gen∧gen≤1073741824) (h2:seq≤1073741824) (h3:n≤4) (h4:i<n) (h5:piece.length≤47) (h6:if i+1=n then 0<piece.length∨n=1 else piece.length=47) (hp:parts=0∨n=parts) :
 partS l gen a seq i parts=some ⟨gen,seq,i,n,piece⟩:=by
 unfold partS
 rw [h,Option.bind_some,look_pack h1 h2 h3 h4 h5 h6,Option.bind_some,if_pos ⟨rfl,rfl,rfl,hp⟩]
theorem width_one {n:Nat} (h:n≤47):widthN n=1:=by unfold widthN;omega
theorem width_two {n:Nat} (h:47<n) (h2:n≤94):widthN n=2:=by unfold widthN;omega
theorem pack_one {gen seq:Nat} {d:B8} (h:d.length≤47):packL gen seq d=[packOne gen seq 0 1 d]:=by
 unfold packL
 rw [width_one h]
 simp only [List.range_one,List.map_cons,List.map_nil]
 have:pieceS d 0=d:=by unfold pieceS;rw [Nat.mul_zero,List.drop_zero,List.take_of_length_le h]
 rw [this]
theorem pack_two {gen seq:Nat} {d:B8} (h:47<d.length) (h2:d.length≤94):packL gen seq d=[packOne gen seq 0 2 (d.take 47),packOne gen seq 1 2 (d.drop 47)]:=by
 unfold packL
 rw [width_two h h2]
 have e0:pieceS d 0=d.take 47:=by unfold pieceS;rw [Nat.mul_zero,List.drop_zero]
 have e1:pieceS d 1=d.drop 47:=by unfold pieceS;rw [Nat.mul_one,List.take_of_length_le (by simp;omega)]
 show [packOne gen seq 0 2 (pieceS d 0),packOne gen seq 1 2 (pieceS d 1)]=_
 rw [e0,e1]
theorem rec_pack {l:List B8} {gen a seq:Nat} {d:B8} (hg:1≤gen∧gen≤1073741824) (hs:seq≤1073741824) (hd:d.length≤94) (h:∀ i,i<widthN d.length→l[a+i]?=(packL gen seq d)[i]?):recS l gen a seq=some (d,widthN d.length):=by
 by_cases h47:d.length≤47
 · rw [width_one h47] at h ⊢
   have h0:=h 0 (by omega)
   rw [pack_one h47] at h0
   have hp:=part_pack (parts:=0) (l:=l) (a:=a) h0 hg hs (by omega) (by omega) h47 (by rw [if_pos rfl];exact .inr rfl) (.inl rfl)
   unfold recS
   rw [hp]
   simp [restS]
 · rw [width_two (by omega) hd] at h ⊢
   have h0:=h 0 (by omega)
   have h1:=h 1 (by omega)
   rw [pack_two (by omega) hd] at h0 h1
   have hl0:(d.take 47).length=47:=by simp;omega
   have hl1:(d.drop 47).length=d.length - 47:=by simp
   have hp:=part_pack (parts:=0) (l:=l) (a:=a) h0 hg hs (by omega) (by omega) (by omega) (by rw [if_neg (by omega)];exact hl0) (.inl rfl)
   have hq:=part_pack (parts:=2) (l:=l) (a:=a+1) h1 hg hs (by omega) (by omega) (by omega) (by rw [if_pos rfl];exact .inl (by omega)) (.inr rfl)
   unfold recS
   rw [hp]
   simp only [Option.bind_some,restS]
   rw [hq]
   simp
def Tail (side:List B8) (gen used seq:Nat):Prop:=∀ i b p,used≤i→side[i]?=some b→lookS b=some p→p.gen=gen→i=used∧p.seq=seq∧p.index=0∧p.parts=2
theorem tail_none {side:List B8} {gen used seq:Nat} (h:Tail side gen used seq):recS side gen used seq=none:=by
 unfold recS
 cases hp:partS side gen used seq 0 0 with
 | none=>rfl
 | some p =>
   obtain ⟨b,hb,hl,hg,_,_,_⟩:=part_some hp
   have hp2:=(h used b p (Nat.le_refl _) hb hl hg).2.2.2
   rw [Option.bind_some,hp2]
   show ((partS side gen (used+1) seq 1 2).bind _).bind _=none
   cases hq:partS side gen (used+1) seq 1 2 with
   | none=>rfl
   | some q =>
     obtain ⟨b2,hb2,hl2,hg2,_,_,_⟩:=part_some hq
     have:=(h (used+1) b2 q (by omega) hb2 hl2 hg2).1
     omega
structure Laid (side:List B8) (gen:Nat) (ds:List B8):Prop where
 at_:∀ i,i<sumW ds→side[i]?=(flatR gen 0 ds)[i]?
 tail:Tail side gen (sumW ds) ds.length
theorem scan_from {side:List B8} {gen:Nat} (hg:1≤gen∧gen≤1073741824):∀ (ds:List B8) (a seq f:Nat),(∀ d,d∈ds→d.length≤94)→seq+ds.length≤1073741824 →
 (∀ i,i<sumW ds→side[a+i]?=(flatR gen seq ds)[i]?)→Tail side gen (a+sumW ds) (seq+ds.length)→ds.length<f→scanF side gen f a seq=(ds,a+sumW ds)
 | [],a,seq,f+1,_,_,_,ht,_=>by
   unfold scanF
   have:=tail_none (side:=side) (gen:=gen) (used:=a) (seq:=seq) (by simpa [sumW] using ht)
   rw [this]
   simp [sumW]
 | [],a,seq,0,_,_,_,_,hf=>by simp at hf
 | d::ds,a,seq,0,_,_,_,_,hf=>by simp at hf
 | d::ds,a,seq,f+1,hd,hs,h,ht,hf=>by
   simp only [List.length_cons] at hs hf ht
   have hw:sumW (d::ds)=widthN d.length+sumW ds:=by simp [sumW]
   rw [hw] at h ht
   unfold scanF
   rw [rec_pack hg (by omega) (hd d List.mem_cons_self) (fun i hi=>by
    rw [h i (by omega),flatR,List.getElem?_append_left (by rw [packL_len];exact hi)])]
   simp only
   rw [scan_from hg ds (a+widthN d.length) (seq+1) f (fun x hx=>hd x (List.mem_cons_of_mem _ hx)) (by omega) (fun i hi=>by
    rw [Nat.add_assoc,h (widthN d.length+i) (by omega),flatR,List.getElem?_append_right (by rw [packL_len];omega),packL_len,Nat.add_sub_cancel_left])
    (by rw [Nat.add_assoc,show seq+1+ds.length=seq+(ds.length+1) by omega];exact ht) (by omega)]
   simp only [Prod.mk.injEq,true_and]
   rw [hw];omega
theorem width_pos (n:Nat):1≤widthN n:=by unfold widthN;omega
theorem sumW_ge (ds:List B8):ds.length≤sumW ds:=by
 induction ds with
 | nil=>simp [sumW]
 | cons d ds ih =>
   have:=width_pos d.length
   simp only [sumW,List.map_cons,List.sum_cons,List.length_cons] at ih ⊢
   omega
theorem scan_laid {side:List B8} {gen:Nat} (hg:1≤gen∧gen≤1073741824) {ds:List B8} (hd:∀ d,d∈ds→d.length≤94) (hl:sumW ds≤side.length) (hm:side.length≤1000) (h:Laid side gen ds):scanS side gen=(ds,sumW ds):=by
 have hge:=sumW_ge ds
 unfold scanS
 have:=scan_from (side:=side) hg ds 0 0 (side.length+1) hd (by omega) (fun i hi=>by rw [Nat.zero_add];exact h.at_ i hi) (by rw [Nat.zero_add,Nat.zero_add];exact h.tail) (by omega)
 rw [this,Nat.zero_add]

/-! ### areas -/
theorem side_at {s:List B8} {k i:Nat} (hi:i<24):(sideS s k)[i]?=s[1+k * 24+i]?:=by
 unfold sideS
 rw [List.getElem?_take_of_lt hi,List.getElem?_drop]
theorem side_out {s:List B8} {k i:Nat} (hi:24≤i):(sideS s k)[i]?=none:=by
 unfold sideS
 rw [List.getElem?_eq_none]
 simp;omega
theorem side_spl {s:List B8} {k u:Nat} {l:List B8} (hu:u+l.length≤24) (hs:49≤s.length) (hk:k≤1):sideS (splS s (1+k * 24+u) l) k=splS (sideS s k) u l:=by
 have hlen:(sideS s k).length=24:=by unfold sideS;simp;omega
 apply List.ext_getElem?;intro i
 by_cases hi:i<24
 · rw [side_at hi,splS_get _ _ _ _ (by omega),splS_get _ _ _ _ (by omega)]
   by_cases hx:u≤i∧i<u+l.length
   · rw [if_pos (by omega),if_pos hx,show 1+k * 24+i - (1+k * 24+u)=i - u by omega]
   · rw [if_neg (by omega),if_neg hx,side_at hi]
 · rw [side_out (by omega),List.getElem?_eq_none (by rw [splS_len,hlen];omega)]
theorem side_spl_ne {s:List B8} {k u:Nat} {l:List B8} (hu:u+l.length≤24) (hs:49≤s.length) (hk:k≤1):sideS (splS s (1+(1 - k) * 24+u) l) k=sideS s k:=by
 apply List.ext_getElem?;intro i
 by_cases hi:i<24
 · rw [side_at hi,side_at hi,splS_get _ _ _ _ (by omega),if_neg (by omega)]
 · rw [side_out (by omega),side_out (by omega)]
theorem side_set0 {s:List B8} {k:Nat} {b:B8}:sideS (s.set 0 b) k=sideS s k:=by
 apply List.ext_getElem?;intro i
 by_cases hi:i<24
 · rw [side_at hi,side_at hi,List.getElem?_set_ne (by omega)]
 · rw [side_out (by omega),side_out (by omega)]
theorem zero_spl {s:List B8} {a:Nat} {l:List B8} (ha:1≤a) (h:a+l.length≤s.length):(splS s a l).getD 0 []=s.getD 0 []:=by
 rw [List.getD_eq_getElem?_getD,splS_get _ _ _ _ h,if_neg (by omega),← List.getD_eq_getElem?_getD]
theorem head_look {gen k:Nat} (hg:1≤gen∧gen≤1073741824) (hk:k≤1):headS (headB gen k)=some (gen,k):=by
 unfold headS headB
 rw [look_pack hg (by omega) (by omega) (by omega) (by simp) (by simp)]
 simp only [Option.bind_some,List.length_cons,List.length_nil,List.getD_cons_zero]
 rw [ofNat_toNat (by omega),if_pos (by simpa using hk)]
theorem head_64 (gen k:Nat):(headB gen k).length=64:=packOne_len (by simp)
/-! ### generations -/
theorem maxGen_ge:∀ (l:List B8) (g:Nat),g≤maxGen g l
 | [],g=>Nat.le_refl _
 | b::l,g=>by
   have e:maxGen g (b::l)=maxGen (match lookS b with | some p=>max g p.gen | none=>g) l:=rfl
   rw [e]
   have:=maxGen_ge l (match lookS b with | some p=>max g p.gen | none=>g)
   cases hl:lookS b with
   | none=>rw [hl] at this;exact this
   | some p=>rw [hl] at this;simp only at this ⊢;omega
theorem maxGen_all:∀ (l:List B8) (g:Nat) (b:B8) (p:Prt),b∈l→lookS b=some p→p.gen≤maxGen g l
 | [],_,_,_,h,_=>by cases h
 | x::l,g,b,p,h,hp=>by
   have e:maxGen g (x::l)=maxGen (match lookS x with | some p=>max g p.gen | none=>g) l:=rfl
   rw [e]
   rcases List.mem_cons.1 h with rfl | h
   · rw [hp]
     have:=maxGen_ge l (max g p.gen)
     simp only;omega
   · exact maxGen_all l _ b p h hp
theorem maxGen_most:∀ (l:List B8) (g m:Nat),g≤m→(∀ b p,b∈l→lookS b=some p→p.gen≤m)→maxGen g l≤m
 | [],_,_,h,_=>h
 | x::l,g,m,h,ha=>by
   have e:maxGen g (x::l)=maxGen (match lookS x with | some p=>max g p.gen | none=>g) l:=rfl
   rw [e]
   refine maxGen_most l _ m ?_ (fun b p hb hp=>ha b p (List.mem_cons_of_mem _ hb) hp)
   cases hl:lookS x with
   | none=>exact h
   | some p=>have:=ha x p List.mem_cons_self hl;simp only;omega

/-! ### what stands on the disk -/
structure Inv (d:Dk) (l:Lg):Prop where
 ok:d.Ok
 n49:49≤d.secs.length
 lok:l.Ok
 head:headS (d.secs.getD 0 [])=some (l.gen,l.area)
 recs:∃ rs:List Rcd,fitB Bk.new rs=some l.book∧rs.length=l.seq∧sumW (rs.map encB)=l.used∧Laid (sideS d.secs l.area) l.gen (rs.map encB)
theorem fit_may:∀ {b c:Bk} {l:List Rcd},fitB b l=some c→∀ r,r∈l→mayB r=true
 | _,_,[],_,_,h=>by cases h
 | b,c,x::l,h,r,hr=>by
   simp only [fitB] at h
   by_cases h0:(applyB b x).2=0
   · rw [if_pos h0] at h
     rcases List.mem_cons.1 hr with rfl | hr
     · exact (apply_zero.1 h0).2.1
     · exact fit_may h r hr
   · rw [if_neg h0] at h;cases h
theorem side_len24 {s:List B8} {k:Nat} (hk:k≤1) (hs:49≤s.length):(sideS s k).length=24:=by unfold sideS;simp;omega
theorem Inv.read {d:Dk} {l:Lg} (h:Inv d l):stateS d.secs=some { l with dead:=false }:=by
 obtain ⟨rs,h1,h2,h3,h4⟩:=h.recs
 unfold stateS
 rw [h.head]
 simp only [Option.map_some,readL,playS]
 have hl:=side_len24 (s:=d.secs) h.lok.area h.n49
 have hd:∀ x,x∈rs.map encB→x.length≤94:=fun x hx=>by
  obtain ⟨r,hr,rfl⟩:=List.mem_map.1 hx
  have:=(enc_len (fit_may h1 r hr)).2
  omega
 have hu:=h.lok.used
 rw [scan_laid ⟨h.lok.gen1,h.lok.genM⟩ hd (by omega) (by omega) h4]
 simp only
 rw [play_all h1,h2,h3]
theorem Inv.live {d:Dk} {l:Lg} (h:Inv d l):Inv d { l with dead:=false }:=⟨h.ok,h.n49,⟨h.lok.gen1,h.lok.genM,h.lok.area,h.lok.seq,h.lok.used,h.lok.book⟩,h.head,h.recs⟩
theorem Inv.dead {d:Dk} {l:Lg} (h:Inv d l):Inv d (deadL l):=⟨h.ok,h.n49,⟨h.lok.gen1,h.lok.genM,h.lok.area,h.lok.seq,h.lok.used,h.lok.book⟩,h.head,h.recs⟩
theorem Inv.on {d d':Dk} {l:Lg} (h:Inv d l) (hs:d'.secs=d.secs) (ho:d'.Ok):Inv d' l:=⟨ho,by rw [hs];exact h.n49,h.lok,by rw [hs];exact h.head,by rw [hs];exact h.recs⟩
theorem add_law {d:Dk} {l:Lg} (h:Inv d l) {r:Rcd} (hr:(applyB l.book r).2=0) (hu:l.used+widthN (encB r).length≤24) :
 ((addD d l (applyB l.book r).1 (encB r)).1=0∧Inv (addD d l (applyB l.book r).1 (encB r)).2.1 (addD d l (applyB l.book r).1 (encB r)).2.2∧(addD d l (applyB l.book r).1 (encB r)).2.2={ l with seq:=l.seq+1,used:=l.used+widthN (encB r).length,book:=(applyB l.book r).1 }∧d.off=false∧(addD d l (applyB l.book r).1 (encB r)).2.1.off=false) ∨
 ((addD d l (applyB l.book r).1 (encB r)).1=40∧(addD d l (applyB l.book r).1 (encB r)).2.1.off=true∧(addD d l (applyB l.book r).1 (encB r)).2.2=deadL l∧Inv (addD d l (applyB l.book r).1 (encB r)).2.1 l):=by
 obtain ⟨rs,h1,h2,h3,h4⟩:=h.recs
 have hmay:=(apply_zero.1 hr).2.1
 have hel:=enc_len hmay
 have hlen:=side_len24 (s:=d.secs) h.lok.area h.n49
 have hn:=h.n49
 have har:=h.lok.area
 have hW:=packL_len l.gen l.seq (encB r)
 have hseq:=h.lok.seq
 have hused:=h.lok.used
 have hat:1+l.area * 24+l.used+(packL l.gen l.seq (encB r)).length≤d.secs.length:=by rw [hW];omega
 have hok2:(putD d (1+l.area * 24+l.used) l.gen l.seq (encB r)).2.Ok:=writes_ok h.ok _ _
 unfold addD
 simp only
 rcases writes_secs d (1+l.area * 24+l.used) (packL l.gen l.seq (encB r)) pack_64 hat with ⟨e1,e2,e3,e4⟩ | ⟨e1,e2,k,hk,e3⟩
 · have hne:packL l.gen l.seq (encB r)≠[]:=fun e=>by
    have:=width_pos (encB r).length
    rw [e] at hW;simp at hW;omega
   left
   have e1':(putD d (1+l.area * 24+l.used) l.gen l.seq (encB r)).1=0:=e1
   rw [e1',if_neg (by simp)]
   refine ⟨rfl,?_,rfl,e3 hne,by rw [← e3 hne,← e4];rfl⟩
   have hsec:(putD d (1+l.area * 24+l.used) l.gen l.seq (encB r)).2.secs=splS d.secs (1+l.area * 24+l.used) (packL l.gen l.seq (encB r)):=e2
   refine ⟨hok2,by simp only;rw [hsec,splS_len];exact hn,?_,?_,?_⟩
   · have:=width_pos (encB r).length
     exact ⟨h.lok.gen1,h.lok.genM,har,by simp only;omega,by simp only;omega,apply_valid hr⟩
   · simp only
     rw [hsec,zero_spl (by omega) hat]
     exact h.head
   · simp only
     refine ⟨rs++[r],?_,by simp [h2],by rw [← h3];simp [sumW],?_⟩
     · rw [fitB_app,h1,Option.bind_some]
       simp only [fitB]
       rw [if_pos hr]
     · rw [hsec,side_spl (by rw [hW];omega) hn har]
       have hsw:sumW ((rs++[r]).map encB)=l.used+widthN (encB r).length:=by rw [← h3];simp [sumW]
       refine ⟨fun i hi=>?_,?_⟩
       · rw [hsw] at hi
         rw [splS_get _ _ _ _ (by rw [hW];omega),List.map_append,flatR_app,List.length_map,h2,Nat.zero_add]
         by_cases hx:l.used≤i∧i<l.used+(packL l.gen l.seq (encB r)).length
         · rw [if_pos hx,List.getElem?_append_right (by rw [flatR_len,h3];omega),flatR_len,h3]
           simp [flatR]
         · rw [if_neg hx,h4.at_ i (by rw [hW] at hx;omega),List.getElem?_append_left (by rw [flatR_len,h3];rw [hW] at hx;omega)]
       · intro i b p hi hb hp hg
         rw [hsw] at hi
         rw [splS_get _ _ _ _ (by rw [hW];omega),if_neg (by rw [hW];omega)] at hb
         have:=(h4.tail i b p (by rw [h3];omega) hb hp hg).1
         have:=width_pos (encB r).length
         omega
 · right
   have e1':(putD d (1+l.area * 24+l.used) l.gen l.seq (encB r)).1=40:=e1
   rw [e1',if_pos (by simp)]
   refine ⟨rfl,e2,rfl,?_⟩
   have hsec:(putD d (1+l.area * 24+l.used) l.gen l.seq (encB r)).2.secs=splS d.secs (1+l.area * 24+l.used) ((packL l.gen l.seq (encB r)).take k):=e3
   simp only
   have hw2:=enc_width hmay
   have hk2:k=0∨k=1:=by omega
   rcases hk2 with rfl | rfl
   · exact h.on (by rw [hsec];rfl) hok2
   · have h47:47<(encB r).length:=Classical.byContradiction fun hx=>by
      rw [hW,width_one (by omega)] at hk;omega
     rw [pack_two h47 (by omega)] at hsec
     simp only [List.take_succ_cons,List.take_zero] at hsec
     refine ⟨hok2,by rw [hsec,splS_len];exact hn,h.lok,by rw [hsec,zero_spl (by omega) (by simp only [List.length_cons,List.length_nil];omega)];exact h.head,rs,h1,h2,h3,?_⟩
     rw [hW] at hk
     rw [hsec,side_spl (by simp only [List.length_cons,List.length_nil];omega) hn har]
     refine ⟨fun i hi=>?_,fun i b p hi hb hp hg=>?_⟩
     · rw [splS_get _ _ _ _ (by simp only [List.length_cons,List.length_nil];omega),if_neg (by omega)]
       exact h4.at_ i hi
     · rw [splS_get _ _ _ _ (by simp only [List.length_cons,List.length_nil];omega)] at hb
       rw [h3] at hi ⊢
       rw [List.length_map,h2]
       by_cases hx:l.used≤i∧i<l.used+1
       · obtain rfl:i=l.used:=by omega
         rw [if_pos (by simp only [List.length_cons,List.length_nil];omega),Nat.sub_self] at hb
         simp only [List.getElem?_cons_zero,Option.some.injEq] at hb
         rw [← hb,look_pack ⟨h.lok.gen1,h.lok.genM⟩ (by omega) (by omega) (by omega) (by simp;omega) (by rw [if_neg (by omega)];simp;omega)] at hp
         cases hp
         exact ⟨rfl,rfl,rfl,rfl⟩
       · rw [if_neg (by simp only [List.length_cons,List.length_nil];omega)] at hb
         have:=(h4.tail i b p (by rw [h3];omega) hb hp hg).1
         omega
end Go.Proofs.YtpphoeimakjjdaaGreatDoor
/-
  PLAIN LAWS, NO WALK: layer 12: compaction, appending, opening: what stands on the disk behind them.
-/
namespace Go.Proofs.YtpphoeimakjjdaaGreatDoor
open Go.RowKit

def compG (d:Dk) (l:Lg):Nat:=maxGen l.gen (sideS d.secs (1 - l.area))
def compTo (d:Dk) (l:Lg):Lg:=⟨compG d l+1,1 - l.area,(dumpB l.book).length,sumW ((dumpB l.book).map encB),l.book,l.dead⟩
theorem compact_law {d:Dk} {l:Lg} (h:Inv d l) (hl:l.dead=false) (ho:d.off=false) :
 (1073741824≤compG d l∧compactD d l=(42,d,l)) ∨
 (compG d l<1073741824∧(compactD d l).1=0∧Inv (compactD d l).2.1 (compactD d l).2.2∧(compactD d l).2.2=compTo d l∧(compactD d l).2.1.off=false ∧
   (compactD d l).2.1.secs=(splS d.secs (1+(1 - l.area) * 24) (flatR (compG d l+1) 0 ((dumpB l.book).map encB))).set 0 (headB (compG d l+1) (1 - l.area))) ∨
 ((compactD d l).1=40∧(compactD d l).2.1.off=true∧(compactD d l).2.2=deadL l∧Inv (compactD d l).2.1 l):=by
 have har:=h.lok.area
 have hn:=h.n49
 obtain ⟨rs,h1,h2,h3,h4⟩:=h.recs
 have hcg:compG d l=maxGen l.gen (sideS d.secs (1 - l.area)):=rfl
 unfold compactD
 rw [if_neg (by rw [hl];decide),if_neg (by rw [ho];decide),← hcg]
 by_cases hw:1073741824≤compG d l
 · rw [if_pos hw]
   exact .inl ⟨hw,rfl⟩
 rw [if_neg hw]
 right
 simp only
 rw [lay_writes]
 have hdw:=dump_width h.lok.book
 have hdl:=dump_len l.book h.lok.book
 have hge:=maxGen_ge (sideS d.secs (1 - l.area)) l.gen
 rw [← hcg] at hge
 have hg1:=h.lok.gen1
 have hfl:=flatR_len (compG d l+1) 0 ((dumpB l.book).map encB)
 have h64:=flatR_64 (compG d l+1) 0 ((dumpB l.book).map encB)
 have hlaid0:∀ i,i<sumW ((dumpB l.book).map encB)→(splS (sideS d.secs (1 - l.area)) 0 (flatR (compG d l+1) 0 ((dumpB l.book).map encB)))[i]?=(flatR (compG d l+1) 0 ((dumpB l.book).map encB))[i]?:=fun i hi=>by
  rw [splS_get _ _ _ _ (by rw [hfl,side_len24 (by omega) hn];omega),if_pos (by rw [hfl];omega),Nat.sub_zero]
 have htail:Tail (splS (sideS d.secs (1 - l.area)) 0 (flatR (compG d l+1) 0 ((dumpB l.book).map encB))) (compG d l+1) (sumW ((dumpB l.book).map encB)) ((dumpB l.book).map encB).length:=fun i b p hi hb hp hg=>by
  rw [splS_get _ _ _ _ (by rw [hfl,side_len24 (by omega) hn];omega),if_neg (by rw [hfl];omega)] at hb
  have:=maxGen_all (sideS d.secs (1 - l.area)) l.gen b p (List.mem_of_getElem? hb) hp
  rw [← hcg] at this
  omega
 generalize hF:flatR (compG d l+1) 0 ((dumpB l.book).map encB)=F at *
 have hokw:(writesD d (1+(1 - l.area) * 24) F).2.Ok:=writes_ok h.ok _ _
 rcases writes_secs d (1+(1 - l.area) * 24) F h64 (by rw [hfl];omega) with ⟨e1,e2,e3,e4⟩ | ⟨e1,e2,k,hk,e3⟩
 · rw [if_neg (by rw [e1];simp)]
   have hoff:(writesD d (1+(1 - l.area) * 24) F).2.off=false:=by rw [e4,ho]
   generalize (writesD d (1+(1 - l.area) * 24) F).2=d2 at *
   have hs2:sideS d2.secs l.area=sideS d.secs l.area:=by
    rw [e2];exact side_spl_ne (u:=0) (by rw [hfl];omega) hn har
   have hs3:sideS d2.secs (1 - l.area)=splS (sideS d.secs (1 - l.area)) 0 F:=by
    rw [e2];exact side_spl (u:=0) (by rw [hfl];omega) hn (by omega)
   have hz2:d2.secs.getD 0 []=d.secs.getD 0 []:=by
    rw [e2];exact zero_spl (by omega) (by rw [hfl];omega)
   have hlen2:d2.secs.length=d.secs.length:=by rw [e2,splS_len]
   have hokn:(writeD d2 0 (headB (compG d l+1) (1 - l.area))).2.Ok:=write_ok hokw
   unfold nameD
   by_cases hz:(writeD d2 0 (headB (compG d l+1) (1 - l.area))).1=0
   · rw [if_neg (by rw [hz];simp)]
     obtain ⟨k1,k2,k3,k4,k5⟩:=write_zero hz
     left
     refine ⟨by omega,rfl,?_,rfl,k3,by rw [k1,e2]⟩
     refine ⟨hokn,by simp only;rw [k1,List.length_set,hlen2];exact hn,?_,?_,?_⟩
     · have:=sumW_ge ((dumpB l.book).map encB)
       rw [List.length_map] at this
       exact ⟨by simp only;omega,by simp only;omega,by simp only;omega,by simp only;omega,by simp only;omega,h.lok.book⟩
     · simp only
       rw [k1,List.getD_eq_getElem?_getD,List.getElem?_set_self (by omega),Option.getD_some]
       exact head_look ⟨by omega,by omega⟩ (by omega)
     · refine ⟨dumpB l.book,fit_dump h.lok.book,rfl,rfl,?_⟩
       simp only
       rw [k1,side_set0,hs3]
       exact ⟨by rw [hF];exact hlaid0,htail⟩
   · rw [if_pos (by exact hz)]
     right
     obtain ⟨f1,f2⟩:=write_fail hz
     have he:=(write_err d2 0 (headB (compG d l+1) (1 - l.area)) (by omega) (head_64 _ _)).resolve_left hz
     refine ⟨he,f2 he,rfl,hokn,by simp only;rw [f1];omega,h.lok,by simp only;rw [f1,hz2];exact h.head,rs,h1,h2,h3,by simp only;rw [f1,hs2];exact h4⟩
 · rw [if_pos (by rw [e1];simp)]
   right
   generalize (writesD d (1+(1 - l.area) * 24) F).2=d2 at *
   have hkt:(F.take k).length≤16:=by rw [List.length_take];omega
   have hs2:sideS d2.secs l.area=sideS d.secs l.area:=by
    rw [e3];exact side_spl_ne (u:=0) (by omega) hn har
   have hz2:d2.secs.getD 0 []=d.secs.getD 0 []:=by
    rw [e3];exact zero_spl (by omega) (by omega)
   have hlen2:d2.secs.length=d.secs.length:=by rw [e3,splS_len]
   exact ⟨e1,e2,rfl,hokw,(by show 49≤d2.secs.length;omega),h.lok,(by show headS (d2.secs.getD 0 [])=_;rw [hz2];exact h.head),rs,h1,h2,h3,(by show Laid (sideS d2.secs l.area) _ _;rw [hs2];exact h4)⟩
theorem append_law {d:Dk} {l:Lg} (h:Inv d l) (hl:l.dead=false) (ho:d.off=false) (r:Rcd) :
 ((appendD d l r).1≠0∧(appendD d l r).1≠40∧(appendD d l r).2=(d,l)∧((appendD d l r).1=(applyB l.book r).2∨((applyB l.book r).2=0∧(appendD d l r).1=42∧1073741824≤compG d l))) ∨
 ((applyB l.book r).2=0∧(appendD d l r).1=0∧Inv (appendD d l r).2.1 (appendD d l r).2.2∧(appendD d l r).2.2.book=(applyB l.book r).1∧(appendD d l r).2.2.dead=false∧(appendD d l r).2.1.off=false) ∨
 ((applyB l.book r).2=0∧(appendD d l r).1=40∧(appendD d l r).2.1.off=true∧(appendD d l r).2.2.book=l.book∧∃ l',Inv (appendD d l r).2.1 l'∧l'.book=l.book∧l'.dead=false):=by
 unfold appendD
 rw [if_neg (by rw [hl];decide)]
 by_cases ha:(applyB l.book r).2=0
 · rw [if_neg (by rw [ha];simp)]
   have hmay:=(apply_zero.1 ha).2.1
   have hew:=enc_width hmay
   by_cases hu:24<l.used+widthN (encB r).length
   · rw [if_pos hu]
     rcases compact_law h hl ho with ⟨c1,c2⟩ | ⟨c1,c2,c3,c4,c5,_⟩ | ⟨c1,c2,c3,c4⟩
     · rw [c2]
       simp only
       rw [if_pos (by simp)]
       exact .inl ⟨by simp,by simp,rfl,.inr ⟨ha,rfl,c1⟩⟩
     · rw [if_neg (by rw [c2];simp)]
       have hb:(compactD d l).2.2.book=l.book:=by rw [c4];rfl
       have hdd:(compactD d l).2.2.dead=false:=by rw [c4];exact hl
       have hu2:(compactD d l).2.2.used≤16:=by rw [c4];exact dump_width h.lok.book
       generalize (compactD d l).2.1=d2 at *
       generalize (compactD d l).2.2=l2 at *
       rw [← hb] at ha ⊢
       rcases add_law c3 ha (by omega) with ⟨f1,f2,f3,f4,f5⟩ | ⟨f1,f2,f3,f4⟩
       · exact .inr (.inl ⟨ha,f1,f2,by rw [f3],by rw [f3];exact hdd,f5⟩)
       · exact .inr (.inr ⟨ha,f1,f2,by rw [f3];rfl,l2,f4,rfl,hdd⟩)
     · rw [if_pos (by rw [c1];simp)]
       exact .inr (.inr ⟨ha,c1,c2,by rw [c3];rfl,l,c4,rfl,hl⟩)
   · rw [if_neg hu]
     rcases add_law h ha (by omega) with ⟨f1,f2,f3,f4,f5⟩ | ⟨f1,f2,f3,f4⟩
     · exact .inr (.inl ⟨ha,f1,f2,by rw [f3],by rw [f3];exact hl,f5⟩)
     · exact .inr (.inr ⟨ha,f1,f2,by rw [f3];rfl,l,f4,rfl,hl⟩)
 · rw [if_pos ha]
   refine .inl ⟨ha,?_,rfl,.inl rfl⟩
   rcases apply_errs l.book r with e | e | e | e <;> simp only [e] <;> omega

/-! ### a new disk -/
theorem look_zero:lookS (List.replicate 64 0)=none:=by
 unfold lookS
 rw [if_neg]
 intro hk
 have:=(fits_iff.1 (okLook_iff.1 hk).2.2.1).1
 revert this
 decide
theorem side_zero {n k:Nat} {b:B8} (h:b∈sideS (List.replicate n (List.replicate 64 0)) k):b=List.replicate 64 0:=by
 unfold sideS at h
 exact List.eq_of_mem_replicate (List.mem_of_mem_drop (List.mem_of_mem_take h))
def newL:Lg:=⟨1,0,0,0,Bk.new,false⟩
theorem new_open {d:Dk} {n:Nat} (hn:49≤n) (h5:n≤512) (hs:d.secs=List.replicate n (List.replicate 64 0)) (ho:d.off=false) (hok:d.Ok) (ha:d.armed=false) :
 ∃ d',openD d=(0,d',some newL)∧Inv d' newL∧d'=(writeD d 0 (headB 1 0)).2∧d'.off=false∧d'.secs=d.secs.set 0 (headB 1 0):=by
 have hlen:d.secs.length=n:=by rw [hs,List.length_replicate]
 have hst:stateS d.secs=none:=by
  unfold stateS headS
  have:d.secs.getD 0 []=List.replicate 64 0:=by rw [hs,List.getD_eq_getElem?_getD,List.getElem?_replicate_of_lt (by omega)];rfl
  rw [this,look_zero]
  rfl
 have hw:writeD d 0 (headB 1 0)=(0,wroteD d 0 (headB 1 0)):=by
  unfold writeD
  rw [if_neg (by rw [ho];decide),if_neg (by omega),if_neg (by rw [head_64];simp),if_neg (by rw [ha];simp)]
 have hsec:(wroteD d 0 (headB 1 0)).secs=d.secs.set 0 (headB 1 0):=rfl
 have hok2:(wroteD d 0 (headB 1 0)).Ok:=by
  have:=write_ok (i:=0) (b:=headB 1 0) hok
  rw [hw] at this
  exact this
 have hinv:Inv (wroteD d 0 (headB 1 0)) newL:=by
  refine ⟨hok2,by rw [hsec,List.length_set];omega,⟨by decide,by decide,by decide,by decide,by decide,new_valid⟩,?_,[],rfl,rfl,rfl,?_⟩
  · rw [hsec,List.getD_eq_getElem?_getD,List.getElem?_set_self (by omega),Option.getD_some]
    exact head_look (by omega) (by omega)
  · rw [hsec,side_set0,hs]
    refine ⟨fun i hi=>absurd hi (by simp [sumW]),fun i b p _ hb hp _=>?_⟩
    rw [side_zero (List.mem_of_getElem? hb),look_zero] at hp
    cases hp
 refine ⟨wroteD d 0 (headB 1 0),?_,hinv,by rw [hw],ho,hsec⟩
 unfold openD
 rw [if_neg (by omega),if_neg (by rw [ho];decide),hst]
 unfold nameD
 rw [hw]
 simp only
 rw [if_pos trivial]
 have hr:=hinv.read
 unfold stateS at hr
 rw [hinv.head,Option.map_some,Option.some.injEq] at hr
 exact congrArg (fun x=>((0:Int),wroteD d 0 (headB 1 0),some x)) hr
end Go.Proofs.YtpphoeimakjjdaaGreatDoor
/-
  PLAIN LAWS, NO WALK: layer 12: a ledger whose disk is not armed.
-/
namespace Go.Proofs.YtpphoeimakjjdaaGreatDoor
open Go.RowKit

theorem wrap64_small {n:Int} (h0:0≤n) (h:n<9223372036854775808):wrap64 n=n:=by
 unfold wrap64
 omega
theorem write_quiet {d:Dk} (ho:d.off=false) (ha:d.armed=false) {i:Nat} {b:B8} (hi:i<d.secs.length) (hb:b.length=64):writeD d i b=(0,wroteD d i b):=by
 unfold writeD
 rw [if_neg (by rw [ho];decide),if_neg (by omega),if_neg (by omega),if_neg (by rw [ha];simp)]
theorem writes_quiet:∀ (d:Dk) (a:Nat) (l:List B8),d.off=false→d.armed=false→(∀ b,b∈l→b.length=64)→a+l.length≤d.secs.length →
 (writesD d a l).1=0∧(writesD d a l).2.off=false∧(writesD d a l).2.armed=false∧(writesD d a l).2.secs=splS d.secs a l∧(0≤d.writes→d.writes+l.length<9223372036854775808→(writesD d a l).2.writes=d.writes+l.length)
 | d,a,[],ho,ha,_,_=>⟨rfl,ho,ha,rfl,fun _ _=>by simp [writesD]⟩
 | d,a,b::l,ho,ha,h64,hl=>by
   simp only [List.length_cons] at hl ⊢
   have hw:=write_quiet ho ha (i:=a) (b:=b) (by omega) (h64 b List.mem_cons_self)
   unfold writesD
   rw [hw]
   simp only
   rw [if_pos trivial]
   obtain ⟨h1,h2,h3,h4,h5⟩:=writes_quiet (wroteD d a b) (a+1) l ho ha (fun x hx=>h64 x (List.mem_cons_of_mem _ hx)) (by simp [wroteD];omega)
   refine ⟨h1,h2,h3,by rw [h4];rfl,fun h0 hm=>?_⟩
   have hw1:(wroteD d a b).writes=d.writes+1:=wrap64_small (by omega) (by omega)
   rw [h5 (by rw [hw1];omega) (by rw [hw1];omega),hw1]
   omega
theorem mem_spl:∀ {s:List B8} {a:Nat} {l:List B8} {b:B8},b∈splS s a l→b∈s∨b∈l
 | s,a,[],b,h=>.inl h
 | s,a,x::l,b,h=>by
   rcases mem_spl (s:=s.set a x) h with h | h
   · rcases List.mem_or_eq_of_mem_set h with h | h
     · exact .inl h
     · exact .inr (h ▸ List.mem_cons_self)
   · exact .inr (List.mem_cons_of_mem _ h)
theorem look_gen {gen seq i n:Nat} {piece:B8} {p:Prt} (hg:gen<4294967296) (h:lookS (packOne gen seq i n piece)=some p):p.gen=gen:=by
 unfold lookS at h
 by_cases hk:okLook (packOne gen seq i n piece)=true
 · rw [if_pos hk] at h
   cases h
   show ofFour (packOne gen seq i n piece)=gen
   unfold packOne bodyS
   rw [List.append_assoc]
   exact ofFour_four hg _
 · rw [if_neg hk] at h;cases h
theorem pack_gen {gen seq:Nat} {data b:B8} {p:Prt} (hg:gen<4294967296) (hb:b∈packL gen seq data) (h:lookS b=some p):p.gen=gen:=by
 unfold packL at hb
 obtain ⟨i,_,rfl⟩:=List.mem_map.1 hb
 exact look_gen hg h
theorem flat_gen {gen:Nat} (hg:gen<4294967296):∀ {i:Nat} {l:List B8} {b:B8} {p:Prt},b∈flatR gen i l→lookS b=some p→p.gen=gen
 | i,[],b,p,h,_=>by cases h
 | i,x::l,b,p,h,hp=>by
   rw [flatR] at h
   rcases List.mem_append.1 h with h | h
   · exact pack_gen hg h hp
   · exact flat_gen hg h hp
structure Calm (d:Dk) (l:Lg):Prop where
 inv:Inv d l
 off:d.off=false
 arm:d.armed=false
 live:l.dead=false
 gens:∀ b p,b∈d.secs→lookS b=some p→p.gen≤l.gen
def small (n:Int):Prop:=0≤n∧n<4611686018427387904
theorem calm_add {d:Dk} {l:Lg} (h:Calm d l) {r:Rcd} (hr:(applyB l.book r).2=0) (hu:l.used+widthN (encB r).length≤24) :
 ∃ d',addD d l (applyB l.book r).1 (encB r)=(0,d',{ l with seq:=l.seq+1,used:=l.used+widthN (encB r).length,book:=(applyB l.book r).1 })∧Calm d' { l with seq:=l.seq+1,used:=l.used+widthN (encB r).length,book:=(applyB l.book r).1 }∧(small d.writes→d'.writes=d.writes+widthN (encB r).length):=by
 have har:=h.inv.lok.area
 have hn:=h.inv.n49
 have hW:=packL_len l.gen l.seq (encB r)
 have hg:=h.inv.lok.genM
 obtain ⟨q1,q2,q3,q4,q5⟩:=writes_quiet d (1+l.area * 24+l.used) (packL l.gen l.seq (encB r)) h.off h.arm pack_64 (by rw [hW];omega)
 have hwl:=(enc_width (apply_zero.1 hr).2.1).2
 rcases add_law h.inv hr hu with ⟨e1,e2,e3,e4,e5⟩ | ⟨e1,_⟩
 · have hd:(addD d l (applyB l.book r).1 (encB r)).2.1=(putD d (1+l.area * 24+l.used) l.gen l.seq (encB r)).2:=by
    unfold addD
    simp only
    split <;> rfl
   have hpd:(putD d (1+l.area * 24+l.used) l.gen l.seq (encB r)).2=(writesD d (1+l.area * 24+l.used) (packL l.gen l.seq (encB r))).2:=rfl
   rw [hd,hpd] at e2
   rw [e3] at e2
   refine ⟨_,Prod.ext e1 (Prod.ext (by rw [hd,hpd]) e3),⟨e2,q2,q3,h.live,fun b p hb hp=>?_⟩,fun hs=>?_⟩
   · simp only
     rw [q4] at hb
     rcases mem_spl hb with hb | hb
     · exact h.gens b p hb hp
     · exact Nat.le_of_eq (pack_gen (by omega) hb hp)
   · obtain ⟨s1,s2⟩:=hs
     rw [q5 s1 (by rw [hW];omega),hW]
 · exfalso
   have hx:(putD d (1+l.area * 24+l.used) l.gen l.seq (encB r)).1=0:=q1
   unfold addD at e1
   simp only at e1
   rw [hx,if_neg (by simp)] at e1
   cases e1
theorem calm_compG {d:Dk} {l:Lg} (h:Calm d l):compG d l=l.gen:=by
 have h1:=maxGen_ge (sideS d.secs (1 - l.area)) l.gen
 have h2:=maxGen_most (sideS d.secs (1 - l.area)) l.gen l.gen (Nat.le_refl _) (fun b p hb hp=>h.gens b p (by
  unfold sideS at hb
  exact List.mem_of_mem_drop (List.mem_of_mem_take hb)) hp)
 unfold compG
 omega
def compL (l:Lg):Lg:=⟨l.gen+1,1 - l.area,(dumpB l.book).length,sumW ((dumpB l.book).map encB),l.book,false⟩
theorem calm_compact {d:Dk} {l:Lg} (h:Calm d l) (hg:l.gen<1073741824) :
 ∃ d',compactD d l=(0,d',compL l)∧Calm d' (compL l)∧(small d.writes→d'.writes=d.writes+sumW ((dumpB l.book).map encB)+1):=by
 have har:=h.inv.lok.area
 have hn:=h.inv.n49
 have hcg:=calm_compG h
 have hdw:=dump_width h.inv.lok.book
 have hfl:=flatR_len (l.gen+1) 0 ((dumpB l.book).map encB)
 have h64:=flatR_64 (l.gen+1) 0 ((dumpB l.book).map encB)
 obtain ⟨q1,q2,q3,q4,q5⟩:=writes_quiet d (1+(1 - l.area) * 24) (flatR (l.gen+1) 0 ((dumpB l.book).map encB)) h.off h.arm h64 (by rw [hfl];omega)
 have hql:=writes_len d (1+(1 - l.area) * 24) (flatR (l.gen+1) 0 ((dumpB l.book).map encB))
 have hun:compactD d l=(let t:=writesD d (1+(1 - l.area) * 24) (flatR (l.gen+1) 0 ((dumpB l.book).map encB));(0,wroteD t.2 0 (headB (l.gen+1) (1 - l.area)),compL l)):=by
  unfold compactD
  have hcg':maxGen l.gen (sideS d.secs (1 - l.area))=l.gen:=hcg
  rw [if_neg (by rw [h.live];decide),if_neg (by rw [h.off];decide),hcg',if_neg (by omega)]
  simp only
  rw [lay_writes,if_neg (by rw [q1];simp)]
  unfold nameD
  rw [write_quiet q2 q3 (by rw [hql];omega) (head_64 _ _)]
  simp only
  rw [if_neg (by simp),h.live]
  rfl
 rcases compact_law h.inv h.live h.off with ⟨c1,_⟩ | ⟨c1,c2,c3,c4,c5,c6⟩ | ⟨c1,_⟩
 · omega
 · rw [hun] at c3 c6
   simp only at c3 c6
   refine ⟨_,by rw [hun],⟨c3,q2,q3,rfl,fun b p hb hp=>?_⟩,fun hs=>?_⟩
   · show p.gen≤l.gen+1
     have hb:b∈(writesD d (1+(1 - l.area) * 24) (flatR (l.gen+1) 0 ((dumpB l.book).map encB))).2.secs.set 0 (headB (l.gen+1) (1 - l.area)):=hb
     rcases List.mem_or_eq_of_mem_set hb with hb | hb
     · rw [q4] at hb
       rcases mem_spl hb with hb | hb
       · have:=h.gens b p hb hp;omega
       · exact Nat.le_of_eq (flat_gen (by omega) hb hp)
     · rw [hb] at hp
       exact Nat.le_of_eq (look_gen (by omega) hp)
   · obtain ⟨s1,s2⟩:=hs
     have q5':=q5 s1 (by rw [hfl];omega)
     rw [hfl] at q5'
     show wrap64 ((writesD d (1+(1 - l.area) * 24) (flatR (l.gen+1) 0 ((dumpB l.book).map encB))).2.writes+1)=_
     rw [q5',wrap64_small (by omega) (by omega)]
 · rw [hun] at c1;cases c1
theorem calm_append {d:Dk} {l:Lg} (h:Calm d l) (hg:l.gen<1073741824) (r:Rcd) :
 ((applyB l.book r).2≠0∧appendD d l r=((applyB l.book r).2,d,l)) ∨
 ((applyB l.book r).2=0∧∃ d' l',appendD d l r=(0,d',l')∧Calm d' l'∧l'.book=(applyB l.book r).1∧l'.gen≤l.gen+1∧(l.used+widthN (encB r).length≤24→l'.gen=l.gen∧l'.seq=l.seq+1∧l'.used=l.used+widthN (encB r).length∧(small d.writes→d'.writes=d.writes+widthN (encB r).length))):=by
 unfold appendD
 rw [if_neg (by rw [h.live];decide)]
 by_cases ha:(applyB l.book r).2=0
 · rw [if_neg (by rw [ha];simp)]
   right
   refine ⟨ha,?_⟩
   have hew:=enc_width (apply_zero.1 ha).2.1
   by_cases hu:24<l.used+widthN (encB r).length
   · rw [if_pos hu]
     obtain ⟨d1,c1,c2,c3⟩:=calm_compact h hg
     have hdw:=dump_width h.inv.lok.book
     have hb:(compL l).book=l.book:=rfl
     obtain ⟨d2,e1,e2,e3⟩:=calm_add c2 (r:=r) (by rw [hb];exact ha) (by show sumW _+_≤24;omega)
     rw [hb] at e1 e2
     rw [c1]
     simp only
     rw [if_neg (by simp),e1]
     exact ⟨_,_,rfl,e2,rfl,Nat.le_refl _,fun hx=>by omega⟩
   · rw [if_neg hu]
     obtain ⟨d2,e1,e2,e3⟩:=calm_add h ha (by omega)
     rw [e1]
     exact ⟨_,_,rfl,e2,rfl,by simp,fun _=>⟨rfl,rfl,rfl,e3⟩⟩
 · rw [if_pos ha]
   exact .inl ⟨ha,rfl⟩
theorem calm_new {d:Dk} {n:Nat} (hn:49≤n) (h5:n≤512) (hs:d.secs=List.replicate n (List.replicate 64 0)) (ho:d.off=false) (hok:d.Ok) (ha:d.armed=false) (hw:d.writes=0) :
 ∃ d',openD d=(0,d',some newL)∧Calm d' newL∧d'.writes=1∧d'.secs.length=n:=by
 obtain ⟨d',h1,h2,h3,h4,h5'⟩:=new_open hn h5 hs ho hok ha
 have hlen:d.secs.length=n:=by rw [hs,List.length_replicate]
 rw [write_quiet ho ha (by omega) (head_64 _ _)] at h3
 subst h3
 refine ⟨_,h1,⟨h2,ho,ha,rfl,fun b p hb hp=>?_⟩,?_,by show (d.secs.set 0 _).length=n;rw [List.length_set,hlen]⟩
 · have hb:b∈d.secs.set 0 (headB 1 0):=hb
   rcases List.mem_or_eq_of_mem_set hb with hb | hb
   · rw [hs] at hb
     rw [List.eq_of_mem_replicate hb,look_zero] at hp
     cases hp
   · rw [hb] at hp
     have:p.gen=1:=look_gen (by omega) hp
     exact Nat.le_of_eq this
 · show wrap64 (d.writes+1)=1
   rw [hw]
   exact wrap64_small (by omega) (by omega)
end Go.Proofs.YtpphoeimakjjdaaGreatDoor
