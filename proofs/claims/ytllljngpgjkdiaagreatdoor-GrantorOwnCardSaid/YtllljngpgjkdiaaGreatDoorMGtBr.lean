/-
  Book GtLs GtBr: see the remarks below.
-/
import Derived.Test.YtllljngpgjkdiaaGreatDoorMResC
import Derived.Test.YtllljngpgjkdiaaGreatDoorMStamps3
import Derived.Test.YtllljngpgjkdiaaGreatDoorMPsTree
/-
  PLAIN LAWS, NO WALK: layer 11: what a ledger says: grants, records, books; which may be; what a record does; the fewest records; a record's bytes.
-/
namespace Go.Proofs.YtllljngpgjkdiaaGreatDoor
open Go.RowKit

structure Grt where
 id:Int
 holder:Int
 path:ByteArray
 mode:Int
 stamp:List Int
 term:Int
theorem grt_ext {x y:Grt} (h:x.id=y.id∧x.holder=y.holder∧x.path=y.path∧x.mode=y.mode∧x.stamp=y.stamp∧x.term=y.term):x=y:=by
 cases x;cases y
 simp only at h
 obtain ⟨rfl,rfl,rfl,rfl,rfl,rfl⟩:=h
 rfl
instance decGrt:DecidableEq Grt:=fun x y=>decidable_of_iff _ ⟨grt_ext,fun h=>by subst h;exact ⟨rfl,rfl,rfl,rfl,rfl,rfl⟩⟩
def Grt.zero:Grt:=⟨0,0,ByteArray.empty,0,[],0⟩
instance:Inhabited Grt:=⟨Grt.zero⟩
structure Rcd where
 kind:Int
 grant:Grt
 id:Int
 stamp:List Int
 next:Int
 boots:Int
 longest:Int
theorem rcd_ext {x y:Rcd} (h:x.kind=y.kind∧x.grant=y.grant∧x.id=y.id∧x.stamp=y.stamp∧x.next=y.next∧x.boots=y.boots∧x.longest=y.longest):x=y:=by
 cases x;cases y
 simp only at h
 obtain ⟨rfl,rfl,rfl,rfl,rfl,rfl,rfl⟩:=h
 rfl
instance decRcd:DecidableEq Rcd:=fun x y=>decidable_of_iff _ ⟨rcd_ext,fun h=>by subst h;exact ⟨rfl,rfl,rfl,rfl,rfl,rfl,rfl⟩⟩
def Rcd.zero:Rcd:=⟨0,Grt.zero,0,[],0,0,0⟩
instance:Inhabited Rcd:=⟨Rcd.zero⟩
structure Bk where
 next:Int
 boots:Int
 longest:Int
 grants:List Grt
theorem bk_ext {x y:Bk} (h:x.next=y.next∧x.boots=y.boots∧x.longest=y.longest∧x.grants=y.grants):x=y:=by
 cases x;cases y
 simp only at h
 obtain ⟨rfl,rfl,rfl,rfl⟩:=h
 rfl
instance decBk:DecidableEq Bk:=fun x y=>decidable_of_iff _ ⟨bk_ext,fun h=>by subst h;exact ⟨rfl,rfl,rfl,rfl⟩⟩
def Bk.new:Bk:=⟨1,0,0,[]⟩
def Bk.zero:Bk:=⟨0,0,0,[]⟩

/-! ### what may be -/
def lastI (s:List Int):Int:=s.getD (s.length - 1) 0
def legalT (t:Int):Prop:=4≤t∧t≤1048576
instance (t:Int):Decidable (legalT t):=by unfold legalT;exact inferInstance
def stmB (s:List Int):Bool:=decide (0<s.length)&&decide (stampOk s)
def grantB (g:Grt):Bool:=decide (countOk g.id)&&(decide (0≤g.holder∧g.holder<8)&&(pathOk g.path.data.toList&&(decide (g.mode=1∨g.mode=2)&&(stmB g.stamp&&(decide (g.id≤lastI g.stamp)&&decide (legalT g.term))))))
def headsB (next boots:Int):Bool:=decide (1≤next∧next≤1099511627777∧0≤boots∧boots≤1099511627776)
def okFrom (next:Int):Int→List Grt→Bool
 | _,[]=>true
 | id,g::r=>grantB g&&(decide (lastI g.stamp<next)&&(decide (id<g.id)&&okFrom next g.id r))
def validB (b:Bk):Bool:=headsB b.next b.boots&&(decide (b.longest=0∨legalT b.longest)&&(decide (b.grants.length≤6)&&okFrom b.next 0 b.grants))
def bareB (r:Rcd):Bool:=decide (r.next=0∧r.boots=0∧r.longest=0)
def noGrant (r:Rcd):Bool:=decide (r.grant=Grt.zero)
def noId (r:Rcd):Bool:=decide (r.id=0∧r.stamp=[])
def mayB (r:Rcd):Bool :=
 if r.kind=1 then headsB r.next r.boots&&(decide (r.longest=0)&&(noGrant r&&noId r))
 else if r.kind=2 then decide (legalT r.longest)&&(decide (r.next=0∧r.boots=0)&&(noGrant r&&noId r))
 else if r.kind=4 then decide (lastI r.grant.stamp=r.grant.id)&&(grantB r.grant&&(bareB r&&noId r))
 else if r.kind=3 then grantB r.grant&&(bareB r&&noId r)
 else if r.kind=5 then decide (countOk r.id)&&(stmB r.stamp&&(bareB r&&noGrant r))
 else if r.kind=6 then decide (countOk r.id)&&(decide (r.stamp=[])&&(bareB r&&noGrant r))
 else if r.kind=7 then bareB r&&(noGrant r&&noId r)
 else false

/-! ### what a record does -/
def limitI (b:Bk) (k:Int):Int :=
 if ((k=4∨k=5)∧1099511627776<b.next)∨(k=7∧b.boots=1099511627776) then 66
 else if (k=4∨k=3)∧b.grants.length=6 then 51 else 0
def posG (l:List Grt) (id:Int):Nat:=(l.takeWhile fun g=>decide (g.id<id)).length
def hasG (l:List Grt) (id:Int):Bool:=l.any fun g=>decide (g.id=id)
def putG (l:List Grt) (g:Grt):List Grt:=l.take (posG l g.id)++g::l.drop (posG l g.id)
def delG (l:List Grt) (id:Int):List Grt:=l.take (posG l id)++l.drop (posG l id+1)
def setG (l:List Grt) (id:Int) (s:List Int):List Grt:=l.set (posG l id) { l.getD (posG l id) default with stamp:=s }
def changeB (b:Bk) (r:Rcd):Option Bk :=
 if r.kind=1 then (if b=Bk.new then some { b with next:=r.next,boots:=r.boots } else none)
 else if r.kind=2 then (if b.longest<r.longest then some { b with longest:=r.longest } else none)
 else if r.kind=4 then (if r.grant.id=b.next then some { b with next:=b.next+1,grants:=putG b.grants r.grant } else none)
 else if r.kind=3 then (if hasG b.grants r.grant.id=false∧lastI r.grant.stamp<b.next then some { b with grants:=putG b.grants r.grant } else none)
 else if r.kind=5 then (if hasG b.grants r.id=true∧lastI r.stamp=b.next then some { b with next:=b.next+1,grants:=setG b.grants r.id r.stamp } else none)
 else if r.kind=6 then (if hasG b.grants r.id=true then some { b with grants:=delG b.grants r.id } else none)
 else some { b with boots:=b.boots+1 }
def applyB (b:Bk) (r:Rcd):Bk × Int :=
 if validB b=false∨mayB r=false then (Bk.zero,43) else if limitI b r.kind≠0 then (Bk.zero,limitI b r.kind)
 else match changeB b r with
  | some c=>(c,0)
  | none=>(Bk.zero,43)

/-! ### orders -/
theorem okFrom_mem {next:Int}:∀ {id:Int} {l:List Grt},okFrom next id l=true→∀ g,g∈l→grantB g=true∧lastI g.stamp<next∧id<g.id
 | _,[],_,_,h=>by cases h
 | id,x::r,h,g,hg=>by
   simp only [okFrom,Bool.and_eq_true,decide_eq_true_eq] at h
   rcases List.mem_cons.1 hg with rfl | hr
   · exact ⟨h.1,h.2.1,h.2.2.1⟩
   · have:=okFrom_mem h.2.2.2 g hr
     exact ⟨this.1,this.2.1,by omega⟩
theorem okFrom_sorted {next:Int}:∀ {id:Int} {l:List Grt},okFrom next id l=true→l.Pairwise fun a b=>a.id<b.id
 | _,[],_=>List.Pairwise.nil
 | id,x::r,h=>by
   simp only [okFrom,Bool.and_eq_true,decide_eq_true_eq] at h
   exact List.Pairwise.cons (fun g hg=>(okFrom_mem h.2.2.2 g hg).2.2) (okFrom_sorted h.2.2.2)
theorem okFrom_of {next:Int}:∀ {id:Int} {l:List Grt},(∀ g,g∈l→grantB g=true∧lastI g.stamp<next∧id<g.id)→(l.Pairwise fun a b=>a.id<b.id)→okFrom next id l=true
 | _,[],_,_=>rfl
 | id,x::r,h,hp=>by
   have h1:=h x List.mem_cons_self
   have h2:=List.pairwise_cons.1 hp
   simp only [okFrom,Bool.and_eq_true,decide_eq_true_eq]
   exact ⟨h1.1,h1.2.1,h1.2.2,okFrom_of (fun g hg=>⟨(h g (List.mem_cons_of_mem _ hg)).1,(h g (List.mem_cons_of_mem _ hg)).2.1,h2.1 g hg⟩) h2.2⟩
theorem okFrom_iff {next id:Int} {l:List Grt}:okFrom next id l=true↔(∀ g,g∈l→grantB g=true∧lastI g.stamp<next∧id<g.id)∧l.Pairwise fun a b=>a.id<b.id :=
 ⟨fun h=>⟨okFrom_mem h,okFrom_sorted h⟩,fun h=>okFrom_of h.1 h.2⟩
theorem valid_iff {b:Bk}:validB b=true↔headsB b.next b.boots=true∧(b.longest=0∨legalT b.longest)∧b.grants.length≤6∧okFrom b.next 0 b.grants=true:=by
 simp [validB]
theorem heads_iff {n k:Int}:headsB n k=true↔1≤n∧n≤1099511627777∧0≤k∧k≤1099511627776:=by simp [headsB]
def SrtG (l:List Grt):Prop:=l.Pairwise fun a b=>a.id<b.id
theorem posG_le (l:List Grt) (id:Int):posG l id≤l.length:=by
 unfold posG
 exact (List.takeWhile_prefix _).length_le
theorem posG_cons (x:Grt) (r:List Grt) (id:Int):posG (x::r) id=if x.id<id then posG r id+1 else 0:=by
 unfold posG
 rw [List.takeWhile_cons]
 by_cases h:x.id<id
 · rw [if_pos (by simpa using h),if_pos h];rfl
 · rw [if_neg (by simpa using h),if_neg h];rfl
theorem pos_below {l:List Grt} {id:Int}:∀ g,g∈l.take (posG l id)→g.id<id:=by
 induction l with
 | nil=>intro g hg;simp at hg
 | cons x r ih =>
   intro g hg
   rw [posG_cons] at hg
   by_cases h:x.id<id
   · rw [if_pos h,List.take_succ_cons] at hg
     rcases List.mem_cons.1 hg with rfl | hr
     · exact h
     · exact ih g hr
   · rw [if_neg h] at hg;simp at hg
theorem pos_above {l:List Grt} (hs:SrtG l) {id:Int}:∀ g,g∈l.drop (posG l id)→id≤g.id:=by
 induction l with
 | nil=>intro g hg;simp at hg
 | cons x r ih =>
   intro g hg
   have h':=List.pairwise_cons.1 hs
   rw [posG_cons] at hg
   by_cases h:x.id<id
   · rw [if_pos h,List.drop_succ_cons] at hg
     exact ih h'.2 g hg
   · rw [if_neg h,List.drop_zero] at hg
     rcases List.mem_cons.1 hg with rfl | hr
     · omega
     · have:=h'.1 g hr;omega
theorem has_at {l:List Grt} (hs:SrtG l) {id:Int}:hasG l id=true↔posG l id<l.length∧(l.getD (posG l id) default).id=id:=by
 induction l with
 | nil=>simp [hasG,posG]
 | cons x r ih =>
   have h':=List.pairwise_cons.1 hs
   have ih:=ih h'.2
   rw [posG_cons]
   by_cases h:x.id<id
   · rw [if_pos h]
     have:hasG (x::r) id=hasG r id:=by
      simp only [hasG,List.any_cons]
      rw [decide_eq_false (by omega),Bool.false_or]
     rw [this,ih]
     simp
   · rw [if_neg h]
     simp only [hasG,List.any_cons,Bool.or_eq_true,decide_eq_true_eq,List.length_cons,List.getD_cons_zero]
     refine ⟨fun k=>⟨by omega,?_⟩,fun k=>.inl k.2⟩
     rcases k with k | k
     · exact k
     · rw [List.any_eq_true] at k
       obtain ⟨g,hg,he⟩:=k
       have:=h'.1 g hg
       simp at he
       omega
theorem hasG_iff {l:List Grt} {id:Int}:hasG l id=true↔∃ g,g∈l∧g.id=id:=by simp [hasG]
theorem putG_srt {l:List Grt} (hs:SrtG l) {g:Grt} (h:hasG l g.id=false):SrtG (putG l g):=by
 have hcut:SrtG (l.take (posG l g.id)++l.drop (posG l g.id)):=by rw [List.take_append_drop];exact hs
 have hc:=List.pairwise_append.1 hcut
 refine List.pairwise_append.2 ⟨hc.1,List.pairwise_cons.2 ⟨fun x hx=>?_,hc.2.1⟩,fun x hx y hy=>?_⟩
 · have h1:=pos_above hs x hx
   have:x.id≠g.id:=fun e=>by
    have:hasG l g.id=true:=hasG_iff.2 ⟨x,List.mem_of_mem_drop hx,e⟩
    rw [h] at this;cases this
   omega
 · rcases List.mem_cons.1 hy with rfl | hr
   · exact pos_below x hx
   · exact hc.2.2 x hx y hr
theorem mem_putG {l:List Grt} {g x:Grt}:x∈putG l g↔x=g∨x∈l:=by
 unfold putG
 rw [List.mem_append,List.mem_cons]
 conv=>rhs;rw [← List.take_append_drop (posG l g.id) l,List.mem_append]
 constructor
 · rintro (h | h | h)
   · exact .inr (.inl h)
   · exact .inl h
   · exact .inr (.inr h)
 · rintro (h | h | h)
   · exact .inr (.inl h)
   · exact .inl h
   · exact .inr (.inr h)
theorem putG_len (l:List Grt) (g:Grt):(putG l g).length=l.length+1:=by
 have:=posG_le l g.id
 simp [putG];omega
theorem posG_end {l:List Grt} {id:Int} (h:∀ g,g∈l→g.id<id):posG l id=l.length:=by
 induction l with
 | nil=>rfl
 | cons x r ih =>
   rw [posG_cons,if_pos (h x List.mem_cons_self),ih (fun g hg=>h g (List.mem_cons_of_mem _ hg))]
   rfl
theorem putG_end {l:List Grt} {g:Grt} (h:∀ x,x∈l→x.id<g.id):putG l g=l++[g]:=by
 unfold putG
 rw [posG_end h];simp
theorem delG_mem {l:List Grt} {id:Int} {x:Grt} (h:x∈delG l id):x∈l:=by
 unfold delG at h
 rcases List.mem_append.1 h with h | h
 · exact List.mem_of_mem_take h
 · exact List.mem_of_mem_drop h
theorem delG_sub (l:List Grt) (id:Int):(delG l id).Sublist l:=by
 unfold delG
 conv=>rhs;rw [← List.take_append_drop (posG l id) l]
 refine List.Sublist.append (List.Sublist.refl _) ?_
 rw [show posG l id+1=posG l id+1 from rfl,← List.drop_drop]
 exact List.drop_sublist _ _
theorem delG_len {l:List Grt} (hs:SrtG l) {id:Int} (h:hasG l id=true):(delG l id).length+1=l.length:=by
 have:=(has_at hs).1 h
 simp [delG];omega
theorem delG_filter {l:List Grt} (hs:SrtG l) {id:Int} (h:hasG l id=true):delG l id=l.filter fun g=>decide (g.id≠id):=by
 induction l with
 | nil=>rfl
 | cons x r ih =>
   have h':=List.pairwise_cons.1 hs
   unfold delG
   rw [posG_cons,List.filter_cons]
   by_cases hx:x.id<id
   · rw [if_pos hx,if_pos (by simp;omega)]
     have hr:hasG r id=true:=by
      simp only [hasG,List.any_cons] at h
      rw [decide_eq_false (by omega),Bool.false_or] at h
      exact h
     rw [← ih h'.2 hr]
     rfl
   · rw [if_neg hx]
     have he:x.id=id:=by
      have:=(has_at hs).1 h
      rw [posG_cons,if_neg hx] at this
      exact this.2
     rw [if_neg (by simpa using he)]
     simp only [List.take_zero,List.nil_append,Nat.zero_add,List.drop_succ_cons,List.drop_zero]
     exact (List.filter_eq_self.2 fun g hg=>by have:=h'.1 g hg;simp;omega).symm
/-! ### a change keeps a book a book -/
theorem grant_iff {g:Grt}:grantB g=true↔countOk g.id∧(0≤g.holder∧g.holder<8)∧pathOk g.path.data.toList=true∧(g.mode=1∨g.mode=2)∧stmB g.stamp=true∧g.id≤lastI g.stamp∧legalT g.term:=by
 simp [grantB]
end Go.Proofs.YtllljngpgjkdiaaGreatDoor
/-
  PLAIN, NO WALK: leases; does one bear a use?
-/
namespace Go.Proofs.YtllljngpgjkdiaaGreatDoor
open Go.RowKit

structure Lease where
 frm:Int
 id:Int
 path:ByteArray
 mode:Int
 stamp:List Int
 term:Int
 sent:Int
 expiry:Int
 recd:Bool
def cellsL (x:Lease) (v:Value):Array Value:=#[.int .i64 x.frm,.int .i64 x.id,.string x.path,.int .i64 x.mode,v,.int .i64 x.term,.int .i64 x.sent,.int .i64 x.expiry,.bool x.recd]
def aggL (x:Lease) (v:Value):Value:=.agg (cellsL x v)
def modeOk (m:Int):Prop:=m=1∨m=2
instance (m:Int):Decidable (modeOk m):=by unfold modeOk;exact inferInstance
def bearsB (x:Lease) (now:Int) (path:List UInt8) (mode:Int):Bool :=
 !x.recd&&decide (now<x.expiry)&&decide (modeOk mode)&&decide (stampOk x.stamp)&&coversB x.path.data.toList path&&(decide (x.mode=2)||(decide (x.mode=1)&&decide (mode=1)))
end Go.Proofs.YtllljngpgjkdiaaGreatDoor
/-
  WALKS: layer 16: Bears.
-/
namespace Go.Proofs.YtllljngpgjkdiaaGreatDoor
set_option maxRecDepth 100000
set_option maxHeartbeats 400000
open Go.RowKit

theorem isMode_any (m:Int) (w:World):Calls Tryz.prog 68 #[.int .i64 m] w fun e w'=>e=.returned (.bool (decide (modeOk m)))∧w'=w:=by
 go_enter Tryz.func68,Tryz.ntmps68
 by_cases h1:m=1
 · subst h1
   go_wp2
   go_ret
   exact ⟨rfl,rfl⟩
 · by_cases h2:m=2
   · subst h2
     go_wp2
     go_ret
     exact ⟨rfl,rfl⟩
   · have e0:decide (modeOk m)=false:=decide_eq_false fun h=>h.elim h1 h2
     rw [e0]
     have b1:(m==1)=false:=by simpa using h1
     have b2:(m==2)=false:=by simpa using h2
     clear e0 h1 h2
     go_wp2
     go_ret
     exact ⟨rfl,rfl⟩
theorem bears_any {w:World} {v:Value} {a:List Int} (hv:RdN w v a) (f i m t s e:Int) (p:ByteArray) (r:Bool) (hp:p.size≤9223372036854775807) (now:Int) (q:ByteArray) (hq:q.size≤9223372036854775807) (md:Int) :
 Calls Tryz.prog 28 #[.agg #[.int .i64 f,.int .i64 i,.string p,.int .i64 m,v,.int .i64 t,.int .i64 s,.int .i64 e,.bool r],.int .i64 now,.string q,.int .i64 md] w fun en w'=>en=.returned (.bool (bearsB ⟨f,i,p,m,a,t,s,e,r⟩ now q.data.toList md))∧Gr w w':=by
 have g:=(Gr.refl w).alloc (.cells #[.int .i64 f,.int .i64 i,.string p,.int .i64 m,v,.int .i64 t,.int .i64 s,.int .i64 e,.bool r] 25)
 have hv2:=hv.gr g
 have G:=hide g
 obtain ⟨b,hb⟩:∃ b,bearsB ⟨f,i,p,m,a,t,s,e,r⟩ now q.data.toList md=b:=⟨_,rfl⟩
 rw [hb]
 unfold bearsB at hb
 simp only at hb
 obtain ⟨pv,cv,rfl⟩:=hv.len
 clear g hv
 cases r
 · by_cases h1:now<e
   · by_cases h2:modeOk md
     · have d2:decide (modeOk md)=true:=decide_eq_true h2
       have d1:decide (now<e)=true:=decide_eq_true h1
       rw [d1,d2] at hb
       simp only [Bool.not_false,Bool.true_and] at hb
       have HB:=hide hb
       have H2:=hide d2
       clear hb h2 d1 d2
       go_enter Tryz.func28,Tryz.ntmps28
       go_wp2_with fail
       refine (isMode_any _ _).mono ?_
       rintro en w' ⟨rfl,rfl⟩
       rw [H2.out]
       clear H2
       go_wp2_with fail
       refine (svalid_any hv2).mono ?_
       rintro en w' ⟨rfl,rfl⟩
       cases h3:decide (stampOk a)
       · obtain rfl:false=b:=by have:=HB.out;rw [h3] at this;simpa using this
         clear h3 HB
         go_wp2_with fail
         go_ret
         exact ⟨rfl,G.out⟩
       · have hb:=HB.out
         rw [h3,Bool.true_and] at hb
         have HB2:=hide hb
         clear h3 HB hb
         go_wp2_with fail
         refine (covers_any p q hp hq _).mono ?_
         rintro en w' ⟨rfl,rfl⟩
         cases h4:coversB p.data.toList q.data.toList
         · obtain rfl:false=b:=by have:=HB2.out;rw [h4] at this;simpa using this
           clear h4 HB2
           go_wp2_with fail
           go_ret
           exact ⟨rfl,G.out⟩
         · have hb:=HB2.out
           rw [h4,Bool.true_and] at hb
           clear h4 HB2
           by_cases m2:m=2
           · subst m2
             obtain rfl:true=b:=by simpa using hb
             clear hb
             go_wp2_with fail
             go_ret
             exact ⟨rfl,G.out⟩
           · by_cases m1:m=1
             · subst m1
               by_cases k1:md=1
               · subst k1
                 obtain rfl:true=b:=by simpa using hb
                 clear hb
                 go_wp2_with fail
                 go_ret
                 exact ⟨rfl,G.out⟩
               · obtain rfl:false=b:=by simpa [k1] using hb
                 have b1:(md==1)=false:=by simpa using k1
                 clear hb k1
                 go_wp2_with fail
                 go_ret
                 exact ⟨rfl,G.out⟩
             · obtain rfl:false=b:=by simpa [m1,m2] using hb
               have b1:(m==1)=false:=by simpa using m1
               have b2:(m==2)=false:=by simpa using m2
               clear hb m1 m2
               go_wp2_with fail
               go_ret
               exact ⟨rfl,G.out⟩
     · have d2:decide (modeOk md)=false:=decide_eq_false h2
       obtain rfl:false=b:=by rw [d2] at hb;simpa using hb
       have H2:=hide d2
       clear hb h2 d2
       go_enter Tryz.func28,Tryz.ntmps28
       go_wp2_with fail
       refine (isMode_any _ _).mono ?_
       rintro en w' ⟨rfl,rfl⟩
       rw [H2.out]
       clear H2
       go_wp2_with fail
       go_ret
       exact ⟨rfl,G.out⟩
   · obtain rfl:false=b:=by simpa [h1] using hb
     clear hb
     go_enter Tryz.func28,Tryz.ntmps28
     go_wp2_with fail
     go_ret
     exact ⟨rfl,G.out⟩
 · obtain rfl:false=b:=by simpa using hb
   clear hb
   go_enter Tryz.func28,Tryz.ntmps28
   go_wp2_with fail
   go_ret
   exact ⟨rfl,G.out⟩
end Go.Proofs.YtllljngpgjkdiaaGreatDoor
