/-
  Paths2 PsSegs PsLaw PsSpec PsTree: see the remarks below.
-/
import Derived.Test.YtllljngpgjkdiaaGreatDoorMPaths
import Derived.Test.YtllljngpgjkdiaaGreatDoorShelfStr
import Derived.BigQuiet
import Derived.Deep.RegionWith
import Derived.Lib.Bytealg
/-
  WALKS: layer 1: paths: Valid, Covers.
-/
namespace Go.Proofs.YtllljngpgjkdiaaGreatDoor
open Go.RowKit Go.Shelf

def pathOk (l:List UInt8):Bool:=l.isEmpty||(fineB l&&decide ((Lib.countByte l 47:Int)<4))
theorem count_any (s:ByteArray) (c:UInt8) (w:World):Calls Tryz.prog 76 #[.string s,.string ⟨#[c]⟩] w fun e w'=>e=.returned (.int .i64 (Lib.countByte s.data.toList c))∧w'=w:=Any.strings_Count_one Tryz.lays138 s c w
theorem prefix_any (s p:ByteArray) (w:World):Calls Tryz.prog 96 #[.string s,.string p] w fun e w'=>e=.returned (.bool (Lib.hasPrefix s.data.toList p.data.toList))∧w'=w:=Any.strings_HasPrefix Tryz.lays99 s p w

theorem pvalid_any (s:ByteArray) (hs:s.size≤9223372036854775807) (w:World):Calls Tryz.prog 32 #[.string s] w fun e w'=>e=.returned (.bool (pathOk s.data.toList))∧w'=w:=by
 cases h0:s.data.toList with
 | nil =>
   have h1:s.toList.isEmpty=true:=by rw [Lib.toList_data,h0];rfl
   have h2:pathOk []=true:=rfl
   rw [h2]
   clear h2
   go_enter Tryz.func32,Tryz.ntmps32
   go_wp2_with fail
   go_ret
   exact ⟨rfl,rfl⟩
 | cons x r =>
   have h1:s.toList.isEmpty=false:=by rw [Lib.toList_data,h0];rfl
   have h2:pathOk s.data.toList=(fineB s.data.toList&&decide ((Lib.countByte s.data.toList 47:Int)<4)):=by simp [pathOk,h0]
   rw [← h0,h2]
   clear h0 h2
   go_enter Tryz.func32,Tryz.ntmps32
   go_wp2_with fail
   refine (fine_any s hs _).mono ?_
   rintro e w' ⟨rfl,rfl⟩
   generalize hc:Lib.countByte s.data.toList 47=n
   cases hf:fineB s.data.toList
   · clear hc
     have HF:=hide hf
     clear hf
     go_wp2_with fail
     go_ret
     exact ⟨by rw [HF.out];rfl,rfl⟩
   · have HF:=hide hf
     have HC:=hide hc
     clear hf hc
     go_wp2_with fail
     refine (count_any s 47 _).mono ?_
     rintro e w' ⟨rfl,rfl⟩
     rw [HC.out]
     go_wp2_with fail
     go_ret
     exact ⟨by rw [HF.out,HC.out,Bool.true_and];rfl,rfl⟩

def coversB (p q:List UInt8):Bool:=pathOk p&&pathOk q&&(p.isEmpty||decide (p=q)||Lib.hasPrefix q (p++[47]))
theorem fineGo_len (l:List UInt8):∀ n,n≤6→fineGo l n=true→l.length+n≤7 * Lib.countByte l 47+6:=by
 unfold Lib.countByte
 induction l with
 | nil=>intro n hn h;simp;omega
 | cons c r ih =>
   intro n hn h
   unfold fineGo at h
   rw [List.count_cons]
   by_cases q:(c.toNat:Int)=47
   · rw [if_pos q] at h
     have e:c=47:=by
      have:c.toNat=47:=by omega
      exact UInt8.toNat_inj.1 this
     have e2:(c==47)=true:=by rw [e];rfl
     by_cases h0:n=0
     · rw [if_pos h0] at h;cases h
     · rw [if_neg h0] at h
       have:=ih 0 (by omega) h
       rw [if_pos e2]
       simp
       omega
   · rw [if_neg q] at h
     have e2:¬ (c==47)=true:=by
      intro e
      have:c=47:=by simpa using e
      rw [this] at q
      exact q rfl
     rw [if_neg e2]
     by_cases hl:letter c.toNat=true
     · rw [if_pos hl] at h
       by_cases h6:6<n+1
       · rw [if_pos h6] at h;cases h
       · rw [if_neg h6] at h
         have:=ih (n+1) (by omega) h
         simp
         omega
     · rw [if_neg hl] at h;cases h
theorem pathOk_len {l:List UInt8} (h:pathOk l=true):l.length≤27:=by
 unfold pathOk at h
 rw [Bool.or_eq_true,Bool.and_eq_true] at h
 rcases h with h | ⟨h,h2⟩
 · have:l=[]:=by simpa using h
   rw [this];simp
 · have:=fineGo_len l 0 (by omega) h
   have h2:=of_decide_eq_true h2
   omega
theorem covers_any (s t:ByteArray) (hs:s.size≤9223372036854775807) (ht:t.size≤9223372036854775807) (w:World):Calls Tryz.prog 66 #[.string s,.string t] w fun e w'=>e=.returned (.bool (coversB s.data.toList t.data.toList))∧w'=w:=by
 obtain ⟨b,hb⟩:∃ b,coversB s.data.toList t.data.toList=b:=⟨_,rfl⟩
 rw [hb]
 unfold coversB at hb
 have HB:=hide hb
 clear hb
 go_enter Tryz.func66,Tryz.ntmps66
 go_wp2_with fail
 refine (pvalid_any s hs _).mono ?_
 rintro e w' ⟨rfl,rfl⟩
 cases h1:pathOk s.data.toList
 · have hb:=HB.out
   rw [h1] at hb
   obtain rfl:false=b:=by simpa using hb
   clear hb h1 HB
   go_wp2_with fail
   go_ret
   exact ⟨rfl,rfl⟩
 · go_wp2_with fail
   refine (pvalid_any t ht _).mono ?_
   rintro e w' ⟨rfl,rfl⟩
   cases h2:pathOk t.data.toList
   · have hb:=HB.out
     rw [h1,h2] at hb
     obtain rfl:false=b:=by simpa using hb
     clear hb h1 h2 HB
     go_wp2_with fail
     go_ret
     exact ⟨rfl,rfl⟩
   · have hb:=HB.out
     rw [h1,h2] at hb
     simp only [Bool.and_self,Bool.true_and] at hb
     have hlen:s.size+1≤9223372036854775807:=by
      have:=pathOk_len h1
      rw [Lib.size_eq]
      omega
     have HB2:=hide hb
     clear h1 h2 HB hb
     cases h0:s.data.toList with
     | nil =>
       have h3:s.toList.isEmpty=true:=by rw [Lib.toList_data,h0];rfl
       have hb:=HB2.out
       rw [h0] at hb
       obtain rfl:true=b:=by simpa using hb
       clear h0 hb HB2
       go_wp2_with fail
       go_ret
       exact ⟨rfl,rfl⟩
     | cons x r =>
       have h3:s.toList.isEmpty=false:=by rw [Lib.toList_data,h0];rfl
       have hb:=HB2.out
       have h4:s.data.toList.isEmpty=false:=by rw [h0];rfl
       rw [h4,Bool.false_or] at hb
       clear h0 HB2 h4
       by_cases he:s.toList=t.toList
       · have he':=he
         rw [Lib.toList_data,Lib.toList_data] at he'
         rw [decide_eq_true he',Bool.true_or] at hb
         subst hb
         have hst:s=t:=by
          cases s;cases t
          simp only at he'
          congr 1
          exact Array.toList_inj.1 he'
         subst hst
         clear he' he ht
         go_wp2_with fail
         go_ret
         exact ⟨rfl,rfl⟩
       · have he':=he
         rw [Lib.toList_data,Lib.toList_data] at he'
         rw [decide_eq_false he',Bool.false_or] at hb
         have HB4:=hide hb
         have hbe:(s.toList==t.toList)=false:=by simpa using he
         clear he' hb
         go_wp2_with fail
         refine (prefix_any t _ _).mono ?_
         rintro e w' ⟨rfl,rfl⟩
         have e5:(s++{ data:=#[47] }:ByteArray).data.toList=s.data.toList++[47]:=by simp
         rw [e5,HB4.out]
         clear e5 HB4
         go_wp2_with fail
         go_ret
         exact ⟨rfl,rfl⟩
end Go.Proofs.YtllljngpgjkdiaaGreatDoor
/-
  PLAIN LAWS, NO WALK: a path's segments; covers, by segments.
-/
namespace Go.Proofs.YtllljngpgjkdiaaGreatDoor
open Go.RowKit

abbrev Seg:=List UInt8
def split47:List UInt8→List Seg
 | []=>[[]]
 | c::r=>if c=47 then []::split47 r else (c::(split47 r).headD [])::(split47 r).tail
def join47:List Seg→List UInt8
 | []=>[]
 | [s]=>s
 | s::t=>s++47::join47 t
def segsOf (l:List UInt8):List Seg:=if l=[] then [] else split47 l
theorem split47_cons (c:UInt8) (r:List UInt8):split47 (c::r)=if c=47 then []::split47 r else (c::(split47 r).headD [])::(split47 r).tail:=rfl
theorem split47_ne (l:List UInt8):split47 l≠[]:=by
 cases l with
 | nil=>simp [split47]
 | cons c r=>unfold split47;split <;> simp
theorem join47_cons {s:Seg} {t:List Seg} (h:t≠[]):join47 (s::t)=s++47::join47 t:=by
 cases t with
 | nil=>exact absurd rfl h
 | cons a b=>rfl
theorem join_split (l:List UInt8):join47 (split47 l)=l:=by
 induction l with
 | nil=>rfl
 | cons c r ih =>
   unfold split47
   by_cases hc:c=47
   · rw [if_pos hc,join47_cons (split47_ne r),ih,hc];rfl
   · rw [if_neg hc]
     have hne:=split47_ne r
     cases hs:split47 r with
     | nil=>exact absurd hs hne
     | cons a b =>
       rw [hs] at ih
       simp only [List.headD_cons,List.tail_cons]
       cases b with
       | nil=>simp only [join47] at ih ⊢;rw [ih]
       | cons d e=>rw [join47_cons (by simp)] at ih ⊢;rw [← ih];rfl
theorem join_append {a b:List Seg} (ha:a≠[]) (hb:b≠[]):join47 (a++b)=join47 a++47::join47 b:=by
 induction a with
 | nil=>exact absurd rfl ha
 | cons x r ih =>
   cases r with
   | nil=>rw [List.singleton_append,join47_cons hb];rfl
   | cons y z =>
     rw [List.cons_append,join47_cons (t:=y::z++b) (by simp),ih (by simp),join47_cons (t:=y::z) (by simp)]
     simp
theorem split_append (p r:List UInt8):split47 (p++47::r)=split47 p++split47 r:=by
 induction p with
 | nil=>simp [split47]
 | cons c q ih =>
   rw [List.cons_append,split47_cons,split47_cons]
   by_cases hc:c=47
   · rw [if_pos hc,if_pos hc,ih];rfl
   · rw [if_neg hc,if_neg hc,ih]
     have hne:=split47_ne q
     cases hs:split47 q with
     | nil=>exact absurd hs hne
     | cons a b=>simp
theorem split_inj {p q:List UInt8} (h:split47 p=split47 q):p=q:=by rw [← join_split p,← join_split q,h]
theorem split_prefix {p q:List UInt8}:split47 p <+: split47 q↔p=q∨Lib.hasPrefix q (p++[47])=true:=by
 constructor
 · rintro ⟨t,ht⟩
   cases t with
   | nil=>exact .inl (split_inj (by simpa using ht))
   | cons a b =>
     right
     have:q=p++47::join47 (a::b):=by
      rw [← join_split q,← ht,join_append (split47_ne p) (by simp),join_split]
     rw [this]
     simp [Lib.hasPrefix]
 · rintro (rfl | h)
   · exact List.prefix_refl _
   · have:∃ r,q=p++47::r:=by
      simp only [Lib.hasPrefix] at h
      obtain ⟨r,hr⟩:=List.isPrefixOf_iff_prefix.1 h
      exact ⟨r,by rw [← hr];simp⟩
     obtain ⟨r,rfl⟩:=this
     rw [split_append]
     exact List.prefix_append _ _
theorem segs_empty {l:List UInt8}:segsOf l=[]↔l=[]:=by
 unfold segsOf
 by_cases h:l=[]
 · simp [h]
 · rw [if_neg h];exact ⟨fun e=>absurd e (split47_ne l),fun e=>absurd e h⟩
theorem covers_segs {p q:List UInt8} (hp:pathOk p=true) (hq:pathOk q=true):coversB p q=true↔segsOf p <+: segsOf q:=by
 unfold coversB
 rw [hp,hq]
 simp only [Bool.and_self,Bool.true_and,Bool.or_eq_true,decide_eq_true_eq]
 by_cases h:p=[]
 · subst h;simp [segsOf]
 · have h1:¬ p.isEmpty=true:=by simpa using h
   by_cases h2:q=[]
   · subst h2
     constructor
     · rintro ((e | e) | e)
       · exact absurd e h1
       · exact absurd e h
       · simp [Lib.hasPrefix] at e
     · intro e
       have:segsOf p=[]:=by
        have:=e.length_le
        simp only [segsOf,if_pos] at this
        exact List.length_eq_zero_iff.1 (by simpa [segsOf] using this)
       exact absurd (segs_empty.1 this) h
   · unfold segsOf
     rw [if_neg h,if_neg h2,split_prefix]
     constructor
     · rintro ((e | e) | e)
       · exact absurd e h1
       · exact .inl e
       · exact .inr e
     · rintro (e | e)
       · exact .inl (.inr e)
       · exact .inr e
theorem split_length (l:List UInt8):(split47 l).length=Lib.countByte l 47+1:=by
 unfold Lib.countByte
 induction l with
 | nil=>rfl
 | cons c r ih =>
   unfold split47
   rw [List.count_cons]
   by_cases hc:c=47
   · rw [if_pos hc,List.length_cons,ih,hc];simp
   · rw [if_neg hc,List.length_cons,List.length_tail,ih,if_neg (by simpa using hc)];omega
theorem segs_length {l:List UInt8} (h:pathOk l=true):(segsOf l).length≤4:=by
 unfold segsOf
 by_cases h0:l=[]
 · simp [h0]
 · rw [if_neg h0,split_length]
   unfold pathOk at h
   rw [Bool.or_eq_true,Bool.and_eq_true] at h
   rcases h with h | ⟨_,h⟩
   · exact absurd (by simpa using h) h0
   · have:=of_decide_eq_true h;omega
end Go.Proofs.YtllljngpgjkdiaaGreatDoor
/-
  PLAIN LAWS, NO WALK: entries by segments: what lies at a place of the tree and below it.
-/
namespace Go.Proofs.YtllljngpgjkdiaaGreatDoor
open Go.RowKit

structure Ent where
 id:Int
 path:ByteArray
 mode:Int
 who:Int
deriving DecidableEq
def Ent.sg (e:Ent):List Seg:=segsOf e.path.data.toList
structure Nd where
 pre:List Seg
 b:Nat
 em:Nat
 cm:Nat
def kidsOf (N:List Nd) (p:List Seg):List Nd:=N.filter fun m=>decide (m.pre≠[]∧m.pre.dropLast=p)
def entsOf (l:List Ent) (p:List Seg):List Ent:=l.filter fun e=>decide (e.sg=p)
def belowL (l:List Ent) (p:List Seg):List Ent:=l.filter fun e=>decide (p <+: e.sg)
structure TrP (N:List Nd) (l:List Ent):Prop where
 one:N.Pairwise fun m n=>m.pre≠n.pre
 root:∃ n,n∈N∧n.pre=[]
 closed:∀ n,n∈N→n.pre≠[]→∃ m,m∈N∧m.pre=n.pre.dropLast
 home:∀ e,e∈l→∃ n,n∈N∧n.pre=e.sg
theorem TrP.up {N:List Nd} {l:List Ent} (h:TrP N l):∀ (k:Nat) (n:Nd),n∈N→n.pre.length=k→∀ p,p <+: n.pre→∃ m,m∈N∧m.pre=p:=by
 intro k
 induction k with
 | zero =>
   intro n hn hk p hp
   have:n.pre=[]:=List.length_eq_zero_iff.1 hk
   rw [this] at hp
   exact ⟨n,hn,by rw [this,List.prefix_nil.1 hp]⟩
 | succ k ih =>
   intro n hn hk p hp
   by_cases e:p=n.pre
   · exact ⟨n,hn,e.symm⟩
   · have hne:n.pre≠[]:=fun q=>by rw [q] at hk;simp at hk
     obtain ⟨m,hm,hmp⟩:=h.closed n hn hne
     refine ih m hm (by rw [hmp,List.length_dropLast];omega) p ?_
     rw [hmp]
     obtain ⟨t,ht⟩:=hp
     rcases List.eq_nil_or_concat t with rfl | ⟨u,x,rfl⟩
     · exact absurd (by simpa using ht) e
     · exact ⟨u,by rw [← ht,List.concat_eq_append,← List.append_assoc,List.dropLast_concat]⟩
theorem TrP.at_ {N:List Nd} {l:List Ent} (h:TrP N l) {e:Ent} (he:e∈l) {p:List Seg} (hp:p <+: e.sg):∃ m,m∈N∧m.pre=p:=by
 obtain ⟨n,hn,hp'⟩:=h.home e he
 exact h.up _ n hn rfl p (by rw [hp'];exact hp)
theorem mem_kids {N:List Nd} {p:List Seg} {m:Nd}:m∈kidsOf N p↔m∈N∧m.pre≠[]∧m.pre.dropLast=p:=by simp [kidsOf]
theorem kid_pre {N:List Nd} {p:List Seg} {m:Nd} (h:m∈kidsOf N p):∃ x,m.pre=p++[x]:=by
 obtain ⟨_,h1,h2⟩:=mem_kids.1 h
 exact ⟨m.pre.getLast h1,by rw [← h2,List.dropLast_concat_getLast]⟩
theorem pre_one {N:List Nd} (h:N.Pairwise fun m n=>m.pre≠n.pre) {m n:Nd} (hm:m∈N) (hn:n∈N) (e:m.pre=n.pre):m=n:=by
 induction N with
 | nil=>cases hm
 | cons z r ih =>
   have h':=List.pairwise_cons.1 h
   rcases List.mem_cons.1 hm with rfl | hm' <;> rcases List.mem_cons.1 hn with rfl | hn'
   · rfl
   · exact absurd e (h'.1 n hn')
   · exact absurd e.symm (h'.1 m hm')
   · exact ih h'.2 hm' hn'
theorem count_one {α:Type} (f:α→Bool):∀ (L:List α),L.Pairwise (fun a b=>¬ (f a=true∧f b=true))→L.countP f=if L.any f then 1 else 0:=by
 intro L
 induction L with
 | nil=>intro _;rfl
 | cons a r ih =>
   intro h
   have h':=List.pairwise_cons.1 h
   rw [List.countP_cons,ih h'.2,List.any_cons]
   cases hf:f a
   · simp
   · have:r.any f=false:=by
      rw [List.any_eq_false]
      intro b hb hfb
      exact h'.1 b hb ⟨hf,hfb⟩
     simp [this]
theorem filter_flat_perm {α β:Type} [DecidableEq α] {l:List α} {ms:List β} {p q:α→Bool} {r:β→α→Bool}
 (h:∀ e,e∈l→(if p e then 1 else 0)=(if q e then 1 else 0)+ms.countP (fun m=>r m e)):(l.filter p).Perm (l.filter q++ms.flatMap fun m=>l.filter (r m)):=by
 rw [List.perm_iff_count]
 intro a
 rw [List.count_append,List.count_flatMap]
 have cf:∀ f:α→Bool,List.count a (l.filter f)=if f a then List.count a l else 0:=by
  intro f
  by_cases hf:f a=true
  · rw [List.count_filter hf,if_pos hf]
  · rw [if_neg hf,List.count_eq_zero]
    intro hm
    exact hf (List.mem_filter.1 hm).2
 have hs:(ms.map (List.count a ∘ fun m=>l.filter (r m))).sum=ms.countP (fun m=>r m a) * List.count a l:=by
  induction ms with
  | nil=>simp
  | cons m t ih =>
    rw [List.map_cons,List.sum_cons,List.countP_cons]
    have ih':(t.map (List.count a ∘ fun m=>l.filter (r m))).sum=t.countP (fun m=>r m a) * List.count a l:=by
     clear h ih
     induction t with
     | nil=>simp
     | cons m2 t2 ih2 =>
       rw [List.map_cons,List.sum_cons,List.countP_cons,ih2]
       simp only [Function.comp,cf]
       split <;> simp [Nat.add_mul] <;> omega
    rw [ih']
    simp only [Function.comp,cf]
    split <;> simp [Nat.add_mul] <;> omega
 rw [hs,cf,cf]
 by_cases ha:a∈l
 · have:=h a ha
   cases hp:p a <;> cases hq:q a <;> simp only [hp,hq,if_true,if_false,Bool.false_eq_true] at this ⊢
   · rw [show ms.countP (fun m=>r m a)=0 by omega];simp
   · omega
   · rw [show ms.countP (fun m=>r m a)=1 by omega];simp
   · rw [show ms.countP (fun m=>r m a)=0 by omega];simp
 · have:List.count a l=0:=List.count_eq_zero.2 ha
   rw [this];simp
theorem below_perm {N:List Nd} {l:List Ent} (h:TrP N l) (p:List Seg):(belowL l p).Perm (entsOf l p++(kidsOf N p).flatMap fun m=>belowL l m.pre):=by
 unfold belowL entsOf
 refine filter_flat_perm fun e he=>?_
 rw [count_one]
 · by_cases h1:e.sg=p
   · have hany:(kidsOf N p).any (fun m=>decide (m.pre <+: e.sg))=false:=by
      rw [List.any_eq_false]
      intro m hm hd
      obtain ⟨x,hx⟩:=kid_pre hm
      have:=(of_decide_eq_true hd).length_le
      rw [hx,h1] at this
      simp at this
      omega
     rw [hany,h1]
     simp
   · by_cases h2:p <+: e.sg
     · have hany:(kidsOf N p).any (fun m=>decide (m.pre <+: e.sg))=true:=by
        obtain ⟨t,ht⟩:=h2
        cases t with
        | nil=>exact absurd (by simpa using ht.symm) h1
        | cons x u =>
          have hpx:p++[x] <+: e.sg:=⟨u,by rw [← ht];simp⟩
          obtain ⟨m,hm,hmp⟩:=h.at_ he hpx
          rw [List.any_eq_true]
          exact ⟨m,mem_kids.2 ⟨hm,by rw [hmp];simp,by rw [hmp,List.dropLast_concat]⟩,by rw [hmp];simpa using hpx⟩
       rw [hany]
       simp [h1,h2]
     · have hany:(kidsOf N p).any (fun m=>decide (m.pre <+: e.sg))=false:=by
        rw [List.any_eq_false]
        intro m hm hd
        obtain ⟨x,hx⟩:=kid_pre hm
        exact h2 ((by rw [hx];exact List.prefix_append _ _:p <+: m.pre).trans (of_decide_eq_true hd))
       rw [hany]
       simp [h1,h2]
 · have hk:(kidsOf N p).Pairwise fun m n=>m.pre≠n.pre:=h.one.filter _
   refine hk.imp_of_mem fun {m n} hm hn hne hb=>hne ?_
   obtain ⟨x,hx⟩:=kid_pre hm
   obtain ⟨y,hy⟩:=kid_pre hn
   have h1:=of_decide_eq_true hb.1
   have h2:=of_decide_eq_true hb.2
   rw [hx] at h1 ⊢
   rw [hy] at h2 ⊢
   exact List.IsPrefix.eq_of_length (List.prefix_of_prefix_length_le h1 h2 (by simp)) (by simp)
/-! ### the tree grows and is pruned -/
theorem TrP.grow {N:List Nd} {l:List Ent} (h:TrP N l) {m:Nd} (hm:∀ n,n∈N→n.pre≠m.pre) (hp:∃ q,q∈N∧q.pre=m.pre.dropLast):TrP (m::N) l:=by
 refine ⟨List.pairwise_cons.2 ⟨fun n hn=>(hm n hn).symm,h.one⟩,?_,fun n hn hne=>?_,fun e he=>?_⟩
 · obtain ⟨n,hn,e⟩:=h.root
   exact ⟨n,List.mem_cons_of_mem _ hn,e⟩
 · rcases List.mem_cons.1 hn with rfl | hn
   · obtain ⟨q,hq,e⟩:=hp
     exact ⟨q,List.mem_cons_of_mem _ hq,e⟩
   · obtain ⟨q,hq,e⟩:=h.closed n hn hne
     exact ⟨q,List.mem_cons_of_mem _ hq,e⟩
 · obtain ⟨n,hn,e⟩:=h.home e he
   exact ⟨n,List.mem_cons_of_mem _ hn,e⟩
theorem TrP.put {N:List Nd} {l l':List Ent} (h:TrP N l) {e:Ent} (he:∃ n,n∈N∧n.pre=e.sg) (hl:∀ x,x∈l'→x=e∨x∈l):TrP N l' :=
 ⟨h.one,h.root,h.closed,fun x hx=>by
   rcases hl x hx with rfl | hx
   · exact he
   · exact h.home x hx⟩
theorem TrP.sub {N:List Nd} {l l':List Ent} (h:TrP N l) (hl:∀ x,x∈l'→x∈l):TrP N l':=⟨h.one,h.root,h.closed,fun x hx=>h.home x (hl x hx)⟩
def cutN (N:List Nd) (p:List Seg):List Nd:=N.filter fun n=>decide (n.pre≠p)
theorem mem_cutN {N:List Nd} {p:List Seg} {n:Nd}:n∈cutN N p↔n∈N∧n.pre≠p:=by simp [cutN]
theorem TrP.cut {N:List Nd} {l:List Ent} (h:TrP N l) {p:List Seg} (hne:p≠[]) (h1:entsOf l p=[]) (h2:kidsOf N p=[]):TrP (cutN N p) l:=by
 refine ⟨h.one.filter _,?_,fun n hn hn0=>?_,fun e he=>?_⟩
 · obtain ⟨n,hn,e⟩:=h.root
   exact ⟨n,mem_cutN.2 ⟨hn,fun q=>hne (by rw [← q,e])⟩,e⟩
 · obtain ⟨q,hq,e⟩:=h.closed n (mem_cutN.1 hn).1 hn0
   refine ⟨q,mem_cutN.2 ⟨hq,fun x=>?_⟩,e⟩
   have:n∈kidsOf N p:=mem_kids.2 ⟨(mem_cutN.1 hn).1,hn0,by rw [← e,x]⟩
   rw [h2] at this
   cases this
 · obtain ⟨n,hn,q⟩:=h.home e he
   refine ⟨n,mem_cutN.2 ⟨hn,fun x=>?_⟩,q⟩
   have:e∈entsOf l p:=List.mem_filter.2 ⟨he,by rw [← x,q];simp⟩
   rw [h1] at this
   cases this
theorem kids_cut (N:List Nd) (p q:List Seg):kidsOf (cutN N p) q=(kidsOf N q).filter fun n=>decide (n.pre≠p):=by
 unfold kidsOf cutN
 rw [List.filter_filter,List.filter_filter]
 exact List.filter_congr fun x _=>Bool.and_comm _ _
theorem kids_cons (m:Nd) (N:List Nd) (q:List Seg):kidsOf (m::N) q=if m.pre≠[]∧m.pre.dropLast=q then m::kidsOf N q else kidsOf N q:=by
 unfold kidsOf
 rw [List.filter_cons]
 by_cases h:m.pre≠[]∧m.pre.dropLast=q
 · rw [if_pos (by simpa using h),if_pos h]
 · rw [if_neg (by simpa using h),if_neg h]
theorem kids_fresh {N:List Nd} {l:List Ent} (h:TrP N l) {p:List Seg} (hp:∀ n,n∈N→n.pre≠p):kidsOf N p=[]:=by
 refine List.filter_eq_nil_iff.2 fun m hm hd=>?_
 obtain ⟨h0,h1⟩:=of_decide_eq_true hd
 obtain ⟨q,hq,e⟩:=h.closed m hm h0
 exact hp q hq (by rw [e,h1])
theorem ents_fresh {N:List Nd} {l:List Ent} (h:TrP N l) {p:List Seg} (hp:∀ n,n∈N→n.pre≠p):entsOf l p=[]:=by
 refine List.filter_eq_nil_iff.2 fun e he hd=>?_
 obtain ⟨n,hn,q⟩:=h.home e he
 exact hp n hn (by rw [q,of_decide_eq_true hd])
def Pruned (N:List Nd) (l:List Ent):Prop:=∀ n,n∈N→n.pre≠[]→∃ e,e∈l∧n.pre <+: e.sg
structure Prn (N:List Nd) (l:List Ent) (p:List Seg) (N':List Nd):Prop where
 tr:TrP N' l
 sub:∀ n,n∈N'→n∈N
 keep:∀ n,n∈N→¬ (p <+: n.pre∧n.pre≠p)→n∈N'
 has:∀ n,n∈N'→p <+: n.pre→n.pre≠p→∃ e,e∈l∧n.pre <+: e.sg
theorem Prn.base {N:List Nd} {l l':List Ent} {p:List Seg} (hT:TrP N l) (hP:Pruned N l) (hs:∀ x,x∈l'→x∈l) (hl:∀ x,x∈l→x∈l'∨x.sg=p):Prn N l' p N:=by
 refine ⟨hT.sub hs,fun _ h=>h,fun _ h _=>h,fun n hn hp hne=>?_⟩
 have hn0:n.pre≠[]:=fun e=>hne (by rw [e] at hp ⊢;exact (List.prefix_nil.1 hp).symm)
 obtain ⟨e,he,q⟩:=hP n hn hn0
 refine ⟨e,(hl e he).resolve_right fun h=>?_,q⟩
 rw [h] at q
 exact hne (List.IsPrefix.eq_of_length q (Nat.le_antisymm q.length_le hp.length_le))
theorem Prn.step {N N1:List Nd} {l l':List Ent} {p s:List Seg} {x:Seg} (hP:Pruned N l) (hl:∀ y,y∈l→y∈l'∨y.sg=s) (hs:p++[x] <+: s) (h:Prn N l' (p++[x]) N1) :
 ((entsOf l' (p++[x])=[]∧kidsOf N1 (p++[x])=[])→Prn N l' p (cutN N1 (p++[x])))∧(¬ (entsOf l' (p++[x])=[]∧kidsOf N1 (p++[x])=[])→Prn N l' p N1):=by
 have hpx:p <+: p++[x]:=List.prefix_append _ _
 have hne:p++[x]≠p:=fun e=>by have:=congrArg List.length e;simp at this
 -- below p, but neither at p ++ [x] nor below it
 have aside:∀ n,n∈N1→p <+: n.pre→n.pre≠p→n.pre≠p++[x]→∃ e,e∈l'∧n.pre <+: e.sg:=by
  intro n hn hp h0 h1
  by_cases q:p++[x] <+: n.pre
  · exact h.has n hn q h1
  · have hn0:n.pre≠[]:=fun e=>h0 (by rw [e] at hp ⊢;exact (List.prefix_nil.1 hp).symm)
    obtain ⟨e,he,q2⟩:=hP n (h.sub n hn) hn0
    refine ⟨e,(hl e he).resolve_right fun h2=>?_,q2⟩
    rw [h2] at q2
    rcases List.prefix_or_prefix_of_prefix q2 hs with q3 | q3
    · rcases List.prefix_concat_iff.1 q3 with e | q4
      · exact h1 e
      · exact h0 (List.IsPrefix.eq_of_length q4 (Nat.le_antisymm q4.length_le hp.length_le))
    · exact q q3
 have keep:∀ n,n∈N→¬ (p <+: n.pre∧n.pre≠p)→n∈N1∧n.pre≠p++[x]:=by
  intro n hn hno
  exact ⟨h.keep n hn fun hx=>hno ⟨hpx.trans hx.1,fun e=>by
   have:=hx.1.length_le
   rw [e] at this
   simp at this
   omega⟩,fun e=>hno ⟨by rw [e];exact hpx,by rw [e];exact hne⟩⟩
 constructor
 · rintro ⟨h1,h2⟩
   refine ⟨h.tr.cut (by simp) h1 h2,fun n hn=>h.sub n (mem_cutN.1 hn).1,fun n hn hno=>mem_cutN.2 (keep n hn hno),fun n hn hp h0=>?_⟩
   obtain ⟨hn1,hn2⟩:=mem_cutN.1 hn
   exact aside n hn1 hp h0 hn2
 · intro hno
   refine ⟨h.tr,h.sub,fun n hn q=>(keep n hn q).1,fun n hn hp h0=>?_⟩
   by_cases e:n.pre=p++[x]
   · by_cases h1:entsOf l' (p++[x])=[]
     · have h2:kidsOf N1 (p++[x])≠[]:=fun h2=>hno ⟨h1,h2⟩
       obtain ⟨m,hm⟩:=List.exists_mem_of_ne_nil _ h2
       obtain ⟨y,hy⟩:=kid_pre hm
       obtain ⟨e1,he1,q⟩:=h.has m (mem_kids.1 hm).1 (by rw [hy];exact List.prefix_append _ _) (fun e=>by rw [hy] at e;have:=congrArg List.length e;simp at this)
       exact ⟨e1,he1,(by rw [e,hy];exact List.prefix_append _ _:n.pre <+: m.pre).trans q⟩
     · obtain ⟨e1,he1⟩:=List.exists_mem_of_ne_nil _ h1
       have:=List.mem_filter.1 he1
       exact ⟨e1,this.1,by rw [e,of_decide_eq_true this.2];exact List.prefix_refl _⟩
   · exact aside n hn hp h0 e
end Go.Proofs.YtllljngpgjkdiaaGreatDoor
/-
  PLAIN LAWS, NO WALK: entries in List's order; what the calls on a set make of them.
-/
namespace Go.Proofs.YtllljngpgjkdiaaGreatDoor
open Go.RowKit

/-! ### the order of bytes -/
abbrev cmpB (a b:List UInt8):Int:=Lib.compareBytes a b
theorem cmpB_cons (x y:UInt8) (a b:List UInt8):cmpB (x::a) (y::b)=if x<y then -1 else if y<x then 1 else cmpB a b:=rfl
theorem cmpB_cases:∀ (a b:List UInt8),cmpB a b = -1∨cmpB a b=0∨cmpB a b=1
 | [],[]=>.inr (.inl rfl)
 | [],_::_=>.inl rfl
 | _::_,[]=>.inr (.inr rfl)
 | x::a,y::b=>by
   rw [cmpB_cons]
   by_cases h1:x<y
   · rw [if_pos h1];exact .inl rfl
   · by_cases h2:y<x
     · rw [if_neg h1,if_pos h2];exact .inr (.inr rfl)
     · rw [if_neg h1,if_neg h2];exact cmpB_cases a b
theorem cmpB_zero:∀ {a b:List UInt8},cmpB a b=0↔a=b
 | [],[]=>by simp [cmpB,Lib.compareBytes]
 | [],_::_=>by simp [cmpB,Lib.compareBytes]
 | _::_,[]=>by simp [cmpB,Lib.compareBytes]
 | x::a,y::b=>by
   have ih:=cmpB_zero (a:=a) (b:=b)
   rw [cmpB_cons]
   by_cases h1:x<y
   · rw [if_pos h1]
     exact ⟨fun h=>by omega,fun e=>absurd h1 (by rw [List.cons.inj e |>.1];exact UInt8.lt_irrefl _)⟩
   · by_cases h2:y<x
     · rw [if_neg h1,if_pos h2]
       exact ⟨fun h=>by omega,fun e=>absurd h2 (by rw [List.cons.inj e |>.1];exact UInt8.lt_irrefl _)⟩
     · have:x=y:=UInt8.le_antisymm (UInt8.not_lt.1 h2) (UInt8.not_lt.1 h1)
       rw [if_neg h1,if_neg h2,ih,this]
       simp
theorem cmpB_neg:∀ (a b:List UInt8),cmpB b a = - cmpB a b
 | [],[]=>rfl
 | [],_::_=>rfl
 | _::_,[]=>rfl
 | x::a,y::b=>by
   have ih:=cmpB_neg a b
   rw [cmpB_cons,cmpB_cons]
   by_cases h1:x<y
   · have h2:¬ y<x:=fun h=>UInt8.lt_irrefl _ (UInt8.lt_trans h1 h)
     rw [if_neg h2,if_pos h1,if_pos h1];rfl
   · by_cases h2:y<x
     · rw [if_pos h2,if_neg h1,if_pos h2]
     · rw [if_neg h1,if_neg h2,if_neg h1,if_neg h2];exact ih
theorem cmpB_tr:∀ {a b c:List UInt8},cmpB a b<0→cmpB b c<0→cmpB a c<0
 | [],[],_,h,_=>by simp [cmpB,Lib.compareBytes] at h
 | [],_::_,[],_,h=>by simp [cmpB,Lib.compareBytes] at h
 | [],_::_,_::_,_,_=>by simp [cmpB,Lib.compareBytes]
 | _::_,[],_,h,_=>by simp [cmpB,Lib.compareBytes] at h
 | _::_,_::_,[],_,h=>by simp [cmpB,Lib.compareBytes] at h
 | x::a,y::b,z::c,h1,h2=>by
   have ih:=@cmpB_tr a b c
   rw [cmpB_cons] at h1 h2 ⊢
   by_cases e1:x<y
   · by_cases e2:y<z
     · rw [if_pos (UInt8.lt_trans e1 e2)];decide
     · rw [if_neg e2] at h2
       by_cases e3:z<y
       · rw [if_pos e3] at h2;omega
       · have:y=z:=UInt8.le_antisymm (UInt8.not_lt.1 e3) (UInt8.not_lt.1 e2)
         rw [if_pos (this ▸ e1)];decide
   · rw [if_neg e1] at h1
     by_cases e1':y<x
     · rw [if_pos e1'] at h1;omega
     · rw [if_neg e1'] at h1
       have exy:x=y:=UInt8.le_antisymm (UInt8.not_lt.1 e1') (UInt8.not_lt.1 e1)
       subst exy
       by_cases e2:x<z
       · rw [if_pos e2];decide
       · rw [if_neg e2] at h2 ⊢
         by_cases e3:z<x
         · rw [if_pos e3] at h2;omega
         · rw [if_neg e3] at h2 ⊢;exact ih h1 h2
/-! ### entries in order -/
def Ent.bs (e:Ent):List UInt8:=e.path.data.toList
def ltE (a b:Ent):Prop:=cmpB a.bs b.bs<0∨(a.bs=b.bs∧a.id<b.id)
instance (a b:Ent):Decidable (ltE a b):=by unfold ltE;exact inferInstance
theorem ltE_tr {a b c:Ent} (h:ltE a b) (k:ltE b c):ltE a c:=by
 unfold ltE at *
 rcases h with h | ⟨h,h'⟩ <;> rcases k with k | ⟨k,k'⟩
 · exact .inl (cmpB_tr h k)
 · rw [← k];exact .inl h
 · rw [h];exact .inl k
 · exact .inr ⟨h.trans k,by omega⟩
theorem ltE_tot {a b:Ent} (h:¬ ltE a b) (k:a.id≠b.id):ltE b a:=by
 unfold ltE at *
 rw [not_or] at h
 obtain ⟨h1,h2⟩:=h
 rcases cmpB_cases a.bs b.bs with e | e | e
 · omega
 · have:=cmpB_zero.1 e
   rw [not_and] at h2
   have:=h2 this
   exact .inr ⟨(cmpB_zero.1 e).symm,by omega⟩
 · exact .inl (by rw [cmpB_neg,e];decide)
def SrtE (l:List Ent):Prop:=l.Pairwise ltE
def insE (e:Ent):List Ent→List Ent
 | []=>[e]
 | x::r=>if ltE x e then x::insE e r else e::x::r
theorem insE_perm (e:Ent) (l:List Ent):(insE e l).Perm (e::l):=by
 induction l with
 | nil=>exact .refl _
 | cons x r ih =>
   unfold insE
   split
   · exact (List.Perm.cons x ih).trans (List.Perm.swap e x r)
   · exact .refl _
theorem mem_insE {e x:Ent} {l:List Ent}:x∈insE e l↔x=e∨x∈l:=by rw [(insE_perm e l).mem_iff,List.mem_cons]
theorem insE_srt {e:Ent} {l:List Ent} (h:SrtE l) (hid:∀ x,x∈l→x.id≠e.id):SrtE (insE e l):=by
 induction l with
 | nil=>exact List.pairwise_cons.2 ⟨by simp,List.Pairwise.nil⟩
 | cons x r ih =>
   have h':=List.pairwise_cons.1 h
   unfold insE
   by_cases hx:ltE x e
   · rw [if_pos hx]
     refine List.pairwise_cons.2 ⟨fun y hy=>?_,ih h'.2 fun y hy=>hid y (List.mem_cons_of_mem _ hy)⟩
     rcases mem_insE.1 hy with rfl | hy
     · exact hx
     · exact h'.1 y hy
   · rw [if_neg hx]
     have hex:=ltE_tot hx (hid x List.mem_cons_self)
     refine List.pairwise_cons.2 ⟨fun y hy=>?_,h⟩
     rcases List.mem_cons.1 hy with rfl | hy
     · exact hex
     · exact ltE_tr hex (h'.1 y hy)
/-! ### the calls -/
def modE (m:Int):Bool:=decide (m=1)||decide (m=2)
def hasId (l:List Ent) (id:Int):Bool:=l.any fun e=>decide (e.id=id)
def putS5 (l:List Ent) (e:Ent):List Ent × Int :=
 if pathOk e.bs=false then (l,10) else if modE e.mode=false then (l,11) else if hasId l e.id then (l,50) else if l.length=64 then (l,51) else (insE e l,0)
def dropS5 (l:List Ent) (id:Int):List Ent:=l.filter fun e=>decide (e.id≠id)
def getS5 (l:List Ent) (id:Int):Option Ent:=l.find? fun e=>decide (e.id=id)
def sortI (l:List Int):List Int:=l.mergeSort fun x y=>decide (x≤y)
def overS5 (l:List Ent) (p:List UInt8):List Int:=sortI ((l.filter fun e=>coversB e.bs p).map Ent.id)
def underS5 (l:List Ent) (p:List UInt8):List Int:=sortI ((l.filter fun e=>coversB p e.bs).map Ent.id)
def standsB (p:List UInt8) (m who:Int) (e:Ent):Bool:=modE m&&(coversB e.bs p||coversB p e.bs)&&decide (e.who≠who)&&(decide (m=2)||decide (e.mode=2))
def clashS5 (l:List Ent) (p:List UInt8) (m who:Int):List Int:=sortI ((l.filter (standsB p m who)).map Ent.id)
theorem sortI_srt (l:List Int):(sortI l).Pairwise (· ≤ ·):=by
 have:=List.pairwise_mergeSort (le:=fun x y:Int=>decide (x≤y)) (fun a b c h1 h2=>by simp at h1 h2 ⊢;omega) (fun a b=>by simp;omega) l
 exact this.imp fun h=>by simpa using h
theorem sortI_perm (l:List Int):(sortI l).Perm l:=List.mergeSort_perm _ _
theorem sortI_eq {l m:List Int} (hm:m.Pairwise (· ≤ ·)) (p:m.Perm l):sortI l=m:=by
 have hs:=sortI_srt l
 have hp:(sortI l).Perm m:=(sortI_perm l).trans p.symm
 exact hp.eq_of_pairwise (fun a b _ _ h1 h2=>Int.le_antisymm h1 h2) hs hm
theorem sortI_congr {l m:List Int} (p:l.Perm m):sortI l=sortI m:=sortI_eq (sortI_srt m) ((sortI_perm m).trans p.symm)
end Go.Proofs.YtllljngpgjkdiaaGreatDoor
/-
  PLAIN LAWS, NO WALK: what the walks down the tree collect is what the document's lists say.
-/
namespace Go.Proofs.YtllljngpgjkdiaaGreatDoor
open Go.RowKit

theorem take_inj {s:List Seg} {i j:Nat} (hi:i≤s.length) (hj:j≤s.length) (e:s.take i=s.take j):i=j:=by
 have:=congrArg List.length e
 rw [List.length_take,List.length_take] at this
 omega
theorem range_one {s:List Seg} (e:Ent) (n:Nat) (hn:n≤s.length+1):(List.range n).Pairwise fun i j=>¬ ((decide (e.sg=s.take i))=true∧(decide (e.sg=s.take j))=true):=by
 refine (List.pairwise_lt_range (n:=n)).imp_of_mem fun {i j} hi hj hlt h=>?_
 have h1:=of_decide_eq_true h.1
 have h2:=of_decide_eq_true h.2
 have:=List.mem_range.1 hi
 have:=List.mem_range.1 hj
 have:=take_inj (s:=s) (by omega) (by omega) (h1.symm.trans h2)
 omega
theorem over_perm (l:List Ent) (s:List Seg):(l.filter fun e=>decide (e.sg <+: s)).Perm ((List.range (s.length+1)).flatMap fun i=>entsOf l (s.take i)):=by
 have h:=filter_flat_perm (l:=l) (ms:=List.range (s.length+1)) (p:=fun e=>decide (e.sg <+: s)) (q:=fun _=>false) (r:=fun i e=>decide (e.sg=s.take i)) (fun e _=>by
  rw [count_one _ _ (range_one e _ (Nat.le_refl _))]
  by_cases hp:e.sg <+: s
  · have:(List.range (s.length+1)).any (fun i=>decide (e.sg=s.take i))=true:=by
     rw [List.any_eq_true]
     exact ⟨e.sg.length,List.mem_range.2 (by have:=hp.length_le;omega),by rw [decide_eq_true_eq];exact List.prefix_iff_eq_take.1 hp⟩
    simp [hp,this]
  · have:(List.range (s.length+1)).any (fun i=>decide (e.sg=s.take i))=false:=by
     rw [List.any_eq_false]
     intro i _ hd
     exact hp (by rw [of_decide_eq_true hd];exact List.take_prefix _ _)
    simp [hp,this])
 rw [List.filter_eq_nil_iff.2 (fun _ _=>Bool.false_ne_true),List.nil_append] at h
 exact h
theorem lap_perm (l:List Ent) (s:List Seg):(l.filter fun e=>decide (e.sg <+: s∨s <+: e.sg)).Perm (((List.range s.length).flatMap fun i=>entsOf l (s.take i))++belowL l s):=by
 have h:=filter_flat_perm (l:=l) (ms:=List.range s.length) (p:=fun e=>decide (e.sg <+: s∨s <+: e.sg)) (q:=fun e=>decide (s <+: e.sg)) (r:=fun i e=>decide (e.sg=s.take i)) (fun e _=>by
  rw [count_one _ _ (range_one e _ (Nat.le_succ _))]
  by_cases hq:s <+: e.sg
  · have:(List.range s.length).any (fun i=>decide (e.sg=s.take i))=false:=by
     rw [List.any_eq_false]
     intro i hi hd
     have h1:=hq.length_le
     rw [of_decide_eq_true hd,List.length_take] at h1
     have:=List.mem_range.1 hi
     omega
    simp [hq,this]
  · by_cases hp:e.sg <+: s
    · have:(List.range s.length).any (fun i=>decide (e.sg=s.take i))=true:=by
       rw [List.any_eq_true]
       refine ⟨e.sg.length,List.mem_range.2 (Nat.lt_of_le_of_ne hp.length_le fun h=>hq ?_),by rw [decide_eq_true_eq];exact List.prefix_iff_eq_take.1 hp⟩
       rw [List.IsPrefix.eq_of_length hp h]
       exact List.prefix_refl _
      simp [hq,hp,this]
    · have:(List.range s.length).any (fun i=>decide (e.sg=s.take i))=false:=by
       rw [List.any_eq_false]
       intro i _ hd
       exact hp (by rw [of_decide_eq_true hd];exact List.take_prefix _ _)
      simp [hq,hp,this])
 exact h.trans List.perm_append_comm
theorem TrP.miss {N:List Nd} {l:List Ent} (h:TrP N l) {p:List Seg} (hp:∀ n,n∈N→n.pre≠p) {q:List Seg} (hq:p <+: q):entsOf l q=[]∧belowL l q=[]:=by
 have key:∀ e,e∈l→¬ q <+: e.sg:=fun e he hqe=>by
  obtain ⟨m,hm,hmp⟩:=h.at_ he (hq.trans hqe)
  exact hp m hm hmp
 refine ⟨List.filter_eq_nil_iff.2 fun e he hd=>key e he (by rw [of_decide_eq_true hd];exact List.prefix_refl _),List.filter_eq_nil_iff.2 fun e he hd=>key e he (of_decide_eq_true hd)⟩
theorem flat_miss {N:List Nd} {l:List Ent} (h:TrP N l) {s:List Seg} {k n:Nat} (hk:k≤n) (hn:n≤s.length+1) (hp:∀ m,m∈N→m.pre≠s.take k):((List.range n).flatMap fun i=>entsOf l (s.take i))=(List.range k).flatMap fun i=>entsOf l (s.take i):=by
 obtain ⟨d,rfl⟩:∃ d,n=k+d:=⟨n - k,by omega⟩
 rw [List.range_add,List.flatMap_append]
 have:(List.map (fun x=>k+x) (List.range d)).flatMap (fun i=>entsOf l (s.take i))=[]:=by
  rw [List.flatMap_eq_nil_iff]
  intro i hi
  obtain ⟨j,hj,rfl⟩:=List.mem_map.1 hi
  refine (h.miss hp ?_).1
  exact List.prefix_of_prefix_length_le (List.take_prefix _ _) (List.take_prefix _ _) (by rw [List.length_take,List.length_take];omega)
 rw [this,List.append_nil]
/-! ### covers, by segments, among paths that are fine -/
theorem under_filter {l:List Ent} (hl:∀ e,e∈l→pathOk e.bs=true) {p:List UInt8} (hp:pathOk p=true):(l.filter fun e=>coversB p e.bs)=belowL l (segsOf p) :=
 List.filter_congr fun e he=>by rw [Bool.eq_iff_iff,covers_segs hp (hl e he),decide_eq_true_eq];rfl
theorem clash_filter {l:List Ent} (hl:∀ e,e∈l→pathOk e.bs=true) {p:List UInt8} (hp:pathOk p=true) {m who:Int} (hm:modE m=true) :
 (l.filter (standsB p m who))=(l.filter fun e=>decide (e.sg <+: segsOf p∨segsOf p <+: e.sg)).filter fun e=>decide (e.who≠who)&&(decide (m=2)||decide (e.mode=2)):=by
 rw [List.filter_filter]
 refine List.filter_congr fun e he=>?_
 unfold standsB
 rw [hm,Bool.true_and]
 have:(coversB e.bs p||coversB p e.bs)=decide (e.sg <+: segsOf p∨segsOf p <+: e.sg):=by
  rw [Bool.eq_iff_iff,Bool.or_eq_true,covers_segs (hl e he) hp,covers_segs hp (hl e he),decide_eq_true_eq];rfl
 rw [this]
 cases decide (e.sg <+: segsOf p∨segsOf p <+: e.sg) <;> simp
end Go.Proofs.YtllljngpgjkdiaaGreatDoor
