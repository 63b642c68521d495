/-
  Paths2 PsSegs SplLaw: see the remarks below.
-/
import Derived.Test.YtpphoeimakjjdaaGreatDoorMPaths
import Derived.Test.YtpphoeimakjjdaaGreatDoorShelfStr
import Derived.BigQuiet
import Derived.Deep.RegionWith
/-
  WALKS: layer 1: paths: Valid, Covers.
-/
namespace Go.Proofs.YtpphoeimakjjdaaGreatDoor
open Go.RowKit Go.Shelf

def pathOk (l:List UInt8):Bool:=l.isEmpty||(fineB l&&decide ((Lib.countByte l 47:Int)<4))
theorem count_any (s:ByteArray) (c:UInt8) (w:World):Calls Tryz.prog 172 #[.string s,.string ⟨#[c]⟩] w fun e w'=>e=.returned (.int .i64 (Lib.countByte s.data.toList c))∧w'=w:=Any.strings_Count_one Tryz.lays138 s c w

theorem pvalid_any (s:ByteArray) (hs:s.size≤9223372036854775807) (w:World):Calls Tryz.prog 152 #[.string s] w fun e w'=>e=.returned (.bool (pathOk s.data.toList))∧w'=w:=by
 cases h0:s.data.toList with
 | nil =>
   have h1:s.toList.isEmpty=true:=by rw [Lib.toList_data,h0];rfl
   have h2:pathOk []=true:=rfl
   rw [h2]
   clear h2
   go_enter Tryz.func152,Tryz.ntmps152
   go_wp2_with fail
   go_ret
   exact ⟨rfl,rfl⟩
 | cons x r =>
   have h1:s.toList.isEmpty=false:=by rw [Lib.toList_data,h0];rfl
   have h2:pathOk s.data.toList=(fineB s.data.toList&&decide ((Lib.countByte s.data.toList 47:Int)<4)):=by simp [pathOk,h0]
   rw [← h0,h2]
   clear h0 h2
   go_enter Tryz.func152,Tryz.ntmps152
   go_wp2_with fail
   refine (fine_any s hs _).mono ?_
   rintro e w' ⟨rfl,rfl⟩
   generalize hc:Lib.countByte s.data.toList 47=n
   cases hf:fineB s.data.toList
   · clear hc
     have HF:=hide hf
     clear hf
     go_wp2_with fail
     go_ret
     exact ⟨by rw [HF.out];rfl,rfl⟩
   · have HF:=hide hf
     have HC:=hide hc
     clear hf hc
     go_wp2_with fail
     refine (count_any s 47 _).mono ?_
     rintro e w' ⟨rfl,rfl⟩
     rw [HC.out]
     go_wp2_with fail
     go_ret
     exact ⟨by rw [HF.out,HC.out,Bool.true_and];rfl,rfl⟩

theorem fineGo_len (l:List UInt8):∀ n,n≤6→fineGo l n=true→l.length+n≤7 * Lib.countByte l 47+6:=by
 unfold Lib.countByte
 induction l with
 | nil=>intro n hn h;simp;omega
 | cons c r ih =>
   intro n hn h
   unfold fineGo at h
   rw [List.count_cons]
   by_cases q:(c.toNat:Int)=47
   · rw [if_pos q] at h
     have e:c=47:=by
      have:c.toNat=47:=by omega
      exact UInt8.toNat_inj.1 this
     have e2:(c==47)=true:=by rw [e];rfl
     by_cases h0:n=0
     · rw [if_pos h0] at h;cases h
     · rw [if_neg h0] at h
       have:=ih 0 (by omega) h
       rw [if_pos e2]
       simp
       omega
   · rw [if_neg q] at h
     have e2:¬ (c==47)=true:=by
      intro e
      have:c=47:=by simpa using e
      rw [this] at q
      exact q rfl
     rw [if_neg e2]
     by_cases hl:letter c.toNat=true
     · rw [if_pos hl] at h
       by_cases h6:6<n+1
       · rw [if_pos h6] at h;cases h
       · rw [if_neg h6] at h
         have:=ih (n+1) (by omega) h
         simp
         omega
     · rw [if_neg hl] at h;cases h
theorem pathOk_len {l:List UInt8} (h:pathOk l=true):l.length≤27:=by
 unfold pathOk at h
 rw [Bool.or_eq_true,Bool.and_eq_true] at h
 rcases h with h | ⟨h,h2⟩
 · have:l=[]:=by simpa using h
   rw [this];simp
 · have:=fineGo_len l 0 (by omega) h
   have h2:=of_decide_eq_true h2
   omega
end Go.Proofs.YtpphoeimakjjdaaGreatDoor
/-
  PLAIN LAWS, NO WALK: a path's segments; covers, by segments.
-/
namespace Go.Proofs.YtpphoeimakjjdaaGreatDoor
open Go.RowKit

abbrev Seg:=List UInt8
def split47:List UInt8→List Seg
 | []=>[[]]
 | c::r=>if c=47 then []::split47 r else (c::(split47 r).headD [])::(split47 r).tail
def segsOf (l:List UInt8):List Seg:=if l=[] then [] else split47 l
theorem split47_cons (c:UInt8) (r:List UInt8):split47 (c::r)=if c=47 then []::split47 r else (c::(split47 r).headD [])::(split47 r).tail:=rfl
theorem split47_ne (l:List UInt8):split47 l≠[]:=by
 cases l with
 | nil=>simp [split47]
 | cons c r=>unfold split47;split <;> simp
end Go.Proofs.YtpphoeimakjjdaaGreatDoor
/-
  PLAIN LAWS, NO WALK: the document's way to split a path, byte by byte.
-/
namespace Go.Proofs.YtpphoeimakjjdaaGreatDoor
open Go.RowKit

def lettersB (s:List UInt8):Bool:=s.all fun c=>letter c.toNat
def segB (s:List UInt8):Bool:=decide (1≤s.length∧s.length≤6)&&lettersB s
def splGo:List Seg→List UInt8→List UInt8→Option (List Seg)
 | D,cur,[]=>if D.length=4∨segB cur=false then none else some (D++[cur])
 | D,cur,c::r=>if (c.toNat:Int)=47 then (if D.length=4∨segB cur=false then none else splGo (D++[cur]) [] r) else splGo D (cur++[c]) r
def fineX (cur r:List UInt8):Bool:=decide (cur.length≤6)&&(lettersB cur&&fineGo r cur.length)
theorem is47 (c:UInt8):(c.toNat:Int)=47↔c=47:=by
 constructor
 · intro h
   have:c.toNat=47:=by omega
   exact UInt8.toNat_inj.1 this
 · intro h;subst h;rfl
theorem head_tail_split (r:List UInt8):(split47 r).headD []::(split47 r).tail=split47 r:=by
 cases h:split47 r with
 | nil=>exact absurd h (split47_ne r)
 | cons a b=>rfl
theorem fineX_nil (r:List UInt8):fineX [] r=fineGo r 0:=by simp [fineX,lettersB]
theorem fineX_end (cur:List UInt8):fineX cur []=segB cur:=by
 unfold segB fineX
 rw [show fineGo [] cur.length=decide (0<cur.length∧cur.length≤6) from rfl]
 rw [Bool.eq_iff_iff]
 simp only [Bool.and_eq_true,decide_eq_true_eq]
 constructor
 · rintro ⟨a,b,c,d⟩;exact ⟨⟨c,d⟩,b⟩
 · rintro ⟨⟨a,b⟩,c⟩;exact ⟨b,c,a,b⟩
theorem fineX_cut (cur r:List UInt8) (c:UInt8) (hc:(c.toNat:Int)=47):fineX cur (c::r)=(segB cur&&fineGo r 0):=by
 unfold fineX segB
 rw [show fineGo (c::r) cur.length=if cur.length=0 then false else fineGo r 0 by
  show (if (c.toNat:Int)=47 then _ else _)=_
  rw [if_pos hc]]
 generalize fineGo r 0=z
 by_cases h0:cur.length=0
 · rw [if_pos h0,h0];simp
 · rw [if_neg h0]
   by_cases h1:cur.length≤6 <;> cases lettersB cur <;> cases z <;> simp [h1] <;> omega
theorem fineX_go (cur r:List UInt8) (c:UInt8) (hc:¬ (c.toNat:Int)=47):fineX (cur++[c]) r=fineX cur (c::r):=by
 unfold fineX
 rw [show fineGo (c::r) cur.length=(if letter c.toNat then (if 6<cur.length+1 then false else fineGo r (cur.length+1)) else false) by
  show (if (c.toNat:Int)=47 then _ else _)=_
  rw [if_neg hc]]
 have hl:lettersB (cur++[c])=(lettersB cur&&letter c.toNat):=by simp [lettersB]
 rw [hl,List.length_append,List.length_singleton]
 generalize fineGo r (cur.length+1)=z
 by_cases hl2:letter c.toNat=true
 · rw [if_pos hl2,hl2,Bool.and_true]
   by_cases h6:cur.length+1≤6
   · rw [if_neg (by omega),decide_eq_true h6,decide_eq_true (show cur.length≤6 by omega)]
   · rw [if_pos (by omega),decide_eq_false h6]
     simp
 · rw [if_neg hl2]
   have:letter c.toNat=false:=by simpa using hl2
   rw [this]
   simp
theorem splGo_eq (r:List UInt8):∀ (D:List Seg) (cur:List UInt8),D.length≤4 →
 splGo D cur r=if D.length+Lib.countByte r 47<4∧fineX cur r=true then some (D++((cur++(split47 r).headD [])::(split47 r).tail)) else none:=by
 induction r with
 | nil =>
   intro D cur hD
   have e0:Lib.countByte [] 47=0:=rfl
   have e1:splGo D cur []=if D.length=4∨segB cur=false then none else some (D++[cur]):=rfl
   rw [e1,e0,fineX_end]
   by_cases h1:D.length=4
   · rw [if_pos (.inl h1),if_neg (fun x=>by have:=x.1;omega)]
   · cases h2:segB cur
     · rw [if_pos (.inr rfl),if_neg (fun x=>by cases x.2)]
     · rw [if_neg (by simp [h1]),if_pos ⟨by omega,rfl⟩]
       simp [split47]
 | cons c r ih =>
   intro D cur hD
   have e1:splGo D cur (c::r)=if (c.toNat:Int)=47 then (if D.length=4∨segB cur=false then none else splGo (D++[cur]) [] r) else splGo D (cur++[c]) r:=rfl
   have e0:Lib.countByte (c::r) 47=Lib.countByte r 47+if c=47 then 1 else 0:=by
    unfold Lib.countByte
    rw [List.count_cons]
    by_cases h:c=47 <;> simp [h]
   rw [e1,e0]
   by_cases hc:(c.toNat:Int)=47
   · have hc':=(is47 c).1 hc
     rw [if_pos hc,fineX_cut _ _ _ hc,if_pos hc',split47_cons,if_pos hc']
     by_cases h1:D.length=4
     · rw [if_pos (.inl h1),if_neg (fun x=>by have:=x.1;omega)]
     · cases h2:segB cur
       · rw [if_pos (.inr rfl),if_neg (fun x=>by simp at x)]
       · rw [if_neg (by simp [h1]),ih _ _ (by simp;omega),fineX_nil]
         have e:(D++[cur]).length+Lib.countByte r 47=D.length+(Lib.countByte r 47+1):=by simp;omega
         rw [e]
         simp only [Bool.true_and,List.nil_append,List.headD_cons,List.tail_cons,List.append_nil,head_tail_split,List.append_assoc,List.singleton_append]
   · have hc':¬ c=47:=fun e=>hc ((is47 c).2 e)
     rw [if_neg hc,if_neg hc',ih _ _ hD,split47_cons,if_neg hc',fineX_go _ _ _ hc]
     simp
theorem splGo_path {l:List UInt8} (h:l≠[]):splGo [] [] l=if pathOk l=true then some (segsOf l) else none:=by
 rw [splGo_eq l [] [] (by simp),fineX_nil]
 unfold segsOf pathOk fineB
 rw [if_neg h]
 have h2:l.isEmpty=false:=by simpa using h
 rw [h2]
 simp only [List.nil_append,head_tail_split,List.length_nil,Nat.zero_add,Bool.false_or,Bool.and_eq_true,decide_eq_true_eq]
 by_cases h3:Lib.countByte l 47<4
 · by_cases h4:fineGo l 0=true
   · rw [if_pos ⟨h3,h4⟩,if_pos ⟨h4,by omega⟩]
   · rw [if_neg (fun x=>h4 x.2),if_neg (fun x=>h4 x.1)]
 · rw [if_neg (fun x=>h3 x.1),if_neg (fun x=>h3 (by omega))]
end Go.Proofs.YtpphoeimakjjdaaGreatDoor
