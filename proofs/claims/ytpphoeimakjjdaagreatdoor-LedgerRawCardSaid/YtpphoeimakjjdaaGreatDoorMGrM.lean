/-
  LedRf2 Book BookW1 BookW2 GrM: see the remarks below.
-/
import Derived.Test.YtpphoeimakjjdaaGreatDoorMSplLaw
import Derived.Test.YtpphoeimakjjdaaGreatDoorMLedRf1
import Derived.Test.YtpphoeimakjjdaaGreatDoorMAppend
import Derived.Test.YtpphoeimakjjdaaGreatDoorMDecB
import Derived.Test.YtpphoeimakjjdaaGreatDoorMBytes
import Derived.StillTailTactics
import Derived.Test.YtpphoeimakjjdaaGreatDoorMTerm
import Derived.BigQuiet
/-
  WALKS: the document's layer 1: segment, Split, Valid, Covers.
-/
namespace Go.Proofs.YtpphoeimakjjdaaGreatDoor
set_option maxRecDepth 100000
set_option maxHeartbeats 2000000
open Go.RowKit Go.Shelf

def SegRel (s:ByteArray) (i:Value) (w wr:World):Prop:=∃ k:Nat,k≤s.size∧i=.int .i64 k∧Hid (lettersB (s.data.toList.drop k)=lettersB s.data.toList)∧wr=w
theorem letters_step (s:ByteArray) (k:Nat) (hk:k<s.size):lettersB (s.data.toList.drop k)=(letter (s[k]).toNat&&lettersB (s.data.toList.drop (k+1))):=by
 have hl:k<s.data.toList.length:=by simpa using hk
 rw [List.drop_eq_getElem_cons hl]
 rfl
theorem segB_size (s:ByteArray):segB s.data.toList=(decide (1≤s.size∧s.size≤6)&&lettersB s.data.toList):=by
 unfold segB
 rw [Lib.size_eq]
theorem rsegment_any (s:ByteArray) (hs:s.size≤9223372036854775807) (w:World):Calls Tryz.prog 187 #[.string s] w fun e w'=>e=.returned (.bool (segB s.data.toList))∧w'=w:=by
 by_cases h1:1≤s.size
 · by_cases h2:s.size≤6
   · have e:segB s.data.toList=lettersB s.data.toList:=by rw [segB_size,decide_eq_true ⟨h1,h2⟩,Bool.true_and]
     rw [e]
     clear e
     go_enter Tryz.func187,Tryz.ntmps187
     go_wp2_with fail
     go_loopw [3] (fun i wr=>SegRel s i w wr) (fun i _=>s.size - (intOf i).toNat)
     case atStart=>exact ⟨0,Nat.zero_le _,rfl,rfl,rfl⟩
     case round =>
      obtain ⟨k,hk,rfl,hd,rfl⟩:=hrel
      by_cases hlt:k<s.size
      · have i1:(0:Int)≤(k:Int):=by omega
        have i2:(k:Int)<(s.size:Int):=by omega
        have hst:=letters_step s k hlt
        have HS:=hide (hst.symm.trans hd)
        have hcb:((s[k]).toNat:Int)≤255:=by have:=(s[k]).toNat_lt;omega
        clear hst hd
        generalize hx:((s[k]).toNat:Int)=x at HS hcb
        have HX:=hide hx
        by_cases hl:letter x=true
        · have h3:(97≤x∧x≤122)∨(48≤x∧x≤57):=by simpa [letter] using hl
          have HS5:=hide (by have:=HS.out;rw [hl,Bool.true_and] at this;exact this:lettersB (s.data.toList.drop (k+1))=lettersB s.data.toList)
          clear HS hl
          rcases h3 with ⟨a1,a2⟩ | ⟨a1,a2⟩
          all_goals
           go_wp2_with fail
           go_roundw
           case rel=>exact ⟨k+1,by omega,by go_num,HS5.out,rfl⟩
           case measure=>simp [intOf];omega
        · have h3:¬ ((97≤x∧x≤122)∨(48≤x∧x≤57)):=by simpa [letter] using hl
          have hl':letter x=false:=by simpa using hl
          have HS5:=hide (by have:=HS.out;rw [hl',Bool.false_and] at this;exact this:false=lettersB s.data.toList)
          clear HS hl hl'
          rcases (by omega:(122<x)∨(57<x∧x<97)∨(x<48)) with a1 | ⟨a1,a2⟩ | a1
          all_goals
           clear h3
           go_wp2_with fail
           go_ret
           exact ⟨by rw [← HS5.out];rfl,rfl⟩
      · have hke:k=s.size:=by omega
        subst hke
        have hE:=hd.out
        rw [List.drop_of_length_le (by simp)] at hE
        have HE:=hide hE
        clear hE hd
        go_wp2_with fail
        go_ret
        exact ⟨by rw [← HE.out];rfl,rfl⟩
   · have e:segB s.data.toList=false:=by rw [segB_size,decide_eq_false (fun x=>h2 x.2)];rfl
     rw [e]
     clear e
     go_enter Tryz.func187,Tryz.ntmps187
     go_wp2_with fail
     go_ret
     exact ⟨rfl,rfl⟩
 · have e:segB s.data.toList=false:=by rw [segB_size,decide_eq_false (fun x=>h1 x.1)];rfl
   rw [e]
   clear e
   go_enter Tryz.func187,Tryz.ntmps187
   go_wp2_with fail
   go_ret
   exact ⟨rfl,rfl⟩
def RowB (w:World) (base:Nat) (v:Value) (D:List ByteArray):Prop:=w.ownsRow base 9 1 v D.length (D.map Value.string)
theorem RowB.len {w:World} {base:Nat} {v:Value} {D:List ByteArray} (h:RowB w base v D):∃ p c,v=.slice p D.length c:=by
 rcases h.2 with ⟨rfl,hn⟩ | ⟨g,cap,cur,rfl,_⟩
 · exact ⟨none,0,by rw [hn]⟩
 · exact ⟨_,cap,rfl⟩
theorem RowB.small {w:World} {base:Nat} {v:Value} {D:List ByteArray} (h:RowB w base v D):D.length≤maxLen:=by
 rcases h.2 with ⟨rfl,hn⟩ | ⟨g,cap,cur,rfl,_,hg,hh1,hh2,_⟩
 · omega
 · omega
def bsD (D:List ByteArray):List Seg:=D.map fun d=>d.data.toList
theorem info_str:(Tryz.prog.info? 9).map (fun i=>(i.zero,i.size,i.bytes))=some (some (.string ByteArray.empty),1,16):=by kernel_rfl
theorem piece_list (s:ByteArray) (a b:Nat):(s.extract a b).data.toList=(s.data.toList.drop a).take (b - a):=by
 rw [ByteArray.data_extract,Array.toList_extract]
def SplRel (s:ByteArray) (o:Option (List Seg)) (w:World) (u f i:Value) (wr:World):Prop :=
 ∃ (k g:Nat) (D:List ByteArray),i=.int .i64 k∧f=.int .i64 g∧D.length≤4∧RowB wr w.heap.size u D∧Mod [] w wr ∧
   ((k≤s.size∧g≤k∧Hid (splGo (bsD D) ((s.data.toList.drop g).take (k - g)) (s.data.toList.drop k)=o))∨(k=s.size+1∧Hid (o=some (bsD D))))
def SplitTo (w:World) (s:ByteArray) (e:Ending) (w':World):Prop :=
 (pathOk s.data.toList=false∧e=.returned (.tuple #[.slice none 0 0,.int .i64 10])∧Mod [] w w') ∨
 (pathOk s.data.toList=true∧∃ (v:Value) (D:List ByteArray),e=.returned (.tuple #[v,.int .i64 0])∧bsD D=segsOf s.data.toList∧RowB w' w.heap.size v D∧Mod [] w w')
theorem split_some {w:World} {s:ByteArray} {D:List ByteArray} {v:Value} {w':World} (hne:s.data.toList≠[]) (h:splGo [] [] s.data.toList=some (bsD D)) (hr:RowB w' w.heap.size v D) (hm:Mod [] w w') :
 SplitTo w s (.returned (.tuple #[v,.int .i64 0])) w':=by
 rw [splGo_path hne] at h
 by_cases hp:pathOk s.data.toList=true
 · rw [if_pos hp] at h
   exact .inr ⟨hp,v,D,rfl,(Option.some.inj h).symm,hr,hm⟩
 · rw [if_neg hp] at h;cases h
theorem split_none {w:World} {s:ByteArray} {w':World} (hne:s.data.toList≠[]) (h:splGo [] [] s.data.toList=none) (hm:Mod [] w w') :
 SplitTo w s (.returned (.tuple #[.slice none 0 0,.int .i64 10])) w':=by
 rw [splGo_path hne] at h
 by_cases hp:pathOk s.data.toList=true
 · rw [if_pos hp] at h;cases h
 · exact .inl ⟨by simpa using hp,rfl,hm⟩
theorem spl_cont (s:ByteArray) (D:List Seg) (g k:Nat) (hg:g≤k) (hk:k<s.size) (hc:¬ ((s[k]).toNat:Int)=47) :
 splGo D ((s.data.toList.drop g).take (k - g)) (s.data.toList.drop k)=splGo D ((s.data.toList.drop g).take (k+1 - g)) (s.data.toList.drop (k+1)):=by
 have hl:k<s.data.toList.length:=by simpa using hk
 rw [List.drop_eq_getElem_cons hl]
 have e:s.data.toList[k]=s[k]:=rfl
 rw [e]
 have e2:(s.data.toList.drop g).take (k+1 - g)=(s.data.toList.drop g).take (k - g)++[s[k]]:=by
  rw [show k+1 - g=(k - g)+1 by omega,List.take_succ_eq_append_getElem (by simp;omega)]
  congr 2
  rw [List.getElem_drop]
  simp only [show g+(k - g)=k by omega]
  rfl
 rw [e2]
 show (if ((s[k]).toNat:Int)=47 then _ else _)=_
 rw [if_neg hc]
theorem spl_cut (s:ByteArray) (D:List Seg) (cur:List UInt8) (k:Nat) (hk:k<s.size) (hc:((s[k]).toNat:Int)=47) :
 splGo D cur (s.data.toList.drop k)=if D.length=4∨segB cur=false then none else splGo (D++[cur]) [] (s.data.toList.drop (k+1)):=by
 have hl:k<s.data.toList.length:=by simpa using hk
 rw [List.drop_eq_getElem_cons hl]
 show (if ((s[k]).toNat:Int)=47 then _ else _)=_
 rw [if_pos hc]
theorem spl_end (s:ByteArray) (D:List Seg) (cur:List UInt8):splGo D cur (s.data.toList.drop s.size)=if D.length=4∨segB cur=false then none else some (D++[cur]):=by
 rw [List.drop_of_length_le (by simp)]
 rfl
theorem rsplit_any (s:ByteArray) (hs:s.size≤9223372036854775806) (w:World):Calls Tryz.prog 178 #[.string s] w fun e w'=>SplitTo w s e w':=by
 obtain ⟨i0,hi0,hz0,hs0,hb0⟩:=info_parts info_str
 by_cases h0:s.data.toList=[]
 · have h1:s.toList.isEmpty=true:=by rw [Lib.toList_data,h0];rfl
   have fin:SplitTo w s (.returned (.tuple #[.slice none 0 0,.int .i64 0])) w :=
    .inr ⟨by rw [h0];rfl,.slice none 0 0,[],rfl,by rw [h0];rfl,World.ownsRow_nil _ _ _ _,Mod.refl _ _⟩
   have F:=hide fin
   clear h0 fin
   go_enter Tryz.func178,Tryz.ntmps178
   go_wp2_with fail
   go_ret2
   exact F.out
 · have h1:s.toList.isEmpty=false:=by rw [Lib.toList_data];simpa using h0
   obtain ⟨o,ho⟩:∃ o,splGo [] [] s.data.toList=o:=⟨_,rfl⟩
   have H0:=Hj2 h0 ho
   have hst:splGo (bsD []) ((s.data.toList.drop 0).take (0 - 0)) (s.data.toList.drop 0)=o:=by simpa [bsD] using ho
   have HST:=hide hst
   clear h0 ho hst
   go_enter Tryz.func178,Tryz.ntmps178
   go_wp2_with fail
   go_loopw [4,5,6] (fun u f i wr=>SplRel s o w u f i wr) (fun _ _ i _=>s.size+1 - (intOf i).toNat)
   case atStart=>exact ⟨0,0,[],rfl,rfl,by simp,World.ownsRow_nil _ _ _ _,Mod.refl _ _,.inl ⟨Nat.zero_le _,Nat.le_refl _,HST.out⟩⟩
   case round =>
    obtain ⟨k,g,D,rfl,rfl,hD,hown,hm,hk⟩:=hrel
    have hwr:w.heap.size≤wr.heap.size:=hm.size
    rcases hk with ⟨hk,hg,hgo⟩ | ⟨hk,hgo⟩
    · have i1:(0:Int)≤(k:Int):=by omega
      have i3:(0:Int)≤(g:Int):=by omega
      have i4:(g:Int)≤(k:Int):=by omega
      have i5:(k:Int)≤(s.size:Int):=by omega
      by_cases hcont:∃ hlt:k<s.size,¬ ((s[k]).toNat:Int)=47
      · obtain ⟨hlt,hc⟩:=hcont
        have i2:(k:Int)<(s.size:Int):=by omega
        have hcb:((s[k]).toNat:Int)≤255:=by have:=(s[k]).toNat_lt;omega
        have HS:=hide ((spl_cont s (bsD D) g k hg hlt hc).symm.trans hgo.out)
        generalize hx:((s[k]).toNat:Int)=x at hc hcb
        clear hgo
        go_wp2_with fail
        go_roundw
        case rel=>exact ⟨k+1,g,D,by go_num,rfl,hD,hown,hm,.inl ⟨by omega,by omega,HS.out⟩⟩
        case measure=>simp [intOf];omega
      · have hcut:∀ hlt:k<s.size,((s[k]).toNat:Int)=47:=fun hlt=>Classical.byContradiction fun x=>hcont ⟨hlt,x⟩
        clear hcont
        obtain ⟨cur,hcur⟩:∃ cur,s.extract g k=cur:=⟨_,rfl⟩
        have hcl:(s.data.toList.drop g).take (k - g)=cur.data.toList:=by rw [← hcur,piece_list]
        have hcs:cur.size≤s.size:=by rw [← hcur,ByteArray.size_extract];omega
        have hn4:D.length=4∨segB cur.data.toList=false→o=none:=by
         intro hx
         rw [hcl] at hgo
         by_cases hlt:k<s.size
         · rw [← hgo.out,spl_cut s _ _ k hlt (hcut hlt),if_pos (by simpa [bsD] using hx)]
         · obtain rfl:k=s.size:=by omega
           rw [← hgo.out,spl_end s,if_pos (by simpa [bsD] using hx)]
        have hnext:∀ u' w1,¬ (D.length=4∨segB cur.data.toList=false)→w1.ownsRow w.heap.size 9 1 u' (D.length+1) (D.map Value.string++[.string cur])→(wr.alloc (.cells #[.string cur] 9)).grownBy w1 u4.ownBlock→SplRel s o w u' (.int .i64 ((k:Int)+1)) (.int .i64 ((k:Int)+1)) w1:=by
         intro u' w1 hx ho hg1
         have hbs:bsD (D++[cur])=bsD D++[cur.data.toList]:=by simp [bsD]
         rw [hcl] at hgo
         refine ⟨k+1,k+1,D++[cur],by go_num,by go_num,by simp;omega,?_,(hm.alloc _).grown hg1 (fun q e hq=>absurd hq (by have:=(hown.lt q e).1;omega)),?_⟩
         · unfold RowB
           rw [List.length_append,List.map_append]
           exact ho
         · by_cases hlt:k<s.size
           · refine .inl ⟨by omega,Nat.le_refl _,?_⟩
             show _=o
             rw [hbs,Nat.sub_self,List.take_zero,← hgo.out,spl_cut s _ _ k hlt (hcut hlt),if_neg (by simpa [bsD] using hx)]
           · obtain rfl:k=s.size:=by omega
             refine .inr ⟨rfl,?_⟩
             show o=_
             rw [hbs,← hgo.out,spl_end s,if_neg (by simpa [bsD] using hx)]
        have HN4:=hide hn4
        have HNX:=hide hnext
        have HM:=hide hm
        have hcmp:(k:Int)<(s.size:Int)→∃ hlt:k<s.size,((s[k]).toNat:Int)=47:=fun hlt=>⟨by omega,hcut (by omega)⟩
        obtain ⟨p4,c4,rfl⟩:=hown.len
        clear hn4 hnext hgo hcl hcut
        have hway:((k:Int)<(s.size:Int)∧∃ hlt:k<s.size,((s[k]).toNat:Int)=47)∨¬ (k:Int)<(s.size:Int):=by
         by_cases hlt:(k:Int)<(s.size:Int)
         · exact .inl ⟨hlt,hcmp hlt⟩
         · exact .inr hlt
        clear hcmp
        rcases hway with ⟨hlt,hlt',hc⟩ | hlt
        all_goals
         by_cases h4:D.length=4
         · have hO:=HN4.out (.inl h4)
           have HO:=hide hO
           clear HN4 HNX hO
           go_wp2_with fail
           go_ret2
           exact split_none H0.out.1 (by rw [H0.out.2,HO.out]) HM.out
         · have h4':¬ (D.length:Int)=4:=by omega
           go_wp2_with fail
           refine (rsegment_any cur (by omega) _).mono ?_
           rintro e w' ⟨rfl,rfl⟩
           cases hsg:segB cur.data.toList
           · have hO:=HN4.out (.inr hsg)
             have HO:=hide hO
             clear HN4 HNX hO hsg
             go_wp2_with fail
             go_ret2
             exact split_none H0.out.1 (by rw [H0.out.2,HO.out]) HM.out
           · have hno:¬ (D.length=4∨segB cur.data.toList=false):=by
              rw [hsg];simp [h4]
             have HNO:=hide hno
             clear HN4 hno hsg h4
             go_wp2_with (at_builtin;refine wpList_append_own _ rfl _ _ 229 rfl w.heap.size 9 i0 _ 1 16 Tryz.underlying229 hi0 hz0 hs0 hb0 rfl (by decide) _ _ _ rfl (hown.alloc _) ⟨w'.heap.size,0,none⟩ 1 1 [.string cur] rfl rfl (World.news_of_block (cs:=#[.string cur]) (t:=9) (fr:=(0,0)) (heap_alloc_new w' _)) (by simp [Value.oneCell']) (by unfold maxLen;omega) (by omega) (by simp;omega) ?_;intro u' w1 ho hg1 _)
             have hN:=HNX.out _ _ HNO.out ho hg1
             clear HNX ho hg1 hown
             go_wp2_with fail
             go_roundw
             case rel=>exact hN
             case measure=>simp [intOf];omega
    · have hx:¬ (k:Int)≤(s.size:Int):=by omega
      obtain ⟨p4,c4,rfl⟩:=hown.len
      have HO:=Hj2 hown hm
      clear hm
      go_wp2_with fail
      go_ret2
      exact split_some H0.out.1 (by rw [H0.out.2,hgo.out]) HO.out.1 HO.out.2
theorem RowB.at_ {w:World} {base n c:Nat} {p:Option Addr} {D:List ByteArray} (h:RowB w base (.slice p n c) D) (i:Nat) (hi:i<D.length):∃ b,p=some ⟨b,0,none⟩∧w.cell? ⟨b,i,none⟩=some (.string (D.getD i ByteArray.empty)):=by
 have h0:=h
 unfold RowB at h0
 rcases h.2 with ⟨hv,hn⟩ | ⟨g,cap,cur,hv,_⟩
 · omega
 · simp only [Value.slice.injEq] at hv
   obtain ⟨rfl,rfl,rfl⟩:=hv
   refine ⟨g,rfl,?_⟩
   rw [h0.cellAt _ (by omega)]
   simp [hi]
theorem RowB.mod {w w':World} {base base':Nat} {v:Value} {D:List ByteArray} (h:RowB w base v D) (m:Mod [] w w') (hb:base'≤base):RowB w' base' v D:=World.ownsRow.mono (m.row h (by simp)) hb
theorem rpvalid_any (s:ByteArray) (hs:s.size≤9223372036854775806) (w:World):Calls Tryz.prog 161 #[.string s] w fun e w'=>e=.returned (.bool (pathOk s.data.toList))∧Mod [] w w':=by
 obtain ⟨b,hb⟩:∃ b,pathOk s.data.toList=b:=⟨_,rfl⟩
 rw [hb]
 have HB:=hide hb
 clear hb
 go_enter Tryz.func161,Tryz.ntmps161
 go_wp2_with fail
 refine (rsplit_any s hs _).mono ?_
 rintro e w1 (⟨h1,rfl,hm1⟩ | ⟨h1,v1,D,rfl,hD,hr1,hm1⟩)
 · obtain rfl:false=b:=by rw [← HB.out,h1]
   clear h1 HB
   go_wp2_with fail
   go_ret
   exact ⟨rfl,hm1⟩
 · obtain rfl:true=b:=by rw [← HB.out,h1]
   clear h1 hr1 HB
   go_wp2_with fail
   go_ret
   exact ⟨rfl,hm1⟩
end Go.Proofs.YtpphoeimakjjdaaGreatDoor
/-
  PLAIN LAWS, NO WALK: layer 11: what a ledger says: grants, records, books; which may be; what a record does; the fewest records; a record's bytes.
-/
namespace Go.Proofs.YtpphoeimakjjdaaGreatDoor
open Go.RowKit

structure Grt where
 id:Int
 holder:Int
 path:ByteArray
 mode:Int
 stamp:List Int
 term:Int
theorem grt_ext {x y:Grt} (h:x.id=y.id∧x.holder=y.holder∧x.path=y.path∧x.mode=y.mode∧x.stamp=y.stamp∧x.term=y.term):x=y:=by
 cases x;cases y
 simp only at h
 obtain ⟨rfl,rfl,rfl,rfl,rfl,rfl⟩:=h
 rfl
instance decGrt:DecidableEq Grt:=fun x y=>decidable_of_iff _ ⟨grt_ext,fun h=>by subst h;exact ⟨rfl,rfl,rfl,rfl,rfl,rfl⟩⟩
def Grt.zero:Grt:=⟨0,0,ByteArray.empty,0,[],0⟩
instance:Inhabited Grt:=⟨Grt.zero⟩
structure Rcd where
 kind:Int
 grant:Grt
 id:Int
 stamp:List Int
 next:Int
 boots:Int
 longest:Int
theorem rcd_ext {x y:Rcd} (h:x.kind=y.kind∧x.grant=y.grant∧x.id=y.id∧x.stamp=y.stamp∧x.next=y.next∧x.boots=y.boots∧x.longest=y.longest):x=y:=by
 cases x;cases y
 simp only at h
 obtain ⟨rfl,rfl,rfl,rfl,rfl,rfl,rfl⟩:=h
 rfl
instance decRcd:DecidableEq Rcd:=fun x y=>decidable_of_iff _ ⟨rcd_ext,fun h=>by subst h;exact ⟨rfl,rfl,rfl,rfl,rfl,rfl,rfl⟩⟩
def Rcd.zero:Rcd:=⟨0,Grt.zero,0,[],0,0,0⟩
instance:Inhabited Rcd:=⟨Rcd.zero⟩
structure Bk where
 next:Int
 boots:Int
 longest:Int
 grants:List Grt
theorem bk_ext {x y:Bk} (h:x.next=y.next∧x.boots=y.boots∧x.longest=y.longest∧x.grants=y.grants):x=y:=by
 cases x;cases y
 simp only at h
 obtain ⟨rfl,rfl,rfl,rfl⟩:=h
 rfl
instance decBk:DecidableEq Bk:=fun x y=>decidable_of_iff _ ⟨bk_ext,fun h=>by subst h;exact ⟨rfl,rfl,rfl,rfl⟩⟩
def Bk.new:Bk:=⟨1,0,0,[]⟩
def Bk.zero:Bk:=⟨0,0,0,[]⟩

/-! ### what may be -/
def lastI (s:List Int):Int:=s.getD (s.length - 1) 0
def legalT (t:Int):Prop:=4≤t∧t≤1048576
instance (t:Int):Decidable (legalT t):=by unfold legalT;exact inferInstance
def stmB (s:List Int):Bool:=decide (0<s.length)&&decide (stampOk s)
def grantB (g:Grt):Bool:=decide (countOk g.id)&&(decide (0≤g.holder∧g.holder<8)&&(pathOk g.path.data.toList&&(decide (g.mode=1∨g.mode=2)&&(stmB g.stamp&&(decide (g.id≤lastI g.stamp)&&decide (legalT g.term))))))
def headsB (next boots:Int):Bool:=decide (1≤next∧next≤1099511627777∧0≤boots∧boots≤1099511627776)
def okFrom (next:Int):Int→List Grt→Bool
 | _,[]=>true
 | id,g::r=>grantB g&&(decide (lastI g.stamp<next)&&(decide (id<g.id)&&okFrom next g.id r))
def validB (b:Bk):Bool:=headsB b.next b.boots&&(decide (b.longest=0∨legalT b.longest)&&(decide (b.grants.length≤6)&&okFrom b.next 0 b.grants))
def bareB (r:Rcd):Bool:=decide (r.next=0∧r.boots=0∧r.longest=0)
def noGrant (r:Rcd):Bool:=decide (r.grant=Grt.zero)
def noId (r:Rcd):Bool:=decide (r.id=0∧r.stamp=[])
def mayB (r:Rcd):Bool :=
 if r.kind=1 then headsB r.next r.boots&&(decide (r.longest=0)&&(noGrant r&&noId r))
 else if r.kind=2 then decide (legalT r.longest)&&(decide (r.next=0∧r.boots=0)&&(noGrant r&&noId r))
 else if r.kind=4 then decide (lastI r.grant.stamp=r.grant.id)&&(grantB r.grant&&(bareB r&&noId r))
 else if r.kind=3 then grantB r.grant&&(bareB r&&noId r)
 else if r.kind=5 then decide (countOk r.id)&&(stmB r.stamp&&(bareB r&&noGrant r))
 else if r.kind=6 then decide (countOk r.id)&&(decide (r.stamp=[])&&(bareB r&&noGrant r))
 else if r.kind=7 then bareB r&&(noGrant r&&noId r)
 else false

/-! ### what a record does -/
def limitI (b:Bk) (k:Int):Int :=
 if ((k=4∨k=5)∧1099511627776<b.next)∨(k=7∧b.boots=1099511627776) then 66
 else if (k=4∨k=3)∧b.grants.length=6 then 51 else 0
def posG (l:List Grt) (id:Int):Nat:=(l.takeWhile fun g=>decide (g.id<id)).length
def hasG (l:List Grt) (id:Int):Bool:=l.any fun g=>decide (g.id=id)
def putG (l:List Grt) (g:Grt):List Grt:=l.take (posG l g.id)++g::l.drop (posG l g.id)
def delG (l:List Grt) (id:Int):List Grt:=l.take (posG l id)++l.drop (posG l id+1)
def setG (l:List Grt) (id:Int) (s:List Int):List Grt:=l.set (posG l id) { l.getD (posG l id) default with stamp:=s }
def changeB (b:Bk) (r:Rcd):Option Bk :=
 if r.kind=1 then (if b=Bk.new then some { b with next:=r.next,boots:=r.boots } else none)
 else if r.kind=2 then (if b.longest<r.longest then some { b with longest:=r.longest } else none)
 else if r.kind=4 then (if r.grant.id=b.next then some { b with next:=b.next+1,grants:=putG b.grants r.grant } else none)
 else if r.kind=3 then (if hasG b.grants r.grant.id=false∧lastI r.grant.stamp<b.next then some { b with grants:=putG b.grants r.grant } else none)
 else if r.kind=5 then (if hasG b.grants r.id=true∧lastI r.stamp=b.next then some { b with next:=b.next+1,grants:=setG b.grants r.id r.stamp } else none)
 else if r.kind=6 then (if hasG b.grants r.id=true then some { b with grants:=delG b.grants r.id } else none)
 else some { b with boots:=b.boots+1 }
def applyB (b:Bk) (r:Rcd):Bk × Int :=
 if validB b=false∨mayB r=false then (Bk.zero,43) else if limitI b r.kind≠0 then (Bk.zero,limitI b r.kind)
 else match changeB b r with
  | some c=>(c,0)
  | none=>(Bk.zero,43)

/-! ### orders -/
theorem okFrom_mem {next:Int}:∀ {id:Int} {l:List Grt},okFrom next id l=true→∀ g,g∈l→grantB g=true∧lastI g.stamp<next∧id<g.id
 | _,[],_,_,h=>by cases h
 | id,x::r,h,g,hg=>by
   simp only [okFrom,Bool.and_eq_true,decide_eq_true_eq] at h
   rcases List.mem_cons.1 hg with rfl | hr
   · exact ⟨h.1,h.2.1,h.2.2.1⟩
   · have:=okFrom_mem h.2.2.2 g hr
     exact ⟨this.1,this.2.1,by omega⟩
theorem okFrom_sorted {next:Int}:∀ {id:Int} {l:List Grt},okFrom next id l=true→l.Pairwise fun a b=>a.id<b.id
 | _,[],_=>List.Pairwise.nil
 | id,x::r,h=>by
   simp only [okFrom,Bool.and_eq_true,decide_eq_true_eq] at h
   exact List.Pairwise.cons (fun g hg=>(okFrom_mem h.2.2.2 g hg).2.2) (okFrom_sorted h.2.2.2)
theorem okFrom_of {next:Int}:∀ {id:Int} {l:List Grt},(∀ g,g∈l→grantB g=true∧lastI g.stamp<next∧id<g.id)→(l.Pairwise fun a b=>a.id<b.id)→okFrom next id l=true
 | _,[],_,_=>rfl
 | id,x::r,h,hp=>by
   have h1:=h x List.mem_cons_self
   have h2:=List.pairwise_cons.1 hp
   simp only [okFrom,Bool.and_eq_true,decide_eq_true_eq]
   exact ⟨h1.1,h1.2.1,h1.2.2,okFrom_of (fun g hg=>⟨(h g (List.mem_cons_of_mem _ hg)).1,(h g (List.mem_cons_of_mem _ hg)).2.1,h2.1 g hg⟩) h2.2⟩
theorem okFrom_iff {next id:Int} {l:List Grt}:okFrom next id l=true↔(∀ g,g∈l→grantB g=true∧lastI g.stamp<next∧id<g.id)∧l.Pairwise fun a b=>a.id<b.id :=
 ⟨fun h=>⟨okFrom_mem h,okFrom_sorted h⟩,fun h=>okFrom_of h.1 h.2⟩
theorem valid_iff {b:Bk}:validB b=true↔headsB b.next b.boots=true∧(b.longest=0∨legalT b.longest)∧b.grants.length≤6∧okFrom b.next 0 b.grants=true:=by
 simp [validB]
theorem heads_iff {n k:Int}:headsB n k=true↔1≤n∧n≤1099511627777∧0≤k∧k≤1099511627776:=by simp [headsB]
def SrtG (l:List Grt):Prop:=l.Pairwise fun a b=>a.id<b.id
theorem posG_le (l:List Grt) (id:Int):posG l id≤l.length:=by
 unfold posG
 exact (List.takeWhile_prefix _).length_le
theorem posG_cons (x:Grt) (r:List Grt) (id:Int):posG (x::r) id=if x.id<id then posG r id+1 else 0:=by
 unfold posG
 rw [List.takeWhile_cons]
 by_cases h:x.id<id
 · rw [if_pos (by simpa using h),if_pos h];rfl
 · rw [if_neg (by simpa using h),if_neg h];rfl
theorem pos_below {l:List Grt} {id:Int}:∀ g,g∈l.take (posG l id)→g.id<id:=by
 induction l with
 | nil=>intro g hg;simp at hg
 | cons x r ih =>
   intro g hg
   rw [posG_cons] at hg
   by_cases h:x.id<id
   · rw [if_pos h,List.take_succ_cons] at hg
     rcases List.mem_cons.1 hg with rfl | hr
     · exact h
     · exact ih g hr
   · rw [if_neg h] at hg;simp at hg
theorem pos_above {l:List Grt} (hs:SrtG l) {id:Int}:∀ g,g∈l.drop (posG l id)→id≤g.id:=by
 induction l with
 | nil=>intro g hg;simp at hg
 | cons x r ih =>
   intro g hg
   have h':=List.pairwise_cons.1 hs
   rw [posG_cons] at hg
   by_cases h:x.id<id
   · rw [if_pos h,List.drop_succ_cons] at hg
     exact ih h'.2 g hg
   · rw [if_neg h,List.drop_zero] at hg
     rcases List.mem_cons.1 hg with rfl | hr
     · omega
     · have:=h'.1 g hr;omega
theorem has_at {l:List Grt} (hs:SrtG l) {id:Int}:hasG l id=true↔posG l id<l.length∧(l.getD (posG l id) default).id=id:=by
 induction l with
 | nil=>simp [hasG,posG]
 | cons x r ih =>
   have h':=List.pairwise_cons.1 hs
   have ih:=ih h'.2
   rw [posG_cons]
   by_cases h:x.id<id
   · rw [if_pos h]
     have:hasG (x::r) id=hasG r id:=by
      simp only [hasG,List.any_cons]
      rw [decide_eq_false (by omega),Bool.false_or]
     rw [this,ih]
     simp
   · rw [if_neg h]
     simp only [hasG,List.any_cons,Bool.or_eq_true,decide_eq_true_eq,List.length_cons,List.getD_cons_zero]
     refine ⟨fun k=>⟨by omega,?_⟩,fun k=>.inl k.2⟩
     rcases k with k | k
     · exact k
     · rw [List.any_eq_true] at k
       obtain ⟨g,hg,he⟩:=k
       have:=h'.1 g hg
       simp at he
       omega
theorem hasG_iff {l:List Grt} {id:Int}:hasG l id=true↔∃ g,g∈l∧g.id=id:=by simp [hasG]
theorem putG_srt {l:List Grt} (hs:SrtG l) {g:Grt} (h:hasG l g.id=false):SrtG (putG l g):=by
 have hcut:SrtG (l.take (posG l g.id)++l.drop (posG l g.id)):=by rw [List.take_append_drop];exact hs
 have hc:=List.pairwise_append.1 hcut
 refine List.pairwise_append.2 ⟨hc.1,List.pairwise_cons.2 ⟨fun x hx=>?_,hc.2.1⟩,fun x hx y hy=>?_⟩
 · have h1:=pos_above hs x hx
   have:x.id≠g.id:=fun e=>by
    have:hasG l g.id=true:=hasG_iff.2 ⟨x,List.mem_of_mem_drop hx,e⟩
    rw [h] at this;cases this
   omega
 · rcases List.mem_cons.1 hy with rfl | hr
   · exact pos_below x hx
   · exact hc.2.2 x hx y hr
theorem mem_putG {l:List Grt} {g x:Grt}:x∈putG l g↔x=g∨x∈l:=by
 unfold putG
 rw [List.mem_append,List.mem_cons]
 conv=>rhs;rw [← List.take_append_drop (posG l g.id) l,List.mem_append]
 constructor
 · rintro (h | h | h)
   · exact .inr (.inl h)
   · exact .inl h
   · exact .inr (.inr h)
 · rintro (h | h | h)
   · exact .inr (.inl h)
   · exact .inl h
   · exact .inr (.inr h)
theorem putG_len (l:List Grt) (g:Grt):(putG l g).length=l.length+1:=by
 have:=posG_le l g.id
 simp [putG];omega
theorem posG_end {l:List Grt} {id:Int} (h:∀ g,g∈l→g.id<id):posG l id=l.length:=by
 induction l with
 | nil=>rfl
 | cons x r ih =>
   rw [posG_cons,if_pos (h x List.mem_cons_self),ih (fun g hg=>h g (List.mem_cons_of_mem _ hg))]
   rfl
theorem putG_end {l:List Grt} {g:Grt} (h:∀ x,x∈l→x.id<g.id):putG l g=l++[g]:=by
 unfold putG
 rw [posG_end h];simp
theorem delG_mem {l:List Grt} {id:Int} {x:Grt} (h:x∈delG l id):x∈l:=by
 unfold delG at h
 rcases List.mem_append.1 h with h | h
 · exact List.mem_of_mem_take h
 · exact List.mem_of_mem_drop h
theorem delG_sub (l:List Grt) (id:Int):(delG l id).Sublist l:=by
 unfold delG
 conv=>rhs;rw [← List.take_append_drop (posG l id) l]
 refine List.Sublist.append (List.Sublist.refl _) ?_
 rw [show posG l id+1=posG l id+1 from rfl,← List.drop_drop]
 exact List.drop_sublist _ _
theorem delG_len {l:List Grt} (hs:SrtG l) {id:Int} (h:hasG l id=true):(delG l id).length+1=l.length:=by
 have:=(has_at hs).1 h
 simp [delG];omega
theorem delG_filter {l:List Grt} (hs:SrtG l) {id:Int} (h:hasG l id=true):delG l id=l.filter fun g=>decide (g.id≠id):=by
 induction l with
 | nil=>rfl
 | cons x r ih =>
   have h':=List.pairwise_cons.1 hs
   unfold delG
   rw [posG_cons,List.filter_cons]
   by_cases hx:x.id<id
   · rw [if_pos hx,if_pos (by simp;omega)]
     have hr:hasG r id=true:=by
      simp only [hasG,List.any_cons] at h
      rw [decide_eq_false (by omega),Bool.false_or] at h
      exact h
     rw [← ih h'.2 hr]
     rfl
   · rw [if_neg hx]
     have he:x.id=id:=by
      have:=(has_at hs).1 h
      rw [posG_cons,if_neg hx] at this
      exact this.2
     rw [if_neg (by simpa using he)]
     simp only [List.take_zero,List.nil_append,Nat.zero_add,List.drop_succ_cons,List.drop_zero]
     exact (List.filter_eq_self.2 fun g hg=>by have:=h'.1 g hg;simp;omega).symm
theorem setG_get {l:List Grt} {id:Int} {s:List Int}:setG l id s=l.set (posG l id) { l.getD (posG l id) default with stamp:=s }:=rfl

/-! ### a change keeps a book a book -/
theorem grant_iff {g:Grt}:grantB g=true↔countOk g.id∧(0≤g.holder∧g.holder<8)∧pathOk g.path.data.toList=true∧(g.mode=1∨g.mode=2)∧stmB g.stamp=true∧g.id≤lastI g.stamp∧legalT g.term:=by
 simp [grantB]
end Go.Proofs.YtpphoeimakjjdaaGreatDoor
/-
  WALKS: layer 11: the small questions about grants and stamps.
-/
namespace Go.Proofs.YtpphoeimakjjdaaGreatDoor
open Go.RowKit

theorem counter_any (n:Int) (w:World) :
 Calls Tryz.prog 119 #[.int .i64 n] w fun e w'=>e=.returned (.bool (decide (countOk n)))∧w'=w:=by
 have hd:decide (countOk n)=(decide (1≤n)&&decide (n≤1099511627776)):=by unfold countOk;by_cases h1:1≤n <;> by_cases h2:n≤1099511627776 <;> simp [h1,h2]
 rw [hd]
 by_cases h1:1≤n
 · by_cases h2:n≤1099511627776
   all_goals
    go_enter Tryz.func119,Tryz.ntmps119
    go_wp2_with fail
    go_ret
    simp [h1,h2]
 · go_enter Tryz.func119,Tryz.ntmps119
   go_wp2_with fail
   go_ret
   simp
   omega
theorem newest_any {w:World} {v:Value} {s:List Int} (h:RdN w v s) :
 Calls Tryz.prog 117 #[v] w fun e w'=>e=.returned (.int .i64 (lastI s))∧w'=w:=by
 obtain ⟨q,c,rfl⟩:=h.len
 have hm:=h.1
 by_cases h0:s.length=0
 · have hs:s=[]:=List.length_eq_zero_iff.1 h0
   subst hs
   clear h h0
   go_enter Tryz.func117,Tryz.ntmps117
   go_wp2_with fail
   go_ret
   exact ⟨rfl,rfl⟩
 · obtain ⟨b,off,rfl,hb,hc⟩:=h.at_ (s.length - 1) (by omega)
   have hl:lastI s=s.getD (s.length - 1) 0:=rfl
   rw [hl]
   obtain ⟨k,hk⟩:∃ k,s.length=k+1:=⟨s.length - 1,by omega⟩
   rw [hk,Nat.add_sub_cancel] at hc ⊢
   rw [hk] at hm
   have hm':k+1≤9223372036854775807:=hm
   have hne:¬ ((((k+1:Nat):Int))=0):=by omega
   generalize s.getD k 0=x at hc ⊢
   clear h hl
   go_enter Tryz.func117,Tryz.ntmps117
   go_wp2_with fail
   go_ret
   exact ⟨rfl,rfl⟩
theorem heads_any (n b:Int) (w:World) :
 Calls Tryz.prog 114 #[.int .i64 n,.int .i64 b] w fun e w'=>e=.returned (.bool (headsB n b))∧w'=w:=by
 have hd:headsB n b=(decide (1≤n)&&(decide (n≤1099511627777)&&(decide (0≤b)&&decide (b≤1099511627776)))):=by
  unfold headsB
  by_cases h1:1≤n <;> by_cases h2:n≤1099511627777 <;> by_cases h3:0≤b <;> by_cases h4:b≤1099511627776 <;> simp [h1,h2,h3,h4]
 rw [hd]
 by_cases h1:1≤n
 · by_cases h2:n≤1099511627777
   · by_cases h3:0≤b
     · by_cases h4:b≤1099511627776
       all_goals
        go_enter Tryz.func114,Tryz.ntmps114
        go_wp2_with fail
        go_ret
        simp [h1,h2,h3,h4]
     · go_enter Tryz.func114,Tryz.ntmps114
       go_wp2_with fail
       go_ret
       refine ⟨?_,rfl⟩
       rw [decide_eq_false (show ¬ 0≤b by omega)]
       simp
   · go_enter Tryz.func114,Tryz.ntmps114
     go_wp2_with fail
     go_ret
     refine ⟨?_,rfl⟩
     rw [decide_eq_false (show ¬ n≤1099511627777 by omega)]
     simp
 · go_enter Tryz.func114,Tryz.ntmps114
   go_wp2_with fail
   go_ret
   refine ⟨?_,rfl⟩
   rw [decide_eq_false (show ¬ 1≤n by omega)]
   simp
theorem stamped_any {w:World} {v:Value} {s:List Int} (h:RdN w v s) :
 Calls Tryz.prog 120 #[v] w fun e w'=>e=.returned (.bool (stmB s))∧w'=w:=by
 have hv:=svalid_any h
 obtain ⟨q,c,rfl⟩:=h.len
 obtain ⟨B,hB⟩:∃ B,stmB s=B:=⟨_,rfl⟩
 rw [hB]
 unfold stmB at hB
 by_cases h0:0<s.length
 · rw [decide_eq_true h0,Bool.true_and] at hB
   rw [hB] at hv
   have hp:(0:Int)<(s.length:Int):=by omega
   clear h hB
   go_enter Tryz.func120,Tryz.ntmps120
   go_wp2_with (go_at_call 154;refine hv.mono ?_;rintro e w1 ⟨rfl,rfl⟩)
   go_ret
   exact ⟨rfl,rfl⟩
 · rw [decide_eq_false h0,Bool.false_and] at hB
   subst hB
   have hp:¬ (0:Int)<(s.length:Int):=by omega
   clear h hv
   go_enter Tryz.func120,Tryz.ntmps120
   go_wp2_with fail
   go_ret
   exact ⟨rfl,rfl⟩
theorem equal_any {w:World} {v u:Value} {s t:List Int} (h:RdN w v s) (g:RdN w u t) :
 Calls Tryz.prog 153 #[v,u] w fun e w'=>e=.returned (.bool (decide (s=t)))∧∃ n,w'=w.drewN n:=by
 obtain ⟨q,c,rfl⟩:=h.len
 obtain ⟨q2,c2,rfl⟩:=g.len
 by_cases hl:s.length=t.length
 · have hb1:=h.1
   have hb1':s.length≤9223372036854775807:=hb1
   have H:=Hj3 h g hl
   rw [← hl] at g ⊢
   clear h g hl hb1
   go_enter Tryz.func153,Tryz.ntmps153
   go_wp2_with fail
   go_loopw [13] (fun i wr=>∃ k m:Nat,i=.int .i64 (k:Int)∧k≤s.length∧Hid (s.take k=t.take k)∧Hid (wr=w.drewN m)) (fun i _=>s.length - (intOf i).toNat)
   case atStart=>exact ⟨0,0,rfl,Nat.zero_le _,hide (by simp),hide rfl⟩
   case round =>
    obtain ⟨k,m,rfl,hk,htk,hw⟩:=hrel
    have gr:Gr w wr:=by rw [hw.out];exact (Gr.refl w).drewN m
    obtain ⟨h,g,hl⟩:=H.out
    by_cases hlt:k<s.length
    · obtain ⟨b1,o1,rfl,-,e1⟩:=(h.gr gr).at_ k hlt
      obtain ⟨b2,o2,rfl,-,e2⟩:=(g.gr gr).at_ k (by omega)
      have hs1:s.take (k+1)=s.take k++[s.getD k 0]:=by rw [List.take_add_one];simp [hlt]
      have ht1:t.take (k+1)=t.take k++[t.getD k 0]:=by rw [List.take_add_one];simp [show k<t.length by omega]
      have HS:=Hj2 hs1 ht1
      have hgs:s.getD k 0=t.getD k 0∨s.getD k 0≠t.getD k 0:=Classical.em _
      have hne:s.getD k 0≠t.getD k 0→s≠t:=fun e x=>e (by rw [x])
      generalize s.getD k 0=x at e1 HS hgs hne
      generalize t.getD k 0=y at e2 HS hgs hne
      clear h g hl hs1 ht1
      rcases hgs with rfl | hxy
      · clear hne
        go_wp2_with fail
        go_quiet (fail)
        go_wp2_with fail
        go_roundw
        case rel=>exact ⟨k+1,_,by go_num,by omega,hide (by rw [HS.out.1,HS.out.2,htk.out]),hide (by rw [hw.out,World.drewN_drewN])⟩
        case measure=>simp [intOf];omega
      · have hb:(x != y)=true:=by rw [bne_iff_ne];exact hxy
        have hd:=decide_eq_false (hne hxy)
        have HD:=hide hd
        clear hne hd hxy
        go_wp2_with fail
        go_quiet (fail)
        go_wp2_with fail
        go_ret
        exact ⟨by rw [HD.out];rfl,_,by rw [hw.out,World.drewN_drewN]⟩
    · obtain rfl:k=s.length:=by omega
      clear h g
      go_wp2_with fail
      go_ret
      refine ⟨?_,m,hw.out⟩
      have e:=htk.out
      rw [List.take_length,hl,List.take_length] at e
      rw [decide_eq_true e]
      rfl
 · have hne:decide (s=t)=false:=decide_eq_false (fun e=>hl (by rw [e]))
   rw [hne]
   have hq:(((s.length:Nat):Int) != ((t.length:Nat):Int))=true:=by rw [bne_iff_ne];omega
   clear h g hne
   go_enter Tryz.func153,Tryz.ntmps153
   go_wp2_with fail
   go_ret
   exact ⟨rfl,0,rfl⟩
end Go.Proofs.YtpphoeimakjjdaaGreatDoor
/-
  WALKS: layer 11: grants compared.
-/
namespace Go.Proofs.YtpphoeimakjjdaaGreatDoor
set_option maxRecDepth 100000
set_option maxHeartbeats 4000000
open Go.RowKit

def cellsG (g:Grt) (sv:Value):List Value:=[.int .i64 g.id,.int .i64 g.holder,.string g.path,.int .i64 g.mode,sv,.int .i64 g.term]
def aggG (g:Grt) (sv:Value):Value:=.agg (cellsG g sv).toArray
theorem bytes_of_toList {a b:ByteArray} (h:a.toList=b.toList):a=b:=by
 rw [ByteArray.toList_eq,ByteArray.toList_eq] at h
 have e:=Array.toList_inj.1 h
 cases a;cases b
 simp only at e
 rw [e]
theorem grt_dec (x y:Grt):decide (x=y)=(decide (x.stamp=y.stamp)&&(decide (x.id=y.id)&&(decide (x.holder=y.holder)&&(decide (x.path.toList=y.path.toList)&&(decide (x.mode=y.mode)&&decide (x.term=y.term)))))):=by
 rw [Bool.eq_iff_iff]
 simp only [Bool.and_eq_true,decide_eq_true_eq]
 constructor
 · rintro rfl
   exact ⟨rfl,rfl,rfl,rfl,rfl,rfl⟩
 · rintro ⟨h1,h2,h3,h4,h5,h6⟩
   exact grt_ext ⟨h2,h3,bytes_of_toList h4,h5,h1,h6⟩
theorem sameGrant_any {w:World} {x y:Grt} {sv tv:Value} (hx:RdN w sv x.stamp) (hy:RdN w tv y.stamp) :
 Calls Tryz.prog 118 #[aggG x sv,aggG y tv] w fun e w'=>e=.returned (.bool (decide (x=y)))∧Mod [] w w':=by
 obtain ⟨i1,h1,p1,m1,s1,t1⟩:=x
 obtain ⟨i2,h2,p2,m2,s2,t2⟩:=y
 simp only at hx hy
 have he:=fun {W:World} (g:Gr w W)=>equal_any (hx.gr g) (hy.gr g)
 obtain ⟨q1,c1,rfl⟩:=hx.len
 obtain ⟨q2,c2,rfl⟩:=hy.len
 generalize hB:decide (s1=s2)=B at he
 have HB:=hide hB
 clear hx hy hB
 unfold aggG cellsG
 simp only
 go_enter Tryz.func118,Tryz.ntmps118
 go_wp2_with (go_at_call 153;refine (he (((Gr.refl w).alloc _).alloc _)).mono ?_;rintro e w1 ⟨rfl,n,rfl⟩)
 all_goals
  go_ret
  refine ⟨?_,(((Mod.refl [] w).alloc _).alloc _).drewN n⟩
  rw [grt_dec]
  simp only [HB.out]
  first | (simp [*];done) | (simp [*];rfl)
theorem mayGrant_any {w:World} {g:Grt} {sv:Value} (hs:RdN w sv g.stamp) (hp:g.path.size≤9223372036854775807) :
 Calls Tryz.prog 116 #[aggG g sv] w fun e w'=>e=.returned (.bool (grantB g))∧Mod [] w w':=by
 obtain ⟨id,ho,pa,mo,st,te⟩:=g
 simp only at hs hp
 have k1:=fun (W:World)=>counter_any id W
 have k2:=fun (W:World)=>pvalid_any pa hp W
 have k3:=fun {W:World} (g:Gr w W)=>stamped_any (hs.gr g)
 have k4:=fun {W:World} (g:Gr w W)=>newest_any (hs.gr g)
 have k5:∀ W:World,Calls Tryz.prog 115 #[.int .i64 te] W fun e w'=>e=.returned (.bool (decide (legalT te)))∧w'=W:=fun W=>legal_any te W
 obtain ⟨G,hG⟩:∃ G,grantB ⟨id,ho,pa,mo,st,te⟩=G:=⟨_,rfl⟩
 rw [hG]
 unfold grantB at hG
 simp only at hG
 obtain ⟨q,c,rfl⟩:=hs.len
 generalize decide (countOk id)=b1 at k1 hG
 generalize pathOk pa.data.toList=b2 at k2 hG
 generalize stmB st=b3 at k3 hG
 generalize lastI st=n4 at k4 hG
 generalize decide (legalT te)=b5 at k5 hG
 clear hs hp
 unfold aggG cellsG
 -- BEGIN ways
 have HG:=hide hG
 clear hG
 cases b1 with
 | false =>
   go_enter Tryz.func116,Tryz.ntmps116
   go_wp2_with fail
   go_quiet ((first
    | (go_at_call 119;exact Calls.quiet_of_same (k1 _))
    | (go_at_call 152;exact Calls.quiet_of_same (k2 _))
    | (go_at_call 120;exact Calls.quiet_of_same (k3 (((Gr.refl w).alloc _).drewN _)))
    | (go_at_call 117;exact Calls.quiet_of_same (k4 (((Gr.refl w).alloc _).drewN _)))
    | (go_at_call 115;exact Calls.quiet_of_same (k5 _))))
   go_wp2_with fail
   go_ret
   exact ⟨by rw [← HG.out];simp,((Mod.refl [] w).alloc _).drewN _⟩
 | true =>
   by_cases h2:0≤ho
   · have d2:decide (0≤ho)=true:=decide_eq_true h2
     by_cases h3:ho<8
     · have d3:decide (ho<8)=true:=decide_eq_true h3
       cases b2 with
       | false =>
         go_enter Tryz.func116,Tryz.ntmps116
         go_wp2_with fail
         go_quiet ((first
          | (go_at_call 119;exact Calls.quiet_of_same (k1 _))
          | (go_at_call 152;exact Calls.quiet_of_same (k2 _))
          | (go_at_call 120;exact Calls.quiet_of_same (k3 (((Gr.refl w).alloc _).drewN _)))
          | (go_at_call 117;exact Calls.quiet_of_same (k4 (((Gr.refl w).alloc _).drewN _)))
          | (go_at_call 115;exact Calls.quiet_of_same (k5 _))))
         go_wp2_with fail
         go_ret
         exact ⟨by rw [← HG.out];simp,((Mod.refl [] w).alloc _).drewN _⟩
       | true =>
         have hm:(mo=1)∨(¬ mo=1∧mo=2)∨(¬ mo=1∧¬ mo=2):=by omega
         rcases hm with rfl | ⟨hm1,rfl⟩ | ⟨hm1,hm2⟩
         · skip
           cases b3 with
           | false =>
             go_enter Tryz.func116,Tryz.ntmps116
             go_wp2_with fail
             go_quiet ((first
              | (go_at_call 119;exact Calls.quiet_of_same (k1 _))
              | (go_at_call 152;exact Calls.quiet_of_same (k2 _))
              | (go_at_call 120;exact Calls.quiet_of_same (k3 (((Gr.refl w).alloc _).drewN _)))
              | (go_at_call 117;exact Calls.quiet_of_same (k4 (((Gr.refl w).alloc _).drewN _)))
              | (go_at_call 115;exact Calls.quiet_of_same (k5 _))))
             go_wp2_with fail
             go_ret
             exact ⟨by rw [← HG.out];simp,((Mod.refl [] w).alloc _).drewN _⟩
           | true =>
             by_cases h7:id≤n4
             · have d7:decide (id≤n4)=true:=decide_eq_true h7
               go_enter Tryz.func116,Tryz.ntmps116
               go_wp2_with fail
               go_quiet ((first
                | (go_at_call 119;exact Calls.quiet_of_same (k1 _))
                | (go_at_call 152;exact Calls.quiet_of_same (k2 _))
                | (go_at_call 120;exact Calls.quiet_of_same (k3 (((Gr.refl w).alloc _).drewN _)))
                | (go_at_call 117;exact Calls.quiet_of_same (k4 (((Gr.refl w).alloc _).drewN _)))
                | (go_at_call 115;exact Calls.quiet_of_same (k5 _))))
               go_wp2_with fail
               go_ret
               exact ⟨by rw [← HG.out];simp [h2,h3,h7],((Mod.refl [] w).alloc _).drewN _⟩
             · have d7:decide (id≤n4)=false:=decide_eq_false h7
               go_enter Tryz.func116,Tryz.ntmps116
               go_wp2_with fail
               go_quiet ((first
                | (go_at_call 119;exact Calls.quiet_of_same (k1 _))
                | (go_at_call 152;exact Calls.quiet_of_same (k2 _))
                | (go_at_call 120;exact Calls.quiet_of_same (k3 (((Gr.refl w).alloc _).drewN _)))
                | (go_at_call 117;exact Calls.quiet_of_same (k4 (((Gr.refl w).alloc _).drewN _)))
                | (go_at_call 115;exact Calls.quiet_of_same (k5 _))))
               go_wp2_with fail
               go_ret
               exact ⟨by rw [← HG.out];simp;omega,((Mod.refl [] w).alloc _).drewN _⟩
         · skip
           cases b3 with
           | false =>
             go_enter Tryz.func116,Tryz.ntmps116
             go_wp2_with fail
             go_quiet ((first
              | (go_at_call 119;exact Calls.quiet_of_same (k1 _))
              | (go_at_call 152;exact Calls.quiet_of_same (k2 _))
              | (go_at_call 120;exact Calls.quiet_of_same (k3 (((Gr.refl w).alloc _).drewN _)))
              | (go_at_call 117;exact Calls.quiet_of_same (k4 (((Gr.refl w).alloc _).drewN _)))
              | (go_at_call 115;exact Calls.quiet_of_same (k5 _))))
             go_wp2_with fail
             go_ret
             exact ⟨by rw [← HG.out];simp,((Mod.refl [] w).alloc _).drewN _⟩
           | true =>
             by_cases h7:id≤n4
             · have d7:decide (id≤n4)=true:=decide_eq_true h7
               go_enter Tryz.func116,Tryz.ntmps116
               go_wp2_with fail
               go_quiet ((first
                | (go_at_call 119;exact Calls.quiet_of_same (k1 _))
                | (go_at_call 152;exact Calls.quiet_of_same (k2 _))
                | (go_at_call 120;exact Calls.quiet_of_same (k3 (((Gr.refl w).alloc _).drewN _)))
                | (go_at_call 117;exact Calls.quiet_of_same (k4 (((Gr.refl w).alloc _).drewN _)))
                | (go_at_call 115;exact Calls.quiet_of_same (k5 _))))
               go_wp2_with fail
               go_ret
               exact ⟨by rw [← HG.out];simp [h2,h3,h7],((Mod.refl [] w).alloc _).drewN _⟩
             · have d7:decide (id≤n4)=false:=decide_eq_false h7
               go_enter Tryz.func116,Tryz.ntmps116
               go_wp2_with fail
               go_quiet ((first
                | (go_at_call 119;exact Calls.quiet_of_same (k1 _))
                | (go_at_call 152;exact Calls.quiet_of_same (k2 _))
                | (go_at_call 120;exact Calls.quiet_of_same (k3 (((Gr.refl w).alloc _).drewN _)))
                | (go_at_call 117;exact Calls.quiet_of_same (k4 (((Gr.refl w).alloc _).drewN _)))
                | (go_at_call 115;exact Calls.quiet_of_same (k5 _))))
               go_wp2_with fail
               go_ret
               exact ⟨by rw [← HG.out];simp;omega,((Mod.refl [] w).alloc _).drewN _⟩
         · have d5:(mo==1)=false:=by simp [hm1]
           have d6:(mo==2)=false:=by simp [hm2]
           go_enter Tryz.func116,Tryz.ntmps116
           go_wp2_with fail
           go_quiet ((first
            | (go_at_call 119;exact Calls.quiet_of_same (k1 _))
            | (go_at_call 152;exact Calls.quiet_of_same (k2 _))
            | (go_at_call 120;exact Calls.quiet_of_same (k3 (((Gr.refl w).alloc _).drewN _)))
            | (go_at_call 117;exact Calls.quiet_of_same (k4 (((Gr.refl w).alloc _).drewN _)))
            | (go_at_call 115;exact Calls.quiet_of_same (k5 _))))
           go_wp2_with fail
           go_ret
           exact ⟨by rw [← HG.out];simp [hm1,hm2],((Mod.refl [] w).alloc _).drewN _⟩
     · have d3:decide (ho<8)=false:=decide_eq_false h3
       go_enter Tryz.func116,Tryz.ntmps116
       go_wp2_with fail
       go_quiet ((first
        | (go_at_call 119;exact Calls.quiet_of_same (k1 _))
        | (go_at_call 152;exact Calls.quiet_of_same (k2 _))
        | (go_at_call 120;exact Calls.quiet_of_same (k3 (((Gr.refl w).alloc _).drewN _)))
        | (go_at_call 117;exact Calls.quiet_of_same (k4 (((Gr.refl w).alloc _).drewN _)))
        | (go_at_call 115;exact Calls.quiet_of_same (k5 _))))
       go_wp2_with fail
       go_ret
       exact ⟨by rw [← HG.out];simp;omega,((Mod.refl [] w).alloc _).drewN _⟩
   · have d2:decide (0≤ho)=false:=decide_eq_false h2
     go_enter Tryz.func116,Tryz.ntmps116
     go_wp2_with fail
     go_quiet ((first
      | (go_at_call 119;exact Calls.quiet_of_same (k1 _))
      | (go_at_call 152;exact Calls.quiet_of_same (k2 _))
      | (go_at_call 120;exact Calls.quiet_of_same (k3 (((Gr.refl w).alloc _).drewN _)))
      | (go_at_call 117;exact Calls.quiet_of_same (k4 (((Gr.refl w).alloc _).drewN _)))
      | (go_at_call 115;exact Calls.quiet_of_same (k5 _))))
     go_wp2_with fail
     go_ret
     exact ⟨by rw [← HG.out];simp;omega,((Mod.refl [] w).alloc _).drewN _⟩
end Go.Proofs.YtpphoeimakjjdaaGreatDoor
/-
  PLAIN LAWS OF MEMORY: a slice of grants of one's own, each stamp in a block of its own.
-/
namespace Go.Proofs.YtpphoeimakjjdaaGreatDoor
open Go.RowKit

def encG (p:Grt × Value):List Value:=cellsG p.1 p.2
theorem encG_len (p:Grt × Value):(encG p).length=6:=rfl
theorem rdN_of_row {w:World} {base:Nat} {T:TypeId} {v:Value} {m:List Int} (h:w.ownsRow base T 1 v m.length (m.map (Value.int .i64))):RdN w v m:=by
 rcases h.2 with ⟨rfl,hn⟩ | ⟨g,cap,cur,rfl,_,hg,hh1,hh2,_⟩
 · exact ⟨by omega,.inl ⟨none,0,rfl,List.length_eq_zero_iff.1 hn⟩⟩
 · refine ⟨by omega,.inr ⟨g,0,cap,rfl,lt_of_block hg,fun i hi=>?_⟩⟩
   rw [Nat.zero_add,h.cellAt _ (by omega)]
   simp [hi]
theorem ob_of_row {w:World} {base:Nat} {T:TypeId} {sz n:Nat} {v:Value} {xs:List Value} (h:w.ownsRow base T sz v n xs):∀ k,k∈ob v→base≤k∧k<w.heap.size :=
 fun k hk=>by have:=h.lt k (by simpa [ob] using hk);omega
structure GrM (w:World) (base:Nat) (v:Value) (lv:List (Grt × Value)):Prop where
 row:w.ownsRow base 40 6 v lv.length (lv.flatMap encG)
 st:∀ p,p∈lv→w.ownsRow base 3 1 p.2 p.1.stamp.length (p.1.stamp.map (Value.int .i64))∧∀ k,k∈ob p.2→k ∉ ob v
theorem GrM.nil (w:World) (base:Nat):GrM w base (.slice none 0 0) []:=⟨World.ownsRow_nil _ _ _ _,fun p hp=>by cases hp⟩
theorem GrM.mod {w w':World} {base:Nat} {v:Value} {lv:List (Grt × Value)} (h:GrM w base v lv) {S:List Nat} (m:Mod S w w') (hS:∀ k,k∈S→k<base∨w.heap.size≤k):GrM w' base v lv:=by
 refine ⟨m.row h.row (fun k hk e=>?_),fun p hp=>⟨m.row (h.st p hp).1 (fun k hk e=>?_),(h.st p hp).2⟩⟩
 · have:=h.row.lt k hk
   have:=hS k e
   omega
 · have:=(h.st p hp).1.lt k hk
   have:=hS k e
   omega
theorem GrM.gr {w w':World} {base:Nat} {v:Value} {lv:List (Grt × Value)} (h:GrM w base v lv) (g:Gr w w'):GrM w' base v lv:=h.mod (g.mod []) (by simp)
theorem GrM.base {w:World} {base b':Nat} {v:Value} {lv:List (Grt × Value)} (h:GrM w base v lv) (hb:b'≤base):GrM w b' v lv :=
 ⟨World.ownsRow.mono h.row hb,fun p hp=>⟨World.ownsRow.mono (h.st p hp).1 hb,(h.st p hp).2⟩⟩
theorem GrM.shape {w:World} {base:Nat} {v:Value} {lv:List (Grt × Value)} (h:GrM w base v lv):∃ p c,v=.slice p lv.length c∧lv.length≤maxLen:=by
 rcases h.row.2 with ⟨rfl,hn⟩ | ⟨g,cap,cur,rfl,_,hg,hh1,hh2,_⟩
 · exact ⟨none,0,by rw [hn],by omega⟩
 · exact ⟨_,cap,rfl,by omega⟩
theorem GrM.at_ {w:World} {base:Nat} {q:Option Addr} {n c:Nat} {lv:List (Grt × Value)} (h:GrM w base (.slice q n c) lv) (i:Nat) (hi:i<lv.length) :
 ∃ b,q=some ⟨b,0,none⟩∧base≤b∧b<w.heap.size∧(∀ j,j<6→w.cell? ⟨b,i * 6+j,none⟩=(encG (lv.getD i default))[j]?)∧(∀ j,w.frozen? ⟨b,j,none⟩=false)∧RdN w (lv.getD i default).2 (lv.getD i default).1.stamp:=by
 have hm:lv.getD i default∈lv:=by simp [hi]
 have hst:=rdN_of_row (h.st _ hm).1
 rcases h.row.2 with ⟨hv,hn⟩ | ⟨g,cap,cur,hv,hb,hg,hh1,hh2,hs,ht⟩
 · omega
 · simp only [Value.slice.injEq] at hv
   obtain ⟨rfl,rfl,rfl⟩:=hv
   refine ⟨g,rfl,hb,lt_of_block hg,fun j hj=>?_,fun j=>blk_free hg j,hst⟩
   rw [h.row.cellAt (i * 6+j) (by omega),flat_get encG 6 encG_len lv i j hi hj]
end Go.Proofs.YtpphoeimakjjdaaGreatDoor
