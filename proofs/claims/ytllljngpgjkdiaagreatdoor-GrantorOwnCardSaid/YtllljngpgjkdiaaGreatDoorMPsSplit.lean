/-
  WALK: layer 1: paths.Split (strings.Split at one byte: out of the library's core, with no premise on internal/bytealg's variable).
-/
import Derived.Test.YtllljngpgjkdiaaGreatDoorMPsTree
import Derived.Test.YtllljngpgjkdiaaGreatDoorShelfSpl
import Derived.Shelf.Strings.Split
namespace Go.Proofs.YtllljngpgjkdiaaGreatDoor
open Go.RowKit Go.Shelf

theorem split_none47 {s:List UInt8} (h:∀ c,c∈s→c≠47):split47 s=[s]:=by
 induction s with
 | nil=>rfl
 | cons c r ih =>
   rw [split47_cons,if_neg (h c (by simp)),ih (fun d hd=>h d (by simp [hd]))]
   rfl
theorem splitK_47:∀ (k:Nat) (s:List UInt8),s.count 47≤k→Lib.splitK [47] 0 k s=split47 s:=by
 intro k
 induction k with
 | zero =>
   intro s hs
   refine (split_none47 fun c hc e=>?_).symm
   subst e
   have:=List.count_pos_iff.2 hc
   omega
 | succ k ih =>
   intro s hs
   have e1:Lib.splitK [47] 0 (k+1) s=if Lib.index s [47] == -1 then [s] else s.take ((Lib.index s [47]).toNat+0)::Lib.splitK [47] 0 k (s.drop ((Lib.index s [47]).toNat+1)):=rfl
   rw [e1,Lib.index_one]
   by_cases h:Lib.indexByte s 47 = -1
   · rw [h,if_pos (by rfl)]
     refine (split_none47 fun c hc e=>?_).symm
     subst e
     obtain ⟨i,hi,hx⟩:=List.getElem_of_mem hc
     exact Lib.indexByte_none h i (by rw [← hx];simp [hi])
   · rw [if_neg (by simpa using h)]
     have hge:=Lib.indexByte_ge s 47
     obtain ⟨i,hi⟩:∃ i:Nat,Lib.indexByte s 47=i:=⟨(Lib.indexByte s 47).toNat,by omega⟩
     obtain ⟨h1,h2⟩:=Lib.indexByte_some hi
     rw [hi]
     simp only [Int.toNat_natCast,Nat.add_zero]
     have hlt:i<s.length:=by
      rcases Nat.lt_or_ge i s.length with x | x
      · exact x
      · rw [List.getElem?_eq_none x] at h1;cases h1
     have hsi:s[i]=47:=by rw [List.getElem?_eq_getElem hlt] at h1;exact Option.some.inj h1
     have hs2:s=s.take i++47::s.drop (i+1):=by
      have:=List.take_append_drop i s
      rw [List.drop_eq_getElem_cons hlt,hsi] at this
      exact this.symm
     have hno:∀ c,c∈s.take i→c≠47:=by
      intro c hc e
      obtain ⟨j,hj,hx⟩:=List.getElem_of_mem hc
      have hj':j<i:=by simp at hj;omega
      refine h2 j hj' ?_
      rw [List.getElem?_eq_getElem (by omega),← e,← hx,List.getElem_take]
     have hcnt:(s.drop (i+1)).count 47≤k:=by
      have e:=congrArg (List.count 47) hs2
      rw [List.count_append,List.count_cons] at e
      simp at e
      omega
     rw [ih _ hcnt]
     conv=>rhs;rw [hs2]
     rw [split_append,split_none47 hno]
     rfl
theorem str_split_one {P:Program} {ρ:Ren} (L:Lays.n146 P ρ) (hi9:(P.info? (ρ.t 9)).map (fun i=>(i.zero,i.size,i.bytes))=some (some (.string ByteArray.empty),1,16)) (s:ByteArray) (c:UInt8) (w:World) (hs:s.size<4294967281) :
 Calls P (ρ.f 146) #[.string s,.string ⟨#[c]⟩] w fun e w' =>
  e=.returned (.slice (some ⟨w.heap.size,0,none⟩) (Lib.countB s ⟨#[c]⟩+1) (Lib.countB s ⟨#[c]⟩+1))∧w'=w.alloc (.cells ((Lib.splitB ⟨#[c]⟩ 0 (Lib.countB s ⟨#[c]⟩) s).map Value.string).toArray (ρ.t 9)):=by
 have h1:1≤(⟨#[c]⟩:ByteArray).size:=by show 1≤1;omega
 have hle:=Lib.countB_le ⟨#[c]⟩ h1 s.size s (Nat.le_refl _)
 have hlen:=Lib.splitB_all ⟨#[c]⟩ h1 0 _ s rfl
 have hC:Calls P (ρ.f 138) #[.string s,.string ⟨#[c]⟩] w fun e w'=>e=.returned (.int .i64 (Lib.countB s ⟨#[c]⟩))∧w'=w :=
  (Any.strings_Count_one { L with } s c w).mono fun e w' ⟨he,hw⟩=>⟨by
    rw [he]
    show _=Ending.returned (Value.int .i64 ((Lib.count s.data.toList [c]:Nat):Int))
    rw [Lib.count_one]
    rfl,hw⟩
 have hI:∀ (x:ByteArray) (cs:Array Value),x.size≤s.size→Calls P (ρ.f 143) #[.string x,.string ⟨#[c]⟩] (w.alloc (.cells cs (ρ.t 9))) fun e w'=>e=.returned (.int .i64 (Lib.indexB x ⟨#[c]⟩))∧w'=w.alloc (.cells cs (ρ.t 9)) :=
  fun x cs _=>(Any.strings_Index_one { L with } x c _).mono fun e w' ⟨he,hw⟩=>⟨by
   rw [he]
   show _=Ending.returned (Value.int .i64 (Lib.index x.data.toList [c]))
   rw [Lib.index_one],hw⟩
 have cc:=Any.strings_genSplit_core { L with } hi9 s ⟨#[c]⟩ 0 (-1) (Lib.countB s ⟨#[c]⟩+1) w hs h1 (Nat.zero_le _) hI hC (by decide) (by decide) (by rw [if_pos (by decide)];omega)
 rw [Nat.add_sub_cancel,hlen] at cc
 have e2:Lib.cellsOf (Lib.splitB ⟨#[c]⟩ 0 (Lib.countB s ⟨#[c]⟩) s) (Lib.countB s ⟨#[c]⟩+1)=((Lib.splitB ⟨#[c]⟩ 0 (Lib.countB s ⟨#[c]⟩) s).map Value.string).toArray:=by rw [← hlen];exact Lib.cellsOf_full _
 rw [e2] at cc
 have t3:=L.t3;have t9:=L.t9;have t31:=L.t31
 have a3:=L.a3;have a9:=L.a9;have a31:=L.a31
 have z3:=L.z3;have v3:=L.v3;have z9:=L.z9;have v9:=L.v9;have z31:=L.z31;have v31:=L.v31
 have e221:∀ args w,(callFunc (ρ.f 221) args).run P w=.ok (.enter (ρ.f 221) args) w:=enters_of L.f221 (by kernel_rfl) rfl
 go_enter L.f146,Body.n146_ntmps ρ
 go_wp2_with (go_at_fn (ρ.f 221);refine cc.mono ?_;rintro e w' ⟨rfl,hw⟩;rw [hw])
 go_ret
 exact ⟨rfl,rfl⟩
theorem info_str9:(Tryz.prog.info? 9).map (fun i=>(i.zero,i.size,i.bytes))=some (some (.string ByteArray.empty),1,16):=by kernel_rfl
def segB47 (s:ByteArray):List ByteArray:=Lib.splitB ⟨#[47]⟩ 0 (Lib.countB s ⟨#[47]⟩) s
theorem segB47_split (s:ByteArray):(segB47 s).map (fun d=>d.data.toList)=split47 s.data.toList:=by
 unfold segB47
 rw [Lib.splitB_data]
 refine splitK_47 _ _ ?_
 show _≤Lib.count s.data.toList [47]
 rw [Lib.count_one]
 exact Nat.le_refl _
def PSplit (w:World) (s:ByteArray) (e:Ending) (w':World):Prop :=
 (pathOk s.data.toList=false∧e=.returned (.tuple #[.slice none 0 0,.int .i64 10])∧w'=w) ∨
 (s.data.toList=[]∧e=.returned (.tuple #[.slice none 0 0,.int .i64 0])∧w'=w) ∨
 (pathOk s.data.toList=true∧s.data.toList≠[]∧∃ D:List ByteArray,D.map (fun d=>d.data.toList)=segsOf s.data.toList∧e=.returned (.tuple #[.slice (some ⟨w.heap.size,0,none⟩) D.length D.length,.int .i64 0])∧w'=w.alloc (.cells (D.map Value.string).toArray 9))
set_option maxRecDepth 100000 in
theorem psplit_any (s:ByteArray) (hs:s.size≤9223372036854775807) (w:World):Calls Tryz.prog 111 #[.string s] w fun e w'=>PSplit w s e w':=by
 by_cases hp:pathOk s.data.toList=true
 · by_cases h0:s.data.toList=[]
   · have h1:s.toList.isEmpty=true:=by rw [Lib.toList_data,h0];rfl
     have HF:=hide (show PSplit w s (.returned (.tuple #[.slice none 0 0,.int .i64 0])) w from .inr (.inl ⟨h0,rfl,rfl⟩))
     clear h0
     go_enter Tryz.func111,Tryz.ntmps111
     go_wp2_with fail
     refine (pvalid_any s hs _).mono ?_
     rintro e w' ⟨rfl,rfl⟩
     rw [hp]
     clear hp
     go_wp2_with fail
     go_ret2
     exact HF.out
   · have h1:s.toList.isEmpty=false:=by rw [Lib.toList_data];simpa using h0
     have hlen:=pathOk_len hp
     have hs4:s.size<4294967281:=by rw [Lib.size_eq];omega
     have hseg:=segB47_split s
     have hso:segsOf s.data.toList=split47 s.data.toList:=by unfold segsOf;rw [if_neg h0]
     have hn:(segB47 s).length=Lib.countB s ⟨#[47]⟩+1:=Lib.splitB_all ⟨#[47]⟩ (by show 1≤1;omega) 0 _ s rfl
     have HF:=hide (show PSplit w s (.returned (.tuple #[.slice (some ⟨w.heap.size,0,none⟩) (segB47 s).length (segB47 s).length,.int .i64 0])) (w.alloc (.cells ((segB47 s).map Value.string).toArray 9)) from
      .inr (.inr ⟨hp,h0,segB47 s,by rw [hso];exact hseg,rfl,rfl⟩))
     clear h0 hseg hso
     go_enter Tryz.func111,Tryz.ntmps111
     go_wp2_with fail
     refine (pvalid_any s hs _).mono ?_
     rintro e w' ⟨rfl,rfl⟩
     rw [hp]
     clear hp
     go_wp2_with fail
     refine (str_split_one Tryz.lays146 info_str9 s 47 w' hs4).mono ?_
     rintro e w2 ⟨rfl,rfl⟩
     go_wp2_with fail
     go_ret2
     rw [← hn]
     exact HF.out
 · have hp':pathOk s.data.toList=false:=by simpa using hp
   have HF:=hide (show PSplit w s (.returned (.tuple #[.slice none 0 0,.int .i64 10])) w from .inl ⟨hp',rfl,rfl⟩)
   clear hp
   go_enter Tryz.func111,Tryz.ntmps111
   go_wp2_with fail
   refine (pvalid_any s hs _).mono ?_
   rintro e w' ⟨rfl,rfl⟩
   rw [hp']
   clear hp'
   go_wp2_with fail
   go_ret2
   exact HF.out
end Go.Proofs.YtllljngpgjkdiaaGreatDoor
