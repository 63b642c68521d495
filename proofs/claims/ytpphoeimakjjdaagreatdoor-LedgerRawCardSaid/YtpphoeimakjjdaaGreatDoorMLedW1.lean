/-
  WALKS: layer 12: first, width, region; the ledger in memory.
-/
import Derived.Test.YtpphoeimakjjdaaGreatDoorMLedC
import Derived.Test.YtpphoeimakjjdaaGreatDoorMDmp
import Derived.Test.YtpphoeimakjjdaaGreatDoorMDec
import Derived.Test.YtpphoeimakjjdaaGreatDoorMDisk3
import Derived.Test.YtpphoeimakjjdaaGreatDoorMScan
namespace Go.Proofs.YtpphoeimakjjdaaGreatDoor
set_option maxRecDepth 100000
set_option maxHeartbeats 2000000
open Go.RowKit

theorem first_any (k:Nat) (hk:k≤1) (w:World):Calls Tryz.prog 51 #[.int .i64 (k:Int)] w fun e w'=>e=.returned (.int .i64 ((1+k * 24:Nat):Int))∧w'=w:=by
 have h:k=0∨k=1:=by omega
 rcases h with rfl | rfl
 · go_enter Tryz.func51,Tryz.ntmps51
   go_wp2_with fail
   go_ret
   exact ⟨rfl,rfl⟩
 · go_enter Tryz.func51,Tryz.ntmps51
   go_wp2_with fail
   go_ret
   exact ⟨rfl,rfl⟩
theorem width_any (n:Nat) (hn:n≤1000000) (w:World):Calls Tryz.prog 49 #[.int .i64 (n:Int)] w fun e w'=>e=.returned (.int .i64 (widthN n:Int))∧w'=w:=by
 have hw1:IntKind.i64.wrap ((n:Int)+47)=(n:Int)+47:=by rw [IntKind.wrap_i64];omega
 have hw2:IntKind.i64.wrap ((n:Int)+47 - 1)=(n:Int)+47 - 1:=by rw [IntKind.wrap_i64];omega
 go_enter Tryz.func49,Tryz.ntmps49
 go_wp2_with fail
 go_ret
 refine ⟨?_,rfl⟩
 show Ending.returned (.int .i64 _)=Ending.returned (.int .i64 _)
 congr 2
 unfold widthN
 omega
def lgCells (pd:Nat) (gv:Value) (l:Lg):Array Value:=#[.pointer (some ⟨pd,0,none⟩),.int .i64 (l.gen:Int),.int .i64 (l.area:Int),.int .i64 (l.seq:Int),.int .i64 (l.used:Int),.int .i64 l.book.next,.int .i64 l.book.boots,.int .i64 l.book.longest,gv,.bool l.dead]
structure LgM (w:World) (pl pd bs:Nat) (gv:Value) (lv:List (Grt × Value)) (d:Dk) (l:Lg):Prop where
 blk:w.heap[pl]?=some (.cells (lgCells pd gv l) 80 (0,0))
 dk:DkM w pd bs d
 bk:BkM w (pl+1) gv l.book lv
 lt:pd<pl∧bs<pl
def RegTo (w:World) (d:Dk) (k:Nat) (e:Ending) (w':World):Prop :=
 (d.off=true∧e=.returned (.tuple #[.slice none 0 0,.int .i64 40])∧Mod [] w w') ∨
 (d.off=false∧∃ q c vs,e=.returned (.tuple #[.slice q 24 c,.int .i64 0])∧RdsY w' w.heap.size (.slice q 24 c) vs (sideS d.secs k)∧Mod [] w w')
def RegRel (w:World) (d:Dk) (k:Nat) (u i:Value) (wr:World):Prop :=
 ∃ (j:Nat) (vs:List Value),i=.int .i64 (j:Int)∧j≤24∧RdsY wr w.heap.size u vs ((sideS d.secs k).take j)∧Mod [] w wr∧(0<j→d.off=false)
theorem side_len {s:List B8} {k:Nat} (hk:k≤1) (hs:49≤s.length):(sideS s k).length=24:=by
 unfold sideS
 rw [List.length_take,List.length_drop]
 omega
theorem side_get {s:List B8} {k j:Nat} (hj:j<24):(sideS s k).getD j []=s.getD (1+k * 24+j) []:=by
 unfold sideS
 simp [List.getD,hj,List.getElem?_drop]
theorem region_any {w:World} {pd bs:Nat} {d:Dk} (h:DkM w pd bs d) (k:Nat) (hk:k≤1) (h49:49≤d.secs.length) :
 Calls Tryz.prog 76 #[.func (.func 72) #[.pointer (some ⟨pd,0,none⟩)] #[],.int .i64 (k:Int)] w fun e w'=>RegTo w d k e w':=by
 have hf:=fun (W:World)=>first_any k hk W
 obtain ⟨F,hF⟩:∃ F,1+k * 24=F:=⟨_,rfl⟩
 rw [hF] at hf
 have hF1:F≤25:=by omega
 have HH:=Hj3 h hF hk
 clear h hF
 go_enter Tryz.func76,Tryz.ntmps76
 go_wp2_with fail
 go_loopw [6,10] (fun u i wr=>RegRel w d k u i wr) (fun _ i _=>24 - (intOf i).toNat)
 case atStart=>exact ⟨0,[],rfl,Nat.zero_le _,by rw [List.take_zero];exact RdsY.nil _ _,Mod.refl _ _,fun h=>absurd h (Nat.lt_irrefl 0)⟩
 case round =>
  obtain ⟨j,vs,rfl,hj,hr,hm,hoff⟩:=hrel
  by_cases hlt:j<24
  · have hjn:(j:Int)<24:=by omega
    have hrd:=read_any (HH.out.1.mod hm (by simp) (by simp)) (F+j)
    have hfk:1+k * 24+j=F+j:=by rw [HH.out.2.1]
    have hwr:IntKind.i64.wrap ((F:Int)+(j:Int))=(F:Int)+(j:Int):=by rw [IntKind.wrap_i64];omega
    cases hd:d.off with
    | true =>
      have hfd:faultD d (F+j)=40:=by unfold faultD;rw [if_pos hd]
      have hrd2:=hrd.mono (R':=fun e w'=>e=.returned (.tuple #[.slice none 0 0,.int .i64 40])∧w'=wr) (fun e w' hx=>by
       rcases hx with ⟨_,h1,h2⟩ | ⟨h0,_⟩
       · rw [hfd] at h1;exact ⟨h1,h2⟩
       · rw [hfd] at h0;cases h0)
      have HM:=Hj2 hd hm
      clear hrd hfd hfk hd hm hr hoff
      go_wp2_with (first
       | (go_at_call 51;refine (hf _).mono ?_;rintro e w1 ⟨rfl,rfl⟩)
       | (go_at_call 72;refine hrd2.mono ?_;rintro e w1 ⟨rfl,rfl⟩)
       | fail)
      go_ret2
      exact .inl ⟨HM.out.1,rfl,HM.out.2⟩
    | false =>
      have hfd:faultD d (F+j)=0:=by unfold faultD;rw [if_neg (by simp [hd]),if_neg (by omega)]
      have hgj:=side_get (s:=d.secs) (k:=k) hlt
      rw [hfk] at hgj
      have hln:=HH.out.1.ok.all (F+j) (by omega)
      have hsn:(sideS d.secs k).take (j+1)=(sideS d.secs k).take j++[d.secs.getD (F+j) []]:=by
       have hl:=side_len (s:=d.secs) HH.out.2.2 h49
       rw [List.take_add_one,← hgj]
       simp [hl,hlt]
      have hrd2:=hrd.mono (R':=fun e w'=>e=.returned (.tuple #[.slice (some ⟨wr.heap.size,0,none⟩) 64 64,.int .i64 0])∧w'=wr.alloc (.cells ((d.secs.getD (F+j) []).map y8).toArray 114 (0,0))) (fun e w' hx=>by
       rcases hx with ⟨h0,_⟩ | ⟨_,_,h1,h2⟩
       · exact absurd hfd h0
       · exact ⟨h1,h2⟩)
      generalize d.secs.getD (F+j) []=B at hrd2 hln hsn
      obtain ⟨W1,hW1⟩:∃ W1,W1=wr.alloc (.cells (B.map y8).toArray 114 (0,0)):=⟨_,rfl⟩
      have g1:Gr wr W1:=by rw [hW1];exact (Gr.refl wr).alloc _
      have hb1:W1.heap[wr.heap.size]?=some (.cells (B.map y8).toArray 114 (0,0)):=by rw [hW1];exact heap_alloc_new wr _
      rw [← hW1] at hrd2
      have hel:ElY W1 w.heap.size (.slice (some ⟨wr.heap.size,0,none⟩) 64 64) B:=by
       refine ⟨⟨by rw [hln];decide,.inr ⟨wr.heap.size,0,64,by rw [hln],⟨by rw [hln];exact Nat.le_refl _,by decide⟩,lt_of_block hb1,fun i hi=>?_⟩⟩,fun q hq=>?_⟩
       · rw [Nat.zero_add,blk_cell hb1,List.getElem?_toArray,map_y8_get B hi]
       · have:q=wr.heap.size:=by simpa [ob,Value.ownBlock] using hq
         subst this
         exact ⟨hm.size,lt_of_block hb1⟩
      obtain ⟨W2,hW2⟩:∃ W2,W2=W1.alloc (.cells #[.slice (some ⟨wr.heap.size,0,none⟩) 64 64] 71 (0,0)):=⟨_,rfl⟩
      have g2:Gr W1 W2:=by rw [hW2];exact (Gr.refl W1).alloc _
      have hb2:W2.heap[W1.heap.size]?=some (.cells #[.slice (some ⟨wr.heap.size,0,none⟩) 64 64] 71 (0,0)):=by rw [hW2];exact heap_alloc_new W1 _
      have hou:∀ q,q∈ob u6→w.heap.size≤q∧q<wr.heap.size:=hr.blk
      have hlj:((sideS d.secs k).take j).length≤1000000:=by rw [List.length_take];omega
      have hr2:=hr.mod ((g1.mod []).then (g2.mod [])) (by simp)
      have hel2:=hel.gr g2
      have hsz:=hm.size
      have hsg:=g1.size
      have hsg2:=g2.size
      have HM:=Hj6 hd hm g1 g2 hsn hou
      have HR:=Hj4 hr2 hel2 hb2 hlj
      clear hrd hfd hfk hd hm hr hoff g1 g2 hb1 hb2 hel hr2 hel2 hlj hou hsn hgj hW1 hln
      go_wp2_with (first
       | (go_at_call 51;refine (hf _).mono ?_;rintro e w1 ⟨rfl,hx1⟩;rw [hx1];clear hx1)
       | (go_at_call 72;refine hrd2.mono ?_;rintro e w1 ⟨rfl,hx1⟩;rw [hx1];clear hx1)
       | (at_builtin
          try rw [← hW2]
          refine wpList_app_rs W2 rfl _ _ rfl w.heap.size u6 vs _ rfl HR.out.1 W1.heap.size _ B rfl HR.out.2.2.1 rfl HR.out.2.1 (fun q hq=>?_) HR.out.2.2.2 (by omega) ?_
          · have:q=wr.heap.size:=by simpa [ob,Value.ownBlock] using hq
            subst this
            exact fun e=>by have:=(HM.out.2.2.2.2.2 _ e).2;omega
          intro g cap w3 hr3 hm3 hg3 hg4
          have H3:=Hj2 hr3 hm3
          clear hr3 hm3 hg3 hg4)
       | fail)
      go_roundw
      case rel =>
       obtain ⟨hd,hm,g1,g2,hsn,hou⟩:=HM.out
       obtain ⟨hr3,hm3⟩:=H3.out
       refine ⟨j+1,vs++[.slice (some ⟨wr.heap.size,0,none⟩) 64 64],by go_num,by omega,by rw [hsn];rw [List.length_take] at hr3;exact hr3,((hm.gr g1).gr g2).trans hm3 (by simp) (fun x hx hlt=>by have:=(hou x hx).1;omega),fun _=>hd⟩
      case measure=>simp [intOf];omega
  · obtain rfl:j=24:=by omega
    have hl:=side_len (s:=d.secs) HH.out.2.2 h49
    rw [List.take_of_length_le (by omega)] at hr
    obtain ⟨q,c,hu,_⟩:=hr.shape
    rw [hl] at hu
    subst hu
    have HE:=Hj3 hr hm (hoff (by decide))
    clear hr hm hoff hl
    go_wp2_with fail
    go_ret2
    exact .inr ⟨HE.out.2.2,q,c,vs,rfl,HE.out.1,HE.out.2.1⟩
end Go.Proofs.YtpphoeimakjjdaaGreatDoor
