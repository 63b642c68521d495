/-
  LedW2 LedW3 LedW4 LedW5 LedW6 LedW7 LedW8 LedW9 LedK: see the remarks below.
-/
import Derived.Test.YtpphoeimakjjdaaGreatDoorMWpL
import Derived.Test.YtpphoeimakjjdaaGreatDoorMLedW1
import Derived.Test.YtpphoeimakjjdaaGreatDoorMDmp
import Derived.Test.YtpphoeimakjjdaaGreatDoorMPack
import Derived.Test.YtpphoeimakjjdaaGreatDoorMPart
import Derived.Test.YtpphoeimakjjdaaGreatDoorMLedC
/-
  WALKS: layer 12: put, name. (Written by wip/gen_led2.py.)
-/
namespace Go.Proofs.YtpphoeimakjjdaaGreatDoor
set_option maxRecDepth 100000
set_option maxHeartbeats 4000000
open Go.RowKit Go.Shelf

section
variable {w w':World} {pl pd bs:Nat} {gv gv':Value} {lv lv':List (Grt × Value)} {d d':Dk} {l l':Lg}
theorem LgM.disk (h:LgM w pl pd bs gv lv d l) (hd:DkM w' pd bs d') (m:Mod [pd,bs] w w'):LgM w' pl pd bs gv lv d' l:=by
 have:=h.lt
 exact ⟨m.at_ h.blk (by simp;omega),hd,⟨h.bk.gr.mod m (fun k hk=>by simp at hk;omega),h.bk.eq⟩,h.lt⟩
theorem LgM.quiet (h:LgM w pl pd bs gv lv d l) (m:Mod [] w w'):LgM w' pl pd bs gv lv d l :=
 ⟨m.at_ h.blk (by simp),h.dk.mod m (by simp) (by simp),⟨h.bk.gr.mod m (by simp),h.bk.eq⟩,h.lt⟩
theorem LgM.cells (h:LgM w pl pd bs gv lv d l) (hb:w'.heap[pl]?=some (.cells (lgCells pd gv' l') 80 (0,0))) (m:Mod [pl] w w') (hk:BkM w' (pl+1) gv' l'.book lv'):LgM w' pl pd bs gv' lv' d l':=by
 have:=h.lt
 exact ⟨hb,h.dk.mod m (by simp;omega) (by simp;omega),hk,h.lt⟩
theorem LgM.bkm (h:LgM w pl pd bs gv lv d l) (m:Mod [pl] w w'):BkM w' (pl+1) gv l.book lv:=⟨h.bk.gr.mod m (fun k hk=>by simp at hk;omega),h.bk.eq⟩
end
def TP (pl pd rb i:Nat) (sv:Value) (w:World):Prop:=w.cell? ⟨pl,0,none⟩=some (.pointer (some ⟨pd,0,none⟩))∧w.cell? ⟨rb,i,none⟩=some sv
def PutTo (w:World) (pl pd bs:Nat) (gv:Value) (lv:List (Grt × Value)) (l:Lg) (t:Int × Dk) (e:Ending) (w':World):Prop :=
 e=.returned (.int .i64 t.1)∧LgM w' pl pd bs gv lv t.2 (if t.1=40 then deadL l else l)∧Mod [pl,pd,bs] w w'
def PutRel (w1:World) (pl pd bs:Nat) (gv:Value) (lv:List (Grt × Value)) (l:Lg) (at_:Nat) (L:List B8) (t:Int × Dk) (s12 s13:Value) (wr:World):Prop :=
 ∃ (i:Nat) (e:Int) (di:Dk),s13=.int .i64 (i:Int)∧s12=.int .i64 e∧i≤L.length∧LgM wr pl pd bs gv lv di l∧Mod [pd,bs] w1 wr∧((e=0∧writesD di (at_+i) (L.drop i)=t)∨(e≠0∧(e,di)=t))
theorem lput_any {w:World} {pl pd bs:Nat} {gv:Value} {lv:List (Grt × Value)} {d:Dk} {l:Lg} (h:LgM w pl pd bs gv lv d l) (at_ gen seq:Nat) {u:Value} {data:B8} (hu:RdY w u data) (hg:1≤gen∧gen≤1073741824) (hs:seq≤1073741824) (hd:data.length≤188) (hbk:∀ k,k∈ob u→k<w.heap.size) (ha:at_≤1000) :
 Calls Tryz.prog 50 #[.pointer (some ⟨pl,0,none⟩),.int .i64 (at_:Int),.int .i64 (gen:Int),.int .i64 (seq:Int),u] w fun e w'=>PutTo w pl pd bs gv lv l (putD d at_ gen seq data) e w':=by
 have hpk:=pack_any hu gen seq hg hs hd hbk
 unfold putD
 have hpl:(packL gen seq data).length≤4:=by rw [packL_len];unfold widthN;omega
 have h64:∀ b,b∈packL gen seq data→b.length=64:=pack_64
 generalize packL gen seq data=L at hpk hpl h64
 obtain ⟨t,ht⟩:∃ t,writesD d at_ L=t:=⟨_,rfl⟩
 rw [ht]
 have hlt:=h.lt
 have hplw:=lt_of_block h.blk
 have HH:=Hj2 h ht
 clear h ht hu hg hs hd hbk
 go_enter Tryz.func50,Tryz.ntmps50
 go_upto_region 3 with (go_at_call 74;refine hpk.mono ?_;rintro e w1 ⟨v,vs,rfl,hr1,hm1⟩
                        obtain ⟨q1,c1,hv1,-⟩:=hr1.shape
                        subst hv1
                        have H1:=Hj2 hr1 hm1
                        clear hr1 hm1 hpk)
 have hL63:L.length≤9223372036854775807:=by omega
 go_loopw [12,13] (fun s12 s13 wr=>PutRel w1 pl pd bs gv lv l at_ L t s12 s13 wr) (fun _ i _=>L.length - (intOf i).toNat)
 case atStart=>exact ⟨0,0,d,rfl,rfl,Nat.zero_le _,HH.out.1.quiet H1.out.2,Mod.refl _ _,.inl ⟨rfl,by simpa using HH.out.2⟩⟩
 case round =>
  obtain ⟨i,e,di,rfl,rfl,hi,hlg,hm,hor⟩:=hrel
  by_cases hgo:i<L.length∧e=0
  · obtain ⟨hlt2,rfl⟩:=hgo
    have hwd:writesD di (at_+i) (L.drop i)=t:=by
     rcases hor with ⟨_,h1⟩ | ⟨h1,_⟩
     · exact h1
     · exact absurd rfl h1
    have hci:(i:Int)<(L.length:Int):=by omega
    have hwa:IntKind.i64.wrap ((at_:Int)+(i:Int))=(at_:Int)+(i:Int):=by rw [IntKind.wrap_i64];omega
    have hwi:IntKind.i64.wrap ((i:Int)+1)=(i:Int)+1:=by rw [IntKind.wrap_i64];omega
    obtain ⟨rb,rfl,hrb,hcv,hel⟩:=(H1.out.1.mod hm (fun k hk=>by have:=H1.out.2.size;simp at hk;omega)).at_ i hlt2
    have hrbw:w.heap.size≤rb:=(H1.out.1.blk rb (by simp [ob,Value.ownBlock])).1
    have hdrop:L.drop i=L.getD i []::L.drop (i+1):=by rw [List.drop_eq_getElem_cons hlt2];simp [hlt2]
    generalize hsv:vs.getD i nilS=sv at hcv hel
    have hsvb:bs ∉ ob sv:=fun e=>by have:=(hel.blk bs e).1;omega
    have hwr:=write_any (hlg.dk.mod (Mod.refl [] wr).drew (by simp) (by simp)) (at_+i) (bv:=sv) (b:=L.getD i []) (hel.rd.gr (Gr.refl wr).drew) hsvb
    rw [hdrop] at hwd
    unfold writesD at hwd
    generalize L.getD i []=B at hwr hwd
    have hTP:TP pl pd rb i sv wr.drew:=⟨blk_cell hlg.blk 0,hcv⟩
    have HM:=Hj3 hlg hm hwd
    have hpr:pl≠pd∧pl≠bs:=by omega
    have hrr:rb≠pd∧rb≠bs:=by omega
    clear hor hwd hlg hm hel hsv hdrop hcv hsvb
    go_upto_region 5 with fail
    refine pB 12 (TP pl pd rb i sv) (hTP) ?_
    refine pP 0 ?_;refine pP 1 ?_;refine pP 2 ?_
    refine pT 3 rfl [12] (fun w hSw=>by have C0:=hSw.1;go_simp;try with_reducible rfl) ?_
    refine pP 4 ?_;refine pP 5 ?_;refine pP 6 ?_;refine pP 7 ?_;refine pP 8 ?_;refine pP 9 ?_
    refine pT 10 rfl [12] (fun w hSw=>by have C0:=hSw.2;go_simp;try with_reducible rfl) ?_
    refine pX 11 fun hT K HK=>?_
    refine step_call rfl 75 #[.tmp 34,.tmp 37,.tmp 41] #[22,3,71] rfl (enters_of Tryz.func75 (by kernel_rfl) rfl) #[.pointer (some ⟨pd,0,none⟩),.int .i64 ((at_:Int)+(i:Int)),sv] (by simp [Act.eval]) ?_
    refine hwr.mono ?_
    rintro e w3 ⟨rfl,hdk3,hm3⟩
    refine ⟨_,rfl,?_⟩
    have hT2:TP pl pd rb i sv w3:=⟨hm3.kept hT.1 (by simp;omega),hm3.kept hT.2 (by simp;omega)⟩
    have H3:=Hj2 hdk3 hm3
    clear hdk3 hm3
    refine HK.out _ _ _ hT2 ?_
    clear HK K hT hT2
    refine pY 12 fun hT K HK=>?_
    go_simp
    refine HK.out _ _ _ ?_
    clear HK K hT
    refine pD ?_
    go_wp2_with fail
    go_roundw
    case rel =>
     obtain ⟨hlg,hm,hwd⟩:=HM.out
     obtain ⟨hdk3,hm3⟩:=H3.out
     refine ⟨i+1,(writeD di (at_+i) B).1,(writeD di (at_+i) B).2,by go_num,rfl,by omega,hlg.disk hdk3 (Mod.then (Mod.refl _ _).drew hm3),hm.drew.then hm3,?_⟩
     by_cases h0:(writeD di (at_+i) B).1=0
     · rw [if_pos h0] at hwd
       exact .inl ⟨h0,by rw [← hwd];rfl⟩
     · rw [if_neg h0] at hwd
       exact .inr ⟨h0,hwd⟩
    case measure=>simp [intOf];omega
  · have hend:(e,di)=t:=by
     rcases hor with ⟨h0,h1⟩ | ⟨_,h1⟩
     · subst h0
       have:¬ i<L.length:=fun x=>hgo ⟨x,rfl⟩
       rw [List.drop_of_length_le (by omega)] at h1
       exact h1
     · exact h1
    subst hend
    have hcc:((i:Int)<(L.length:Int)∧(e==0)=false)∨¬ (i:Int)<(L.length:Int):=by
     by_cases hx:i<L.length
     · exact .inl ⟨by omega,by simpa using fun h0=>hgo ⟨hx,h0⟩⟩
     · exact .inr (by omega)
    have hb:=hlg.blk
    have F9:=blk_free hb 9
    have C9:wr.cell? ⟨pl,9,none⟩=some (.bool l.dead):=blk_cell hb 9
    have HM:=Hj2 hlg (hm.mono (T:=[pl,pd,bs]) (fun x hx _=>by simp at hx ⊢;omega))
    have H1m:=H1.out.2
    clear hlg hm hor hgo hb
    by_cases he:e=40
    · subst he
      rcases hcc with ⟨hc1,hc2⟩ | hc1
      all_goals
       go_wp2_with fail
       go_ret
       refine ⟨rfl,?_,((H1m.mono (by simp)).then HM.out.2).setCell (fun _=>by simp) _⟩
       have hms:Mod [pl] wr (wr.setCell ⟨pl,9,none⟩ (.bool true)):=(Mod.refl _ _).setCell (fun _=>by simp) _
       rw [if_pos rfl]
       exact HM.out.1.cells (l':=deadL l) (blk_set HM.out.1.blk 9 _) hms (HM.out.1.bkm hms)
    · have he2:(e==40)=false:=by simpa using he
      have HE:=hide he
      clear he C9 F9
      rcases hcc with ⟨hc1,hc2⟩ | hc1
      all_goals
       go_wp2_with fail
       go_ret
       exact ⟨rfl,by rw [if_neg HE.out];exact HM.out.1,(H1m.mono (by simp)).then HM.out.2⟩
theorem pack_head (gen k:Nat):packL gen 0 [UInt8.ofNat k]=[headB gen k]:=by
 unfold packL headB widthN pieceS
 simp
def NameTo (w:World) (pl pd bs:Nat) (gv:Value) (lv:List (Grt × Value)) (l:Lg) (t:Int × Dk) (e:Ending) (w':World):Prop :=
 e=.returned (.int .i64 t.1)∧LgM w' pl pd bs gv lv t.2 l∧Mod [pd,bs] w w'
theorem name_any {w:World} {pl pd bs:Nat} {gv:Value} {lv:List (Grt × Value)} {d:Dk} {l:Lg} (h:LgM w pl pd bs gv lv d l) (gen k:Nat) (hg:1≤gen∧gen≤1073741824) (hk:k≤1) :
 Calls Tryz.prog 44 #[.pointer (some ⟨pl,0,none⟩),.int .i64 (gen:Int),.int .i64 (k:Int)] w fun e w'=>NameTo w pl pd bs gv lv l (nameD d gen k) e w':=by
 obtain ⟨W0,hW0⟩:∃ W0,W0=w.alloc (.cells #[.int .u8 (k:Int)] 5 (0,0)):=⟨_,rfl⟩
 have hb0:W0.heap[w.heap.size]?=some (.cells #[.int .u8 (k:Int)] 5 (0,0)):=by rw [hW0];exact heap_alloc_new w _
 have g0:Gr w W0:=by rw [hW0];exact (Gr.refl w).alloc _
 have hu:RdY W0 (.slice (some ⟨w.heap.size,0,none⟩) 1 1) [UInt8.ofNat k]:=by
  refine ⟨by show 1≤maxLen;decide,.inr ⟨w.heap.size,0,1,rfl,⟨Nat.le_refl _,by decide⟩,lt_of_block hb0,fun i hi=>?_⟩⟩
  obtain rfl:i=0:=by simp at hi;omega
  rw [blk_cell hb0]
  have h8:k=0∨k=1:=by omega
  rcases h8 with rfl | rfl <;> rfl
 have hpk:=pack_any hu gen 0 hg (by omega) (by simp) (fun x hx=>by
  have:x=w.heap.size:=by simpa [ob,Value.ownBlock] using hx
  subst this
  exact lt_of_block hb0)
 rw [pack_head] at hpk
 have hw8:IntKind.u8.wrap (k:Int)=(k:Int):=by
  have h8:k=0∨k=1:=by omega
  rcases h8 with rfl | rfl <;> rfl
 have hlt:=h.lt
 have hplw:=lt_of_block h.blk
 have HH:=Hj2 h g0
 clear h g0 hb0 hu
 unfold nameD
 go_enter Tryz.func44,Tryz.ntmps44
 go_upto_region 3 with (
  go_at_call 74
  try rw [← hW0]
  refine hpk.mono ?_;rintro e w2 ⟨v,vs,rfl,hr1,hm1⟩
  obtain ⟨q1,c1,hv1,-⟩:=hr1.shape
  subst hv1
  have H1:=Hj2 hr1 hm1
  clear hr1 hm1 hpk)
 have hlg:=HH.out.1.quiet ((HH.out.2.mod []).then H1.out.2)
 obtain ⟨rb,rfl,hrb,hcv,hel⟩:=H1.out.1.at_ 0 (by simp)
 have hsz0:=HH.out.2.size
 have hrbw:W0.heap.size≤rb:=(H1.out.1.blk rb (by simp [ob,Value.ownBlock])).1
 generalize hsv:vs.getD 0 nilS=sv at hcv hel
 have hsvb:bs ∉ ob sv:=fun e=>by have:=(hel.blk bs e).1;omega
 have hwr:=write_any (hlg.dk.mod (Mod.refl [] w2).drew (by simp) (by simp)) 0 (bv:=sv) (b:=headB gen k) (hel.rd.gr (Gr.refl w2).drew) hsvb
 have hTP:TP pl pd rb 0 sv w2.drew:=⟨blk_cell hlg.blk 0,hcv⟩
 have HM:=hide hlg
 have hpr:pl≠pd∧pl≠bs:=by omega
 have hrr:rb≠pd∧rb≠bs:=by omega
 clear hlg hel hsv hcv hsvb
 refine pB 8 (TP pl pd rb 0 sv) (hTP) ?_
 refine pP 0 ?_;refine pP 1 ?_;refine pP 2 ?_
 refine pT 3 rfl [8] (fun w hSw=>by have C0:=hSw.1;go_simp;try with_reducible rfl) ?_
 refine pP 4 ?_;refine pP 5 ?_
 refine pT 6 rfl [8] (fun w hSw=>by have C0:=hSw.2;go_simp;try with_reducible rfl) ?_
 refine pX 7 fun hT K HK=>?_
 refine step_call rfl 75 #[.tmp 22,.const (.int .i64 0),.tmp 25] #[22,3,71] rfl (enters_of Tryz.func75 (by kernel_rfl) rfl) #[.pointer (some ⟨pd,0,none⟩),.int .i64 0,sv] (by simp [Act.eval]) ?_
 refine hwr.mono ?_
 rintro e w3 ⟨rfl,hdk3,hm3⟩
 refine ⟨_,rfl,?_⟩
 have hT2:TP pl pd rb 0 sv w3:=⟨hm3.kept hT.1 (by simp;omega),hm3.kept hT.2 (by simp;omega)⟩
 have H3:=Hj2 hdk3 hm3
 clear hdk3 hm3
 refine HK.out _ _ _ hT2 ?_
 clear HK K hT hT2
 refine pY 8 fun hT K HK=>?_
 go_simp
 refine HK.out _ _ _ ?_
 clear HK K hT
 refine pD ?_
 go_wp2_with fail
 go_ret
 exact ⟨rfl,HM.out.disk H3.out.1 (Mod.then (Mod.refl _ _).drew H3.out.2),((((HH.out.2.mod []).then H1.out.2).drew.mono (by simp)).then H3.out.2)⟩
end Go.Proofs.YtpphoeimakjjdaaGreatDoor
/-
  WALKS: layer 12: named. (Written by wip/gen_led3.py.)
-/
namespace Go.Proofs.YtpphoeimakjjdaaGreatDoor
set_option maxRecDepth 100000
set_option maxHeartbeats 4000000
open Go.RowKit Go.Shelf

def TD (bx db g:Nat) (q:Value) (c:UInt8) (w:World):Prop:=w.cell? ⟨bx,0,none⟩=some (.int .i64 (g:Int))∧w.cell? ⟨bx,4,none⟩=some q∧w.cell? ⟨db,0,none⟩=some (.int .u8 (c.toNat:Int))
theorem TD.set {bx db g pl:Nat} {q:Value} {c:UInt8} {w:World} (h:TD bx db g q c w) (h1:pl≠bx) (h2:pl≠db) (o:Nat) (y:Value):TD bx db g q c (w.setCell ⟨pl,o,none⟩ y) :=
 have m:Mod [pl] w (w.setCell ⟨pl,o,none⟩ y):=(Mod.refl _ _).setCell (fun _=>by simp) _
 ⟨m.kept h.1 (by simp;omega),m.kept h.2.1 (by simp;omega),m.kept h.2.2 (by simp;omega)⟩
theorem RowY.head {w:World} {base:Nat} {q:Option Addr} {n c:Nat} {cb:UInt8} {l:B8} (h:RowY w base (.slice q n c) (cb::l)):∃ db,q=some ⟨db,0,none⟩∧db<w.heap.size∧base≤db∧w.cell? ⟨db,0,none⟩=some (.int .u8 (cb.toNat:Int)):=by
 unfold RowY at h
 rcases h.2 with ⟨hv,hn⟩ | ⟨g,cap,cur,hv,hb,hg,hh1,hh2,hs,ht⟩
 · simp at hn
 · simp only [Value.slice.injEq] at hv
   obtain ⟨rfl,rfl,rfl⟩:=hv
   refine ⟨g,rfl,lt_of_block hg,hb,?_⟩
   rw [h.cellAt 0 (by simp)]
   rfl
def NamedTo (w:World) (pl pd bs:Nat) (gv:Value) (lv:List (Grt × Value)) (d:Dk) (l:Lg) (o:Option (Nat × Nat)) (e:Ending) (w':World):Prop :=
 (d.off=true∧e=.returned (.tuple #[.bool false,.int .i64 40])∧LgM w' pl pd bs gv lv d l∧Mod [] w w') ∨
 (d.off=false∧o=none∧e=.returned (.tuple #[.bool false,.int .i64 0])∧LgM w' pl pd bs gv lv d l∧Mod [] w w') ∨
 (d.off=false∧∃ g k,o=some (g,k)∧e=.returned (.tuple #[.bool true,.int .i64 0])∧LgM w' pl pd bs gv lv d { l with gen:=g,area:=k }∧Mod [pl] w w')
theorem named_any {w:World} {pl pd bs:Nat} {gv:Value} {lv:List (Grt × Value)} {d:Dk} {l:Lg} (h:LgM w pl pd bs gv lv d l) :
 Calls Tryz.prog 43 #[.pointer (some ⟨pl,0,none⟩)] w fun e w'=>NamedTo w pl pd bs gv lv d l (headS (d.secs.getD 0 [])) e w':=by
 have hlt:=h.lt
 have hplw:=lt_of_block h.blk
 have C0:=blk_cell h.blk
 unfold lgCells at C0
 have hrd:=read_any h.dk 0
 cases hd:d.off with
 | true =>
   have hfd:faultD d 0=40:=by unfold faultD;rw [if_pos hd]
   have hrd2:=hrd.mono (R':=fun e w'=>e=.returned (.tuple #[.slice none 0 0,.int .i64 40])∧w'=w) (fun e w' hx=>by
    rcases hx with ⟨_,h1,h2⟩ | ⟨h0,_⟩
    · rw [hfd] at h1;exact ⟨h1,h2⟩
    · rw [hfd] at h0;cases h0)
   have HH:=Hj2 h hd
   clear hrd hfd hd h
   go_enter Tryz.func43,Tryz.ntmps43
   go_wp2_with (go_at_call 72;refine hrd2.mono ?_;rintro e w1 ⟨rfl,hx1⟩;rw [hx1];clear hx1)
   go_ret2
   exact .inl ⟨HH.out.2,rfl,HH.out.1,Mod.refl _ _⟩
 | false =>
 have hfd:faultD d 0=0:=by unfold faultD;rw [if_neg (by simp [hd]),if_neg (by have:=h.dk.ok.least;omega)]
 have hrd2:=hrd.mono (R':=fun e w'=>e=.returned (.tuple #[.slice (some ⟨w.heap.size,0,none⟩) 64 64,.int .i64 0])∧w'=w.alloc (.cells ((d.secs.getD 0 []).map y8).toArray 114 (0,0))) (fun e w' hx=>by
  rcases hx with ⟨h0,_⟩ | ⟨_,_,h1,h2⟩
  · exact absurd hfd h0
  · exact ⟨h1,h2⟩)
 have hln:=h.dk.ok.all 0 (by have:=h.dk.ok.least;omega)
 generalize d.secs.getD 0 []=B at hrd2 hln ⊢
 obtain ⟨W1,hW1⟩:∃ W1,W1=w.alloc (.cells (B.map y8).toArray 114 (0,0)):=⟨_,rfl⟩
 have g1:Gr w W1:=by rw [hW1];exact (Gr.refl w).alloc _
 have hb1:W1.heap[w.heap.size]?=some (.cells (B.map y8).toArray 114 (0,0)):=by rw [hW1];exact heap_alloc_new w _
 rw [← hW1] at hrd2
 have hel:RdY W1 (.slice (some ⟨w.heap.size,0,none⟩) 64 64) B:=by
  refine ⟨by rw [hln];decide,.inr ⟨w.heap.size,0,64,by rw [hln],⟨by rw [hln];exact Nat.le_refl _,by decide⟩,lt_of_block hb1,fun i hi=>?_⟩⟩
  rw [Nat.zero_add,blk_cell hb1,List.getElem?_toArray,map_y8_get B hi]
 have hlk:=look_any hel
 have hlg1:=h.quiet (g1.mod [])
 have HH:=Hj3 hlg1 hd (g1.mod [])
 have hoff:=hd
 clear hrd hfd h hb1 hel hW1 g1 hlg1 hd
 cases hlo:lookS B with
 | none =>
   rw [hlo] at hlk
   have hhe:headS B=none:=by unfold headS;rw [hlo];rfl
   rw [hhe]
   clear hhe hlo
   go_enter Tryz.func43,Tryz.ntmps43
   go_wp2_with (first
    | (go_at_call 72;refine hrd2.mono ?_;rintro e w1 ⟨rfl,hx1⟩;rw [hx1];clear hx1)
    | (go_at_call 73;refine hlk.mono ?_;rintro e w2 ⟨rfl,hm2⟩;have H2:=hide hm2;clear hm2 hlk)
    | fail)
   go_ret2
   have hq:Mod [] W1 _:=(H2.out).alloc (.cells #[.int .i64 0,.int .i64 0,.int .i64 0,.int .i64 0,.slice none 0 0] 118 (0,0))
   exact .inr (.inl ⟨HH.out.2.1,rfl,rfl,HH.out.1.quiet hq,HH.out.2.2.then hq⟩)
 | some p =>
   rw [hlo] at hlk
   obtain ⟨g,sq,ix,pa,dt⟩:=p
   unfold LookTo at hlk
   simp only at hlk
   have hhe:headS B=if sq=0∧pa=1∧dt.length=1∧(dt.getD 0 0).toNat≤1 then some (g,(dt.getD 0 0).toNat) else none:=by unfold headS;rw [hlo];rfl
   have hfit:=(look_fits hlo).2.1
   simp only at hfit
   clear hlo
   rw [hhe]
   clear hhe
   by_cases hgood:sq=0∧pa=1∧dt.length=1∧(dt.getD 0 0).toNat≤1
   · rw [if_pos hgood]
     obtain ⟨rfl,rfl,hl1,hc1⟩:=hgood
     obtain ⟨cb,hdt⟩:∃ cb,dt=[cb]:=by
      match dt,hl1 with
      | [x],_=>exact ⟨x,rfl⟩
     subst hdt
     simp only [List.getD_cons_zero] at hc1 ⊢
     clear hl1
     go_enter Tryz.func43,Tryz.ntmps43
     go_upto_region 7 with (first
      | (go_at_call 72;refine hrd2.mono ?_;rintro e w1 ⟨rfl,hx1⟩;rw [hx1];clear hx1)
      | (go_at_call 73;refine hlk.mono ?_;rintro e w2 ⟨q,c,rfl,hr2,hm2⟩
         obtain ⟨db,hdb,hdbw,hdbb,hdc⟩:=hr2.head
         subst hdb
         have H2:=Hj4 hdc hm2 hdbw hdbb
         clear hr2 hm2 hlk hdbb)
      | fail)
     obtain ⟨w3,hw3⟩:∃ w3,w3=w2.alloc (.cells #[.int .i64 (g:Int),.int .i64 0,.int .i64 (ix:Int),.int .i64 1,.slice (some ⟨db,0,none⟩) 1 c] 118 (0,0)):=⟨_,rfl⟩
     rw [← hw3]
     have g3:Gr w2 w3:=by rw [hw3];exact (Gr.refl w2).alloc _
     have hp3:w3.heap[w2.heap.size]?=some (.cells #[.int .i64 (g:Int),.int .i64 0,.int .i64 (ix:Int),.int .i64 1,.slice (some ⟨db,0,none⟩) 1 c] 118 (0,0)):=by rw [hw3];exact heap_alloc_new w2 _
     have hm13:Mod [] W1 w3:=H2.out.2.1.gr g3
     have hlg3:=HH.out.1.quiet hm13
     have hTD:TD w2.heap.size db g (.slice (some ⟨db,0,none⟩) 1 c) cb w3.drew:=⟨blk_cell hp3 0,blk_cell hp3 4,g3.kept H2.out.1⟩
     have hsz1:=HH.out.2.2.size
     have hsz2:=H2.out.2.1.size
     have hbx:pl≠w2.heap.size:=by omega
     have hdb:pl≠db:=by have:=H2.out.2.2.2;omega
     have hwc:IntKind.i64.wrap (cb.toNat:Int)=(cb.toNat:Int):=by rw [IntKind.wrap_i64];omega
     have HL3:=hide hlg3
     have HM3:=hide (HH.out.2.2.then hm13)
     obtain ⟨bx,hbxe⟩:∃ bx,w2.heap.size=bx:=⟨_,rfl⟩
     rw [hbxe] at hTD hbx ⊢
     clear hw3 g3 hp3 hm13 hlg3 H2 hsz1 hsz2 hbxe hdc hdbw C0
     refine pB 14 (TD bx db g (.slice (some ⟨db,0,none⟩) 1 c) cb) (hTD) ?_
     refine pP 0 ?_;refine pP 1 ?_;refine pP 2 ?_
     refine pT 3 rfl [14] (fun w hSw=>by have C0:=hSw.1;have C1:=hSw.2.1;have C2:=hSw.2.2;go_simp;try with_reducible rfl) ?_
     refine pP 4 ?_
     refine pT 5 rfl [14] (fun w hSw=>by have C0:=hSw.1;have C1:=hSw.2.1;have C2:=hSw.2.2;go_simp;try with_reducible rfl) ?_
     refine pP 6 ?_
     refine pT 7 rfl [14] (fun w hSw=>by have C0:=hSw.1;have C1:=hSw.2.1;have C2:=hSw.2.2;go_simp;try with_reducible rfl) ?_
     refine pP 8 ?_;refine pP 9 ?_;refine pP 10 ?_
     refine pX 11 fun hT K HK=>?_
     have C3:=blk_cell (w:=w3) HL3.out.blk
     have F3:=blk_free (w:=w3) HL3.out.blk
     unfold lgCells at C3
     go_simp
     have hT2:TD bx db g (.slice (some ⟨db,0,none⟩) 1 c) cb (w3.drew.setCell ⟨pl,1,none⟩ (.int .i64 (g:Int))):=hT.set hbx hdb _ _
     clear C3 F3
     refine HK.out _ _ _ hT2 ?_
     clear HK K hT hT2
     refine pP 12 ?_;refine pP 13 ?_
     refine pY 14 fun hT K HK=>?_
     have C3:=blk_cell (w:=w3) HL3.out.blk
     have F3:=blk_free (w:=w3) HL3.out.blk
     unfold lgCells at C3
     go_simp
     clear C3 F3
     refine HK.out _ _ _ ?_
     clear HK K hT
     refine pD ?_
     go_wp2_with fail
     go_ret2
     refine .inr (.inr ⟨HH.out.2.1,g,cb.toNat,rfl,rfl,?_,?_⟩)
     · have hms:Mod [pl] w3 ((w3.setCell ⟨pl,1,none⟩ (.int .i64 (g:Int))).setCell ⟨pl,2,none⟩ (.int .i64 (cb.toNat:Int))).drew:=(((Mod.refl _ _).setCell (fun _=>by simp) _).setCell (fun _=>by simp) _).drew
       exact HL3.out.cells (l':={ l with gen:=g,area:=cb.toNat }) (blk_set (blk_set (w:=w3) HL3.out.blk 1 _) 2 _) hms (HL3.out.bkm hms)
     · exact (((HM3.out.mono (by simp)).setCell (fun _=>by simp) _).setCell (fun _=>by simp) _).drew
   · rw [if_neg hgood]
     have hq:Mod [] W1 W1:=Mod.refl _ _
     have hways:((sq:Int) != 0)=true∨(((sq:Int) != 0)=false∧((pa:Int) != 1)=true)∨(((sq:Int) != 0)=false∧((pa:Int) != 1)=false∧((dt.length:Int) != 1)=true)∨(((sq:Int) != 0)=false∧((pa:Int) != 1)=false∧((dt.length:Int) != 1)=false∧∃ cb:UInt8,dt=[cb]∧(1:Int)<(cb.toNat:Int)):=by
      by_cases h1:sq=0
      · by_cases h2:pa=1
        · by_cases h3:dt.length=1
          · refine .inr (.inr (.inr ⟨by simp [h1],by simp [h2],by simp [h3],?_⟩))
            obtain ⟨cb,hdt⟩:∃ cb,dt=[cb]:=by
             match dt,h3 with
             | [x],_=>exact ⟨x,rfl⟩
            subst hdt
            refine ⟨cb,rfl,?_⟩
            refine Classical.byContradiction fun hx=>hgood ⟨h1,h2,rfl,?_⟩
            simp only [List.getD_cons_zero]
            omega
          · exact .inr (.inr (.inl ⟨by simp [h1],by simp [h2],by rw [bne_iff_ne];omega⟩))
        · exact .inr (.inl ⟨by simp [h1],by rw [bne_iff_ne];omega⟩)
      · exact .inl (by rw [bne_iff_ne];omega)
     clear hgood hq
     rcases hways with h1 | ⟨h1,h2⟩ | ⟨h1,h2,h3⟩ | ⟨h1,h2,h3,cb,rfl,h4⟩
     · go_enter Tryz.func43,Tryz.ntmps43
       go_wp2_with (first
        | (go_at_call 72;refine hrd2.mono ?_;rintro e w1 ⟨rfl,hx1⟩;rw [hx1];clear hx1)
        | (go_at_call 73;refine hlk.mono ?_;rintro e w2 ⟨q,c,rfl,hr2,hm2⟩
           have H2:=hide hm2
           clear hr2 hm2 hlk)
        | fail)
       go_ret2
       have hq:Mod [] W1 _:=(H2.out).alloc (.cells #[.int .i64 (g:Int),.int .i64 (sq:Int),.int .i64 (ix:Int),.int .i64 (pa:Int),.slice q dt.length c] 118 (0,0))
       exact .inr (.inl ⟨HH.out.2.1,rfl,rfl,HH.out.1.quiet hq,HH.out.2.2.then hq⟩)
     · go_enter Tryz.func43,Tryz.ntmps43
       go_wp2_with (first
        | (go_at_call 72;refine hrd2.mono ?_;rintro e w1 ⟨rfl,hx1⟩;rw [hx1];clear hx1)
        | (go_at_call 73;refine hlk.mono ?_;rintro e w2 ⟨q,c,rfl,hr2,hm2⟩
           have H2:=hide hm2
           clear hr2 hm2 hlk)
        | fail)
       go_ret2
       have hq:Mod [] W1 _:=(H2.out).alloc (.cells #[.int .i64 (g:Int),.int .i64 (sq:Int),.int .i64 (ix:Int),.int .i64 (pa:Int),.slice q dt.length c] 118 (0,0))
       exact .inr (.inl ⟨HH.out.2.1,rfl,rfl,HH.out.1.quiet hq,HH.out.2.2.then hq⟩)
     · go_enter Tryz.func43,Tryz.ntmps43
       go_wp2_with (first
        | (go_at_call 72;refine hrd2.mono ?_;rintro e w1 ⟨rfl,hx1⟩;rw [hx1];clear hx1)
        | (go_at_call 73;refine hlk.mono ?_;rintro e w2 ⟨q,c,rfl,hr2,hm2⟩
           have H2:=hide hm2
           clear hr2 hm2 hlk)
        | fail)
       go_ret2
       have hq:Mod [] W1 _:=(H2.out).alloc (.cells #[.int .i64 (g:Int),.int .i64 (sq:Int),.int .i64 (ix:Int),.int .i64 (pa:Int),.slice q dt.length c] 118 (0,0))
       exact .inr (.inl ⟨HH.out.2.1,rfl,rfl,HH.out.1.quiet hq,HH.out.2.2.then hq⟩)
     · have h5:decide ((1:Int)<(cb.toNat:Int))=true:=decide_eq_true h4
       have h6:1<cb.toNat:=by omega
       go_enter Tryz.func43,Tryz.ntmps43
       go_wp2_with (first
        | (go_at_call 72;refine hrd2.mono ?_;rintro e w1 ⟨rfl,hx1⟩;rw [hx1];clear hx1)
        | (go_at_call 73;refine hlk.mono ?_;rintro e w2 ⟨q,c,rfl,hr2,hm2⟩
           obtain ⟨db,hdb,hdbw,-,hdc⟩:=hr2.head
           subst hdb
           have H2:=hide hm2
           clear hr2 hm2 hlk)
        | fail)
       go_ret2
       have hq:Mod [] W1 _:=(H2.out).alloc (.cells #[.int .i64 (g:Int),.int .i64 (sq:Int),.int .i64 (ix:Int),.int .i64 (pa:Int),.slice (some ⟨db,0,none⟩) [cb].length c] 118 (0,0))
       exact .inr (.inl ⟨HH.out.2.1,rfl,rfl,HH.out.1.quiet hq,HH.out.2.2.then hq⟩)
end Go.Proofs.YtpphoeimakjjdaaGreatDoor
/-
  WALKS: layer 12: nextGen. (Written by wip/gen_led3.py.)
-/
namespace Go.Proofs.YtpphoeimakjjdaaGreatDoor
set_option maxRecDepth 100000
set_option maxHeartbeats 4000000
open Go.RowKit Go.Shelf

def TL (pl pd:Nat) (ar:Int) (w:World):Prop:=w.cell? ⟨pl,0,none⟩=some (.pointer (some ⟨pd,0,none⟩))∧w.cell? ⟨pl,2,none⟩=some (.int .i64 ar)
def ngD (d:Dk) (l:Lg):Int × Int × Lg :=
 if d.off=true then (0,40,deadL l) else if 1073741824≤maxGen l.gen (sideS d.secs (1 - l.area)) then (0,42,l) else ((maxGen l.gen (sideS d.secs (1 - l.area)):Nat)+1,0,l)
def NgTo (w:World) (pl pd bs:Nat) (gv:Value) (lv:List (Grt × Value)) (d:Dk) (t:Int × Int × Lg) (e:Ending) (w':World):Prop :=
 e=.returned (.tuple #[.int .i64 t.1,.int .i64 t.2.1])∧LgM w' pl pd bs gv lv d t.2.2∧Mod [pl] w w'
theorem maxGen_snoc (g:Nat) (l:List B8) (b:B8):maxGen g (l++[b])=(match lookS b with | some p=>max (maxGen g l) p.gen | none=>maxGen g l):=by
 unfold maxGen
 rw [List.foldl_append]
 rfl
theorem maxGen_le:∀ (l:List B8) (g:Nat),g≤1073741824→maxGen g l≤1073741824∧g≤maxGen g l
 | [],g,h=>⟨h,Nat.le_refl _⟩
 | b::l,g,h=>by
   have e:maxGen g (b::l)=maxGen (match lookS b with | some p=>max g p.gen | none=>g) l:=rfl
   rw [e]
   cases hl:lookS b with
   | none=>exact maxGen_le l g h
   | some p =>
     have hp:=(look_fits hl).2.1.2.1
     have:=maxGen_le l (max g p.gen) (by omega)
     exact ⟨this.1,by have:=this.2;simp only;omega⟩
def NgRel (w:World) (g0:Nat) (L:List B8) (s6 i:Value) (wr:World):Prop :=
 ∃ j:Nat,i=.int .i64 (j:Int)∧j≤L.length∧s6=.int .i64 (maxGen g0 (L.take j):Int)∧Mod [] w wr
theorem nextGen_any {w:World} {pl pd bs:Nat} {gv:Value} {lv:List (Grt × Value)} {d:Dk} {l:Lg} (h:LgM w pl pd bs gv lv d l) (har:l.area≤1) (hgn:l.gen≤1073741824) (h49:49≤d.secs.length) :
 Calls Tryz.prog 60 #[.pointer (some ⟨pl,0,none⟩)] w fun e w'=>NgTo w pl pd bs gv lv d (ngD d l) e w':=by
 have hlt:=h.lt
 have hplw:=lt_of_block h.blk
 have hmf:∀ (fn:Fn) (first cap:Array Value) (w:World),(Instr.makeFunc fn first cap).run Tryz.prog w=.ok (.func fn first cap) w:=fun _ _ _ _=>rfl
 obtain ⟨gn,ar,sq,us,bk,dd⟩:=l
 simp only at har hgn
 obtain ⟨t,ht⟩:∃ t,ngD d ⟨gn,ar,sq,us,bk,dd⟩=t:=⟨_,rfl⟩
 rw [ht]
 unfold ngD at ht
 simp only at ht
 have hC:∀ W,Mod [] w W→W.cell? ⟨pl,0,none⟩=some (.pointer (some ⟨pd,0,none⟩))∧W.cell? ⟨pl,1,none⟩=some (.int .i64 (gn:Int))∧W.cell? ⟨pl,2,none⟩=some (.int .i64 (ar:Int))∧W.cell? ⟨pl,9,none⟩=some (.bool dd)∧W.frozen? ⟨pl,9,none⟩=false:=fun W m =>
  have hb:=m.at_ h.blk (by simp)
  ⟨blk_cell hb 0,blk_cell hb 1,blk_cell hb 2,blk_cell hb 9,blk_free hb 9⟩
 have HC:=hide hC
 have hrg0:=region_any (h.dk.mod (Mod.refl [] w).drew (by simp) (by simp)) (1 - ar) (by omega) h49
 have HH:=Hj2 h ht
 have hgn2:=hgn
 clear hC h
 have hw1:IntKind.i64.wrap 1=1:=rfl
 have hw0:IntKind.i64.wrap 0=0:=rfl
 have ha:ar=0∨ar=1:=by omega
 cases hd:d.off with
 | true =>
   have hrg:=hrg0.mono (R':=fun e w'=>e=.returned (.tuple #[.slice none 0 0,.int .i64 40])∧Mod [] w.drew w') (fun e w' hx=>by
    rcases hx with ⟨_,h1,h2⟩ | ⟨h0,_⟩
    · exact ⟨h1,h2⟩
    · rw [hd] at h0;cases h0)
   rw [if_pos hd] at HH
   clear hrg0
   go_enter Tryz.func60,Tryz.ntmps60
   go_upto_region 1 with fail
   rcases ha with rfl | rfl
   · have hTL:TL pl pd 0 w.drew:=⟨(HC.out w.drew (Mod.refl _ _).drew).1,(HC.out w.drew (Mod.refl _ _).drew).2.2.1⟩
     clear ht
     refine pB 15 (TL pl pd 0) (hTL) ?_
     refine pP 0 ?_;refine pP 1 ?_;refine pP 2 ?_
     refine pT 3 rfl [15] (fun w hSw=>by have C0:=hSw.1;have C1:=hSw.2;go_simp;try with_reducible rfl) ?_
     refine pP 4 ?_;refine pP 5 ?_;refine pP 6 ?_;refine pP 7 ?_
     refine pT 8 rfl [15] (fun w hSw=>by have C0:=hSw.1;have C1:=hSw.2;go_simp;try with_reducible rfl) ?_
     refine pP 9 ?_
     refine pX 10 fun hT K HK=>?_
     refine step_call rfl 76 #[.tmp 16,.tmp 21] #[116,3] rfl (enters_of Tryz.func76 (by kernel_rfl) rfl) #[.func (.func 72) #[.pointer (some ⟨pd,0,none⟩)] #[],.int .i64 1] (by simp [Act.eval]) ?_
     refine hrg.mono ?_
     rintro e w3 ⟨rfl,hm3⟩
     refine ⟨_,rfl,?_⟩
     have hT2:TL pl pd 0 w3:=⟨hm3.kept hT.1 (by simp),hm3.kept hT.2 (by simp)⟩
     have H3:=hide (hm3)
     clear hm3
     refine HK.out _ _ _ hT2 ?_
     clear HK K hT hT2
     refine pP 11 ?_;refine pP 12 ?_;refine pP 13 ?_;refine pP 14 ?_
     refine pY 15 fun hT K HK=>?_
     go_simp
     refine HK.out _ _ _ ?_
     clear HK K hT
     refine pD ?_
     have hm13:Mod [] w w3:=(Mod.refl [] w).drew.then H3.out
     obtain ⟨k0,k1,k2,k9,f9⟩:=HC.out w3 hm13
     have hms:Mod [pl] w3 (w3.setCell ⟨pl,9,none⟩ (.bool true)):=(Mod.refl _ _).setCell (fun _=>by simp) _
     have HM:=Hj2 hm13 hms
     clear hm13 hms
     go_wp2_with fail
     go_ret2
     have hlg:=HH.out.1.quiet HM.out.1
     rw [← HH.out.2]
     exact ⟨rfl,hlg.cells (l':=deadL _) (blk_set hlg.blk 9 _) HM.out.2 (hlg.bkm HM.out.2),(HM.out.1.mono (by simp)).then HM.out.2⟩
   · have hTL:TL pl pd 1 w.drew:=⟨(HC.out w.drew (Mod.refl _ _).drew).1,(HC.out w.drew (Mod.refl _ _).drew).2.2.1⟩
     clear ht
     refine pB 15 (TL pl pd 1) (hTL) ?_
     refine pP 0 ?_;refine pP 1 ?_;refine pP 2 ?_
     refine pT 3 rfl [15] (fun w hSw=>by have C0:=hSw.1;have C1:=hSw.2;go_simp;try with_reducible rfl) ?_
     refine pP 4 ?_;refine pP 5 ?_;refine pP 6 ?_;refine pP 7 ?_
     refine pT 8 rfl [15] (fun w hSw=>by have C0:=hSw.1;have C1:=hSw.2;go_simp;try with_reducible rfl) ?_
     refine pP 9 ?_
     refine pX 10 fun hT K HK=>?_
     refine step_call rfl 76 #[.tmp 16,.tmp 21] #[116,3] rfl (enters_of Tryz.func76 (by kernel_rfl) rfl) #[.func (.func 72) #[.pointer (some ⟨pd,0,none⟩)] #[],.int .i64 0] (by simp [Act.eval]) ?_
     refine hrg.mono ?_
     rintro e w3 ⟨rfl,hm3⟩
     refine ⟨_,rfl,?_⟩
     have hT2:TL pl pd 1 w3:=⟨hm3.kept hT.1 (by simp),hm3.kept hT.2 (by simp)⟩
     have H3:=hide (hm3)
     clear hm3
     refine HK.out _ _ _ hT2 ?_
     clear HK K hT hT2
     refine pP 11 ?_;refine pP 12 ?_;refine pP 13 ?_;refine pP 14 ?_
     refine pY 15 fun hT K HK=>?_
     go_simp
     refine HK.out _ _ _ ?_
     clear HK K hT
     refine pD ?_
     have hm13:Mod [] w w3:=(Mod.refl [] w).drew.then H3.out
     obtain ⟨k0,k1,k2,k9,f9⟩:=HC.out w3 hm13
     have hms:Mod [pl] w3 (w3.setCell ⟨pl,9,none⟩ (.bool true)):=(Mod.refl _ _).setCell (fun _=>by simp) _
     have HM:=Hj2 hm13 hms
     clear hm13 hms
     go_wp2_with fail
     go_ret2
     have hlg:=HH.out.1.quiet HM.out.1
     rw [← HH.out.2]
     exact ⟨rfl,hlg.cells (l':=deadL _) (blk_set hlg.blk 9 _) HM.out.2 (hlg.bkm HM.out.2),(HM.out.1.mono (by simp)).then HM.out.2⟩
 | false =>
   have hrg:=hrg0.mono (R':=fun e w'=>∃ q c vs,e=.returned (.tuple #[.slice q 24 c,.int .i64 0])∧RdsY w' w.drew.heap.size (.slice q 24 c) vs (sideS d.secs (1 - ar))∧Mod [] w.drew w') (fun e w' hx=>by
    rcases hx with ⟨h0,_⟩ | ⟨_,h1⟩
    · rw [hd] at h0;cases h0
    · exact h1)
   rw [if_neg (by rw [hd];decide)] at HH
   clear hrg0
   go_enter Tryz.func60,Tryz.ntmps60
   go_upto_region 1 with fail
   rcases ha with rfl | rfl
   · have hTL:TL pl pd 0 w.drew:=⟨(HC.out w.drew (Mod.refl _ _).drew).1,(HC.out w.drew (Mod.refl _ _).drew).2.2.1⟩
     clear ht
     refine pB 15 (TL pl pd 0) (hTL) ?_
     refine pP 0 ?_;refine pP 1 ?_;refine pP 2 ?_
     refine pT 3 rfl [15] (fun w hSw=>by have C0:=hSw.1;have C1:=hSw.2;go_simp;try with_reducible rfl) ?_
     refine pP 4 ?_;refine pP 5 ?_;refine pP 6 ?_;refine pP 7 ?_
     refine pT 8 rfl [15] (fun w hSw=>by have C0:=hSw.1;have C1:=hSw.2;go_simp;try with_reducible rfl) ?_
     refine pP 9 ?_
     refine pX 10 fun hT K HK=>?_
     refine step_call rfl 76 #[.tmp 16,.tmp 21] #[116,3] rfl (enters_of Tryz.func76 (by kernel_rfl) rfl) #[.func (.func 72) #[.pointer (some ⟨pd,0,none⟩)] #[],.int .i64 1] (by simp [Act.eval]) ?_
     refine hrg.mono ?_
     rintro e w3 ⟨q3,c3,vs3,rfl,hr3,hm3⟩
     refine ⟨_,rfl,?_⟩
     have hT2:TL pl pd 0 w3:=⟨hm3.kept hT.1 (by simp),hm3.kept hT.2 (by simp)⟩
     have H3:=Hj2 hr3 hm3
     clear hr3 hm3
     refine HK.out _ _ _ hT2 ?_
     clear HK K hT hT2
     refine pP 11 ?_;refine pP 12 ?_;refine pP 13 ?_;refine pP 14 ?_
     refine pY 15 fun hT K HK=>?_
     go_simp
     refine HK.out _ _ _ ?_
     clear HK K hT
     refine pD ?_
     have hsl:=side_len (s:=d.secs) (k:=1) (by omega) h49
     obtain ⟨SL,hSL⟩:∃ SL,sideS d.secs 1=SL:=⟨_,rfl⟩
     rw [hSL] at hsl
     rw [show sideS d.secs (1 - 0)=SL from hSL] at HH
     have hr3:=H3.out.1
     rw [show sideS d.secs (1 - 0)=SL from hSL] at hr3
     have hm13:Mod [] w w3:=(Mod.refl [] w).drew.then H3.out.2
     have H4:=Hj2 hr3 hm13
     obtain ⟨k0,k1,k2,k9,f9⟩:=HC.out w3 hm13
     clear hr3 hm13 H3 hSL k0 k2 k9 f9
     clear hmf hrg hTL
     go_upto_region 7 with fail
     go_loopw [6,37] (fun s6 i wr=>NgRel w3 gn SL s6 i wr) (fun _ i _=>24 - (intOf i).toNat)
     case atStart=>exact ⟨0,rfl,Nat.zero_le _,rfl,Mod.refl _ _⟩
     case round =>
      obtain ⟨j,rfl,hj,rfl,hm⟩:=hrel
      by_cases hlt2:j<24
      · have hjn:(j:Int)<24:=by omega
        obtain ⟨rb,rfl,hrb,hcv,hel⟩:=(H4.out.1.mod hm (by simp)).at_ j (by omega)
        have htk:SL.take (j+1)=SL.take j++[SL.getD j []]:=by rw [List.take_add_one];simp [show j<SL.length by omega]
        have hms:=maxGen_snoc gn (SL.take j) (SL.getD j [])
        rw [← htk] at hms
        have hlk:=look_any hel.rd
        generalize SL.getD j []=B at hlk hms
        generalize hmg:maxGen gn (SL.take j)=MG at hms
        obtain ⟨qs,cs,hsv⟩:=hel.rd.len
        rw [hsv] at hcv hlk
        obtain ⟨nB,hnB⟩:∃ n,(SL.getD j []).length=n:=⟨_,rfl⟩
        rw [hnB] at hcv hlk
        clear htk hel hsv hnB
        cases hlo:lookS B with
        | none =>
          rw [hlo] at hlk hms
          simp only at hms
          have HM:=Hj2 hm hms
          clear hm hms hlo hmg
          go_wp2_with (go_at_call 73;refine hlk.mono ?_;rintro e w5 ⟨rfl,hm5⟩;have H5:=hide hm5;clear hm5 hlk)
          go_roundw
          case rel=>exact ⟨j+1,by go_num,by omega,by rw [HM.out.2],(HM.out.1.then H5.out).alloc _⟩
          case measure=>simp [intOf];omega
        | some p =>
          rw [hlo] at hlk hms
          simp only at hms
          obtain ⟨pg,psq,pix,ppa,pdt⟩:=p
          unfold LookTo at hlk
          simp only at hlk hms
          have hmx:max (MG:Int) (pg:Int)=((max MG pg:Nat):Int):=by omega
          have HM:=Hj2 hm hms
          clear hm hms hlo hmg
          go_wp2_with (go_at_call 73;refine hlk.mono ?_;rintro e w5 ⟨q5,c5,rfl,-,hm5⟩;have H5:=hide hm5;clear hm5 hlk)
          go_roundw
          case rel=>exact ⟨j+1,by go_num,by omega,by rw [HM.out.2],(HM.out.1.then H5.out).alloc _⟩
          case measure=>simp [intOf];omega
      · obtain rfl:j=24:=by omega
        rw [List.take_of_length_le (by omega)]
        obtain ⟨MG,hmg⟩:∃ MG,maxGen gn SL=MG:=⟨_,rfl⟩
        have hmle:=(maxGen_le SL gn hgn).1
        rw [hmg] at hmle ⊢
        have hwm:IntKind.i64.wrap ((MG:Int)+1)=(MG:Int)+1:=by rw [IntKind.wrap_i64];omega
        have hht:=HH.out.2
        rw [hmg] at hht
        have HT:=hide hht
        have HM:=hide hm
        clear hm hht hmg
        by_cases hge:1073741824≤MG
        · have hgi:(1073741824:Int)≤(MG:Int):=by omega
          have HG:=hide hge
          clear hge
          go_wp2_with fail
          go_ret2
          rw [← HT.out,if_pos HG.out]
          exact ⟨rfl,HH.out.1.quiet (H4.out.2.then HM.out),(H4.out.2.then HM.out).mono (by simp)⟩
        · have hgi:¬ (1073741824:Int)≤(MG:Int):=by omega
          have HG:=hide hge
          clear hge
          go_wp2_with fail
          go_ret2
          rw [← HT.out,if_neg HG.out]
          exact ⟨rfl,HH.out.1.quiet (H4.out.2.then HM.out),(H4.out.2.then HM.out).mono (by simp)⟩
   · have hTL:TL pl pd 1 w.drew:=⟨(HC.out w.drew (Mod.refl _ _).drew).1,(HC.out w.drew (Mod.refl _ _).drew).2.2.1⟩
     clear ht
     refine pB 15 (TL pl pd 1) (hTL) ?_
     refine pP 0 ?_;refine pP 1 ?_;refine pP 2 ?_
     refine pT 3 rfl [15] (fun w hSw=>by have C0:=hSw.1;have C1:=hSw.2;go_simp;try with_reducible rfl) ?_
     refine pP 4 ?_;refine pP 5 ?_;refine pP 6 ?_;refine pP 7 ?_
     refine pT 8 rfl [15] (fun w hSw=>by have C0:=hSw.1;have C1:=hSw.2;go_simp;try with_reducible rfl) ?_
     refine pP 9 ?_
     refine pX 10 fun hT K HK=>?_
     refine step_call rfl 76 #[.tmp 16,.tmp 21] #[116,3] rfl (enters_of Tryz.func76 (by kernel_rfl) rfl) #[.func (.func 72) #[.pointer (some ⟨pd,0,none⟩)] #[],.int .i64 0] (by simp [Act.eval]) ?_
     refine hrg.mono ?_
     rintro e w3 ⟨q3,c3,vs3,rfl,hr3,hm3⟩
     refine ⟨_,rfl,?_⟩
     have hT2:TL pl pd 1 w3:=⟨hm3.kept hT.1 (by simp),hm3.kept hT.2 (by simp)⟩
     have H3:=Hj2 hr3 hm3
     clear hr3 hm3
     refine HK.out _ _ _ hT2 ?_
     clear HK K hT hT2
     refine pP 11 ?_;refine pP 12 ?_;refine pP 13 ?_;refine pP 14 ?_
     refine pY 15 fun hT K HK=>?_
     go_simp
     refine HK.out _ _ _ ?_
     clear HK K hT
     refine pD ?_
     have hsl:=side_len (s:=d.secs) (k:=0) (by omega) h49
     obtain ⟨SL,hSL⟩:∃ SL,sideS d.secs 0=SL:=⟨_,rfl⟩
     rw [hSL] at hsl
     rw [show sideS d.secs (1 - 1)=SL from hSL] at HH
     have hr3:=H3.out.1
     rw [show sideS d.secs (1 - 1)=SL from hSL] at hr3
     have hm13:Mod [] w w3:=(Mod.refl [] w).drew.then H3.out.2
     have H4:=Hj2 hr3 hm13
     obtain ⟨k0,k1,k2,k9,f9⟩:=HC.out w3 hm13
     clear hr3 hm13 H3 hSL k0 k2 k9 f9
     clear hmf hrg hTL
     go_upto_region 7 with fail
     go_loopw [6,37] (fun s6 i wr=>NgRel w3 gn SL s6 i wr) (fun _ i _=>24 - (intOf i).toNat)
     case atStart=>exact ⟨0,rfl,Nat.zero_le _,rfl,Mod.refl _ _⟩
     case round =>
      obtain ⟨j,rfl,hj,rfl,hm⟩:=hrel
      by_cases hlt2:j<24
      · have hjn:(j:Int)<24:=by omega
        obtain ⟨rb,rfl,hrb,hcv,hel⟩:=(H4.out.1.mod hm (by simp)).at_ j (by omega)
        have htk:SL.take (j+1)=SL.take j++[SL.getD j []]:=by rw [List.take_add_one];simp [show j<SL.length by omega]
        have hms:=maxGen_snoc gn (SL.take j) (SL.getD j [])
        rw [← htk] at hms
        have hlk:=look_any hel.rd
        generalize SL.getD j []=B at hlk hms
        generalize hmg:maxGen gn (SL.take j)=MG at hms
        obtain ⟨qs,cs,hsv⟩:=hel.rd.len
        rw [hsv] at hcv hlk
        obtain ⟨nB,hnB⟩:∃ n,(SL.getD j []).length=n:=⟨_,rfl⟩
        rw [hnB] at hcv hlk
        clear htk hel hsv hnB
        cases hlo:lookS B with
        | none =>
          rw [hlo] at hlk hms
          simp only at hms
          have HM:=Hj2 hm hms
          clear hm hms hlo hmg
          go_wp2_with (go_at_call 73;refine hlk.mono ?_;rintro e w5 ⟨rfl,hm5⟩;have H5:=hide hm5;clear hm5 hlk)
          go_roundw
          case rel=>exact ⟨j+1,by go_num,by omega,by rw [HM.out.2],(HM.out.1.then H5.out).alloc _⟩
          case measure=>simp [intOf];omega
        | some p =>
          rw [hlo] at hlk hms
          simp only at hms
          obtain ⟨pg,psq,pix,ppa,pdt⟩:=p
          unfold LookTo at hlk
          simp only at hlk hms
          have hmx:max (MG:Int) (pg:Int)=((max MG pg:Nat):Int):=by omega
          have HM:=Hj2 hm hms
          clear hm hms hlo hmg
          go_wp2_with (go_at_call 73;refine hlk.mono ?_;rintro e w5 ⟨q5,c5,rfl,-,hm5⟩;have H5:=hide hm5;clear hm5 hlk)
          go_roundw
          case rel=>exact ⟨j+1,by go_num,by omega,by rw [HM.out.2],(HM.out.1.then H5.out).alloc _⟩
          case measure=>simp [intOf];omega
      · obtain rfl:j=24:=by omega
        rw [List.take_of_length_le (by omega)]
        obtain ⟨MG,hmg⟩:∃ MG,maxGen gn SL=MG:=⟨_,rfl⟩
        have hmle:=(maxGen_le SL gn hgn).1
        rw [hmg] at hmle ⊢
        have hwm:IntKind.i64.wrap ((MG:Int)+1)=(MG:Int)+1:=by rw [IntKind.wrap_i64];omega
        have hht:=HH.out.2
        rw [hmg] at hht
        have HT:=hide hht
        have HM:=hide hm
        clear hm hht hmg
        by_cases hge:1073741824≤MG
        · have hgi:(1073741824:Int)≤(MG:Int):=by omega
          have HG:=hide hge
          clear hge
          go_wp2_with fail
          go_ret2
          rw [← HT.out,if_pos HG.out]
          exact ⟨rfl,HH.out.1.quiet (H4.out.2.then HM.out),(H4.out.2.then HM.out).mono (by simp)⟩
        · have hgi:¬ (1073741824:Int)≤(MG:Int):=by omega
          have HG:=hide hge
          clear hge
          go_wp2_with fail
          go_ret2
          rw [← HT.out,if_neg HG.out]
          exact ⟨rfl,HH.out.1.quiet (H4.out.2.then HM.out),(H4.out.2.then HM.out).mono (by simp)⟩
end Go.Proofs.YtpphoeimakjjdaaGreatDoor
/-
  WALKS: layer 12: recover. (Written by wip/gen_led5.py.)
-/
namespace Go.Proofs.YtpphoeimakjjdaaGreatDoor
set_option maxRecDepth 100000
set_option maxHeartbeats 4000000
open Go.RowKit Go.Shelf

theorem rest_len {l:List B8} {gen a seq parts:Nat}:∀ (k i:Nat) {d:B8},restS l gen a seq parts k i=some d→d.length≤47 * k
 | 0,_,d,h=>by
   cases h
   simp
 | k+1,i,d,h=>by
   unfold restS at h
   cases hp:partS l gen (a+i) seq i parts with
   | none=>rw [hp] at h;cases h
   | some p =>
     rw [hp,Option.bind_some] at h
     cases hr:restS l gen a seq parts k (i+1) with
     | none=>rw [hr] at h;cases h
     | some d2 =>
       rw [hr,Option.bind_some] at h
       cases h
       obtain ⟨_,_,hl,_⟩:=part_some hp
       have:=(look_fits hl).2.2.1
       have:=rest_len k (i+1) hr
       rw [List.length_append]
       omega
theorem rec_len {l:List B8} {gen a seq:Nat} {d:B8} {n:Nat} (h:recS l gen a seq=some (d,n)):d.length≤188:=by
 obtain ⟨p,d',hp,hr,rfl,rfl⟩:=rec_some h
 obtain ⟨_,_,hl,_⟩:=part_some hp
 have h1:=(look_fits hl).2.1
 have:=(look_fits hl).2.2.1
 have:=rest_len _ _ hr
 rw [List.length_append]
 omega
theorem scanF_len {l:List B8} {gen:Nat}:∀ (f a seq:Nat) (d:B8),d∈(scanF l gen f a seq).1→d.length≤188
 | 0,_,_,d,h=>by cases h
 | f+1,a,seq,d,h=>by
   unfold scanF at h
   cases hr:recS l gen a seq with
   | none=>rw [hr] at h;cases h
   | some t =>
     obtain ⟨x,n⟩:=t
     rw [hr] at h
     rcases List.mem_cons.1 h with rfl | h
     · exact rec_len hr
     · exact scanF_len f _ _ d h
theorem scan_len {l:List B8} {gen j:Nat}:((scanS l gen).1.getD j []).length≤188:=by
 by_cases hj:j<(scanS l gen).1.length
 · exact scanF_len _ _ _ _ (by rw [List.getD_eq_getElem?_getD,List.getElem?_eq_getElem hj];exact List.getElem_mem hj)
 · rw [List.getD_eq_getElem?_getD,List.getElem?_eq_none (by omega)]
   simp
theorem play_at {b:Bk} {l:List B8} {j:Nat} (h:j<l.length):playB b (l.drop j)=match decB (l.getD j []) with
 | none=>(b,0,0)
 | some r=>if (applyB b r).2=0 then ((playB (applyB b r).1 (l.drop (j+1))).1,(playB (applyB b r).1 (l.drop (j+1))).2.1+1,(playB (applyB b r).1 (l.drop (j+1))).2.2+widthN (l.getD j []).length) else (b,0,0):=by
 have:l.drop j=l.getD j []::l.drop (j+1):=by rw [List.drop_eq_getElem_cons h];simp [h]
 rw [this]
 rfl
theorem dec_none {w:World} {u:Value} {b:B8} (hu:RdY w u b) (hl:b.length≤1000000000) (h:decB b=none) :
 Calls Tryz.prog 78 #[u] w fun e w'=>∃ p1 n1 c1 p2 n2 c2,e=.returned (.tuple #[aggR Rcd.zero (.slice p1 n1 c1) (.slice p2 n2 c2),.int .i64 43])∧Mod [] w w':=by
 refine (decode_any hu hl).mono ?_
 rintro e w' ⟨sv,tv,rfl,h1,h2,hm⟩
 rw [h] at h1 h2 ⊢
 obtain ⟨p1,c1,rfl⟩:=h1.len
 obtain ⟨p2,c2,rfl⟩:=h2.len
 exact ⟨p1,_,c1,p2,_,c2,rfl,hm⟩
theorem dec_some {w:World} {u:Value} {b:B8} {r:Rcd} (hu:RdY w u b) (hl:b.length≤1000000000) (h:decB b=some r) :
 Calls Tryz.prog 78 #[u] w fun e w'=>∃ p1 n1 c1 p2 n2 c2,e=.returned (.tuple #[aggR r (.slice p1 n1 c1) (.slice p2 n2 c2),.int .i64 0])∧RdN w' (.slice p1 n1 c1) r.grant.stamp∧RdN w' (.slice p2 n2 c2) r.stamp∧Mod [] w w':=by
 refine (decode_any hu hl).mono ?_
 rintro e w' ⟨sv,tv,rfl,h1,h2,hm⟩
 rw [h] at h1 h2 ⊢
 simp only [Option.getD_some] at h1 h2
 obtain ⟨p1,c1,rfl⟩:=h1.len
 obtain ⟨p2,c2,rfl⟩:=h2.len
 exact ⟨p1,_,c1,p2,_,c2,rfl,h1,h2,hm⟩
def TV (pl rb:Nat) (P R:Array Value) (w:World):Prop:=w.heap[pl]?=some (.cells P 80 (0,0))∧w.heap[rb]?=some (.cells R 42 (0,0))
theorem TV.mod {pl rb:Nat} {P R:Array Value} {w w':World} (h:TV pl rb P R w) {S:List Nat} (m:Mod S w w') (h1:pl ∉ S) (h2:rb ∉ S):TV pl rb P R w':=⟨m.at_ h.1 h1,m.at_ h.2 h2⟩
def TS (pl:Nat) (P:Array Value) (w:World):Prop:=w.heap[pl]?=some (.cells P 80 (0,0))
def ApR (W:World) (t:Bk × Int) (s10 s11:Value) (wx:World):Prop :=
 ∃ bx q n c lv,s10=.int .i64 t.2∧s11=.pointer (some ⟨bx,0,none⟩)∧wx.heap[bx]?=some (.cells #[.int .i64 t.1.next,.int .i64 t.1.boots,.int .i64 t.1.longest,.slice q n c] 34 (0,0))∧W.heap.size≤bx∧BkM wx W.heap.size (.slice q n c) t.1 lv∧Mod [] W wx
theorem mod_fresh {W W' W2:World} {S:List Nat} (m:Mod [] W W') (m2:Mod S W' W2) (hS:∀ k,k∈S→W.heap.size≤k):Mod [] W W2:=by
 exact m.trans m2 (fun _ x _=>x) (fun x hx hlt=>absurd (hS x hx) (by omega))
def RcvTo (w:World) (pl pd bs:Nat) (d:Dk) (l:Lg) (t:Bk × Nat × Nat) (e:Ending) (w':World):Prop :=
 (d.off=true∧e=.returned (.int .i64 40)∧Mod [] w w') ∨
 (d.off=false∧e=.returned (.int .i64 0)∧∃ gv lv,LgM w' pl pd bs gv lv d { l with book:=t.1,seq:=l.seq+t.2.1,used:=l.used+t.2.2 }∧Mod [pl] w w')
def RcvRel (w5:World) (pl pd bs:Nat) (d:Dk) (gn ar sq us:Nat) (dd:Bool) (t:Bk × Nat × Nat) (RS:List B8) (i:Value) (wr:World):Prop :=
 ∃ (j:Nat) (gv:Value) (lv:List (Grt × Value)) (b:Bk) (s u:Nat),i=.int .i64 (j:Int)∧j≤RS.length∧LgM wr pl pd bs gv lv d ⟨gn,ar,s,u,b,dd⟩∧validB b=true∧s≤sq+j∧u≤us+2 * j ∧
   Hid (t.1=(playB b (RS.drop j)).1∧sq+t.2.1=s+(playB b (RS.drop j)).2.1∧us+t.2.2=u+(playB b (RS.drop j)).2.2)∧Mod [pl] w5 wr
theorem RcvRel.done {w w5 wr w':World} {pl pd bs:Nat} {d:Dk} {gn ar sq us:Nat} {dd:Bool} {t:Bk × Nat × Nat} {RS:List B8} {j:Nat} {gv:Value} {lv:List (Grt × Value)} {b bk:Bk} {s u:Nat} (hlg:LgM wr pl pd bs gv lv d ⟨gn,ar,s,u,b,dd⟩)
 (HP:Hid (t.1=(playB b (RS.drop j)).1∧sq+t.2.1=s+(playB b (RS.drop j)).2.1∧us+t.2.2=u+(playB b (RS.drop j)).2.2)) (he:playB b (RS.drop j)=(b,0,0)) (hd:d.off=false) (hm:Mod [] w w5) (hm2:Mod [pl] w5 wr) (hm3:Mod [] wr w') :
 RcvTo w pl pd bs d ⟨gn,ar,sq,us,bk,dd⟩ t (.returned (.int .i64 0)) w':=by
 obtain ⟨h1,h2,h3⟩:=HP.out
 rw [he] at h1 h2 h3
 simp only [Nat.add_zero] at h1 h2 h3
 refine .inr ⟨hd,rfl,gv,lv,?_,((hm.mono (by simp)).then hm2).then (hm3.mono (by simp))⟩
 simp only
 rw [h1,h2,h3]
 exact hlg.quiet hm3
theorem recover_any {w:World} {pl pd bs:Nat} {gv:Value} {lv:List (Grt × Value)} {d:Dk} {l:Lg} (h:LgM w pl pd bs gv lv d l) (hb:validB l.book=true) (har:l.area≤1) (hs:l.seq≤1000) (hu:l.used≤1000) (h49:49≤d.secs.length) :
 Calls Tryz.prog 45 #[.pointer (some ⟨pl,0,none⟩)] w fun e w'=>RcvTo w pl pd bs d l (playB l.book (scanS (sideS d.secs l.area) l.gen).1) e w':=by
 have hlt:=h.lt
 have hplw:=lt_of_block h.blk
 have hmf:∀ (fn:Fn) (first cap:Array Value) (w:World),(Instr.makeFunc fn first cap).run Tryz.prog w=.ok (.func fn first cap) w:=fun _ _ _ _=>rfl
 obtain ⟨gn,ar,sq,us,bk,dd⟩:=l
 simp only at hb har hs hu ⊢
 have hlen:=fun j=>scan_len (l:=sideS d.secs ar) (gen:=gn) (j:=j)
 obtain ⟨⟨RS,US⟩,hRS⟩:∃ t,scanS (sideS d.secs ar) gn=t:=⟨_,rfl⟩
 obtain ⟨t,ht⟩:∃ t,playB bk RS=t:=⟨_,rfl⟩
 rw [hRS] at hlen ⊢
 simp only at hlen ⊢
 rw [ht]
 have HL:=hide hlen
 clear hlen
 have hTL:TL pl pd (ar:Int) w.drew:=⟨blk_cell h.blk 0,blk_cell h.blk 2⟩
 have k1:w.cell? ⟨pl,1,none⟩=some (.int .i64 (gn:Int)):=blk_cell h.blk 1
 have hrg0:=region_any (h.dk.mod (Mod.refl [] w).drew (by simp) (by simp)) ar har h49
 have HH:=Hj3 h hRS ht
 clear h hRS ht
 cases hd:d.off with
 | true =>
   have hrg:=hrg0.mono (R':=fun e w'=>e=.returned (.tuple #[.slice none 0 0,.int .i64 40])∧Mod [] w.drew w') (fun e w' hx=>by
    rcases hx with ⟨_,h1,h2⟩ | ⟨h0,_⟩
    · exact ⟨h1,h2⟩
    · rw [hd] at h0;cases h0)
   clear hrg0 k1
   go_enter Tryz.func45,Tryz.ntmps45
   go_upto_region 1 with fail
   refine pB 14 (TL pl pd (ar:Int)) (hTL) ?_
   refine pP 0 ?_;refine pP 1 ?_;refine pP 2 ?_
   refine pT 3 rfl [14] (fun w hSw=>by have C0:=hSw.1;have C1:=hSw.2;go_simp;try with_reducible rfl) ?_
   refine pP 4 ?_;refine pP 5 ?_;refine pP 6 ?_;refine pP 7 ?_
   refine pT 8 rfl [14] (fun w hSw=>by have C0:=hSw.1;have C1:=hSw.2;go_simp;try with_reducible rfl) ?_
   refine pX 9 fun hT K HK=>?_
   refine step_call rfl 76 #[.tmp 17,.tmp 21] #[116,3] rfl (enters_of Tryz.func76 (by kernel_rfl) rfl) #[.func (.func 72) #[.pointer (some ⟨pd,0,none⟩)] #[],.int .i64 (ar:Int)] (by simp [Act.eval]) ?_
   refine hrg.mono ?_
   rintro e w3 ⟨rfl,hm3⟩
   refine ⟨_,rfl,?_⟩
   have hT2:TL pl pd (ar:Int) w3:=⟨hm3.kept hT.1 (by simp),hm3.kept hT.2 (by simp)⟩
   have H3:=hide (hm3)
   clear hm3
   refine HK.out _ _ _ hT2 ?_
   clear HK K hT hT2
   refine pP 10 ?_;refine pP 11 ?_;refine pP 12 ?_;refine pP 13 ?_
   refine pY 14 fun hT K HK=>?_
   go_simp
   refine HK.out _ _ _ ?_
   clear HK K hT
   refine pD ?_
   go_wp2_with fail
   go_ret
   exact .inl ⟨hd,rfl,(Mod.refl [] w).drew.then H3.out⟩
 | false =>
   have hrg:=hrg0.mono (R':=fun e w'=>∃ q c vs,e=.returned (.tuple #[.slice q 24 c,.int .i64 0])∧RdsY w' w.drew.heap.size (.slice q 24 c) vs (sideS d.secs ar)∧Mod [] w.drew w') (fun e w' hx=>by
    rcases hx with ⟨h0,_⟩ | ⟨_,h1⟩
    · rw [hd] at h0;cases h0
    · exact h1)
   clear hrg0
   go_enter Tryz.func45,Tryz.ntmps45
   go_upto_region 1 with fail
   refine pB 14 (TL pl pd (ar:Int)) (hTL) ?_
   refine pP 0 ?_;refine pP 1 ?_;refine pP 2 ?_
   refine pT 3 rfl [14] (fun w hSw=>by have C0:=hSw.1;have C1:=hSw.2;go_simp;try with_reducible rfl) ?_
   refine pP 4 ?_;refine pP 5 ?_;refine pP 6 ?_;refine pP 7 ?_
   refine pT 8 rfl [14] (fun w hSw=>by have C0:=hSw.1;have C1:=hSw.2;go_simp;try with_reducible rfl) ?_
   refine pX 9 fun hT K HK=>?_
   refine step_call rfl 76 #[.tmp 17,.tmp 21] #[116,3] rfl (enters_of Tryz.func76 (by kernel_rfl) rfl) #[.func (.func 72) #[.pointer (some ⟨pd,0,none⟩)] #[],.int .i64 (ar:Int)] (by simp [Act.eval]) ?_
   refine hrg.mono ?_
   rintro e w3 ⟨q3,c3,vs3,rfl,hr3,hm3⟩
   refine ⟨_,rfl,?_⟩
   have hT2:TL pl pd (ar:Int) w3:=⟨hm3.kept hT.1 (by simp),hm3.kept hT.2 (by simp)⟩
   have H3:=Hj2 hr3 hm3
   clear hr3 hm3
   refine HK.out _ _ _ hT2 ?_
   clear HK K hT hT2
   refine pP 10 ?_;refine pP 11 ?_;refine pP 12 ?_;refine pP 13 ?_
   refine pY 14 fun hT K HK=>?_
   go_simp
   refine HK.out _ _ _ ?_
   clear HK K hT
   refine pD ?_
   have hm3:Mod [] w w3:=(Mod.refl [] w).drew.then H3.out.2
   have k1':=hm3.kept k1 (by simp)
   have hsc:=scan_any H3.out.1 (by rw [side_len har h49];decide) gn
   rw [HH.out.2.1] at hsc
   have hsc2:=hsc.mono (R':=fun e w'=>∃ q c vs,e=.returned (.tuple #[.slice q RS.length c,.int .i64 (US:Int)])∧RowsY w' w3.heap.size (.slice q RS.length c) vs RS∧RS.length≤1000000∧US≤1000000∧Mod [] w3 w') (fun e w' hx=>hx)
   have HM3:=hide hm3
   have HD:=hide hd
   clear hsc hm3 k1 hmf hrg hTL hd
   go_upto_region 6 with (go_at_call 77;refine hsc2.mono ?_;rintro e w5 ⟨q5,c5,vs5,rfl,hr5,hl5,-,hm5⟩
                          have H5:=Hj2 hr5.rds (HM3.out.then hm5)
                          have hs5:=Nat.le_trans HM3.out.size (Nat.le_refl _)
                          clear hr5 hm5 hsc2)
   clear k1'
   go_loopw [39] (fun i wr=>RcvRel w5 pl pd bs d gn ar sq us dd t RS i wr) (fun i _=>RS.length - (intOf i).toNat)
   case atStart=>exact ⟨0,gv,lv,bk,sq,us,rfl,Nat.zero_le _,HH.out.1.quiet H5.out.2,hb,by omega,by omega,hide (by rw [List.drop_zero,HH.out.2.2];exact ⟨rfl,rfl,rfl⟩),Mod.refl _ _⟩
   case round =>
    obtain ⟨j,gv,lv,b,s,u,rfl,hj,hlg,hvb,hs1,hu1,HP,hm⟩:=hrel
    by_cases hlt2:j<RS.length
    · have hjn:(j:Int)<(RS.length:Int):=by omega
      obtain ⟨rw0,rfl,hrw,hcv,hel⟩:=(H5.out.1.mod hm (fun k hk=>by simp at hk;omega)).at_ j hlt2
      have hpl:=play_at (b:=b) hlt2
      have hdl:=HL.out j
      obtain ⟨qs,cs,hsv⟩:=hel.rd.len
      have hrd:=hel.rd
      rw [hsv] at hcv hrd
      generalize RS.getD j []=D at hpl hdl hrd hcv
      have hrd2:=hrd
      obtain ⟨nD,hnD⟩:∃ n,D.length=n:=⟨_,rfl⟩
      rw [hnD] at hcv hrd2 hdl
      clear hel hsv hrd
      cases hdc:decB D with
      | none =>
        rw [hdc] at hpl
        simp only at hpl
        have hdec:=dec_none hrd2 (by omega) hdc
        have HE:=Hj4 hpl hlg hm hvb
        clear hpl hlg hm hvb hrd2 hdc hnD
        go_wp2_with (go_at_call 78;refine hdec.mono ?_;rintro e w6 ⟨p1,n1,c1,p2,n2,c2,rfl,hm6⟩;simp only [aggR,cellsR,Rcd.zero,Grt.zero];have H6:=hide hm6;clear hm6 hdec)
        go_ret
        exact RcvRel.done HE.out.2.1 HP HE.out.1 HD.out H5.out.2 HE.out.2.2.1 (H6.out.alloc _)
      | some r =>
        rw [hdc] at hpl
        simp only at hpl
        have hdec:=dec_some hrd2 (by omega) hdc
        obtain ⟨hmay,henc⟩:=decB_iff.1 hdc
        have hpth:=may_path hmay
        have hwd:=(enc_width hmay).2
        rw [henc,hnD] at hwd
        rw [hnD] at hpl
        obtain ⟨WD,hWD⟩:∃ n,widthN nD=n:=⟨_,rfl⟩
        rw [hWD] at hpl hwd
        have hsm:=valid_small hvb hlg.bk.eq
        have hav:(applyB b r).2=0→validB (applyB b r).1=true:=apply_valid
        obtain ⟨⟨⟨cn,cb,cl,cg⟩,ce⟩,hAp⟩:∃ t,applyB b r=t:=⟨_,rfl⟩
        have hap:=fun (W:World) (m:Mod [] wr W) {sv tv:Value} (ha:RdN W sv r.grant.stamp) (hb:RdN W tv r.stamp)=>apply_any (b:=b) (r:=r) (BkM.mk (hlg.bk.gr.mod m (by simp)) hlg.bk.eq) (fun p hp=>by have:=(hsm.2 p hp).2;omega) ha hb (by omega)
        rw [hAp] at hpl hav hap
        simp only at hpl hav
        have hfp:wr.heap[pl]?=some (.cells (lgCells pd gv ⟨gn,ar,s,u,b,dd⟩) 80 (0,0)):=hlg.blk
        obtain ⟨gq,gc,hgv,-⟩:=hlg.bk.gr.shape
        subst hgv
        obtain ⟨bn,bb,bl,bg⟩:=b
        unfold lgCells at hfp
        simp only at hfp
        have HE:=Hj5 hpl hlg hm hav hWD
        have HA:=hide @hap
        have hwlt:w.heap.size≤w5.heap.size:=H5.out.2.size
        have hwlt2:w5.heap.size≤wr.heap.size:=hm.size
        clear hpl hlg hm hvb hrd2 hdc hnD hmay henc hsm hav hAp hap hpth hWD
        obtain ⟨kd,⟨gi,gh,gp,gm,gs,gt⟩,ri,rs,rn,rb,rl⟩:=r
        go_upto_region 10 with (go_at_call 78;refine hdec.mono ?_;rintro e w6 ⟨p1,n1,c1,p2,n2,c2,rfl,ha6,hb6,hm6⟩;simp only [aggR,cellsR];have H6:=Hj3 ha6 hb6 hm6;clear ha6 hb6 hm6 hdec)
        obtain ⟨W7,hW7⟩:∃ W7,W7=w6.alloc (.cells #[.int .i64 kd,.int .i64 gi,.int .i64 gh,.string gp,.int .i64 gm,.slice p1 n1 c1,.int .i64 gt,.int .i64 ri,.slice p2 n2 c2,.int .i64 rn,.int .i64 rb,.int .i64 rl] 42 (0,0)):=⟨_,rfl⟩
        have hr7:W7.heap[w6.heap.size]?=some (.cells #[.int .i64 kd,.int .i64 gi,.int .i64 gh,.string gp,.int .i64 gm,.slice p1 n1 c1,.int .i64 gt,.int .i64 ri,.slice p2 n2 c2,.int .i64 rn,.int .i64 rb,.int .i64 rl] 42 (0,0)):=by rw [hW7];exact heap_alloc_new w6 _
        have hm7:Mod [] w6 W7:=by rw [hW7];exact (Mod.refl _ _).alloc _
        rw [← hW7]
        have hz7:W7.heap.size=w6.heap.size+1:=by rw [hW7];simp
        have hz6:=H6.out.2.2.size
        have HLow:Hid (pl<W7.heap.size∧w6.heap.size<W7.heap.size):=hide (by omega)
        have hTV:TV pl w6.heap.size #[.pointer (some ⟨pd,0,none⟩),.int .i64 (gn:Int),.int .i64 (ar:Int),.int .i64 (s:Int),.int .i64 (u:Int),.int .i64 bn,.int .i64 bb,.int .i64 bl,.slice gq lv.length gc,.bool dd] #[.int .i64 kd,.int .i64 gi,.int .i64 gh,.string gp,.int .i64 gm,.slice p1 n1 c1,.int .i64 gt,.int .i64 ri,.slice p2 n2 c2,.int .i64 rn,.int .i64 rb,.int .i64 rl] W7:=⟨(H6.out.2.2.then hm7).at_ hfp (by simp),hr7⟩
        have HM7:=Hj3 (H6.out.1.mod hm7 (by simp)) (H6.out.2.1.mod hm7 (by simp)) (H6.out.2.2.then hm7)
        clear hW7 hr7 hm7 hfp H6 hz6 hz7
        go_cut [10,11] (fun s10 s11 wx=>ApR W7 (⟨cn,cb,cl,cg⟩,ce) s10 s11 wx)
        case first =>
         refine pB 11 (TV pl w6.heap.size #[.pointer (some ⟨pd,0,none⟩),.int .i64 (gn:Int),.int .i64 (ar:Int),.int .i64 (s:Int),.int .i64 (u:Int),.int .i64 bn,.int .i64 bb,.int .i64 bl,.slice gq lv.length gc,.bool dd] #[.int .i64 kd,.int .i64 gi,.int .i64 gh,.string gp,.int .i64 gm,.slice p1 n1 c1,.int .i64 gt,.int .i64 ri,.slice p2 n2 c2,.int .i64 rn,.int .i64 rb,.int .i64 rl]) (hTV.mod (Mod.refl [] W7).drew (by simp) (by simp)) ?_
         refine pP 0 ?_;refine pP 1 ?_;refine pP 2 ?_
         refine pT 3 rfl [11] (fun w hSw=>by have C0:=blk_cell hSw.1;have C1:=blk_cell hSw.2;go_simp;try with_reducible rfl) ?_
         refine pT 4 rfl [11] (fun w hSw=>by have C0:=blk_cell hSw.1;have C1:=blk_cell hSw.2;go_simp;try with_reducible rfl) ?_
         refine pX2 5 9 (fun hT K HK=>?_) (fun hT K HK=>?_)
         · skip
           refine step_call rfl 47 #[.tmp 54,.tmp 55] #[34,42] rfl (enters_of Tryz.func47 (by kernel_rfl) rfl) #[aggB ⟨bn,bb,bl,bg⟩ (.slice gq lv.length gc),aggR ⟨kd,⟨gi,gh,gp,gm,gs,gt⟩,ri,rs,rn,rb,rl⟩ (.slice p1 n1 c1) (.slice p2 n2 c2)] (by simp [Act.eval,aggB,aggR,cellsR]) ?_
           have hmX:Mod [] W7 W7.drew:=(Mod.refl [] W7).drew
           refine (HA.out W7.drew (HM7.out.2.2.then hmX) (HM7.out.1.mod hmX (by simp)) (HM7.out.2.1.mod hmX (by simp))).mono ?_
           rintro e w8 ⟨gv8,lv8,rfl,hbk8,hm8⟩
           refine ⟨_,rfl,?_⟩
           obtain ⟨q8,c8,hv8,-⟩:=hbk8.gr.shape
           subst hv8
           obtain ⟨n8,hn8⟩:∃ n,lv8.length=n:=⟨_,rfl⟩
           rw [hn8] at hbk8 ⊢
           simp only [aggB]
           have hT2:TV pl w6.heap.size #[.pointer (some ⟨pd,0,none⟩),.int .i64 (gn:Int),.int .i64 (ar:Int),.int .i64 (s:Int),.int .i64 (u:Int),.int .i64 bn,.int .i64 bb,.int .i64 bl,.slice gq lv.length gc,.bool dd] #[.int .i64 kd,.int .i64 gi,.int .i64 gh,.string gp,.int .i64 gm,.slice p1 n1 c1,.int .i64 gt,.int .i64 ri,.slice p2 n2 c2,.int .i64 rn,.int .i64 rb,.int .i64 rl] w8:=hT.mod hm8 (by simp) (by simp)
           have H8:=Hj2 hbk8 hm8
           clear hbk8 hm8 hmX hn8
           refine HK.out _ _ _ hT2 ?_
           clear HK K hT hT2
           refine pP 6 ?_;refine pP 7 ?_;refine pP 8 ?_
           refine pX 9 fun hT K HK=>?_
           go_simp
           obtain ⟨W9,hW9⟩:∃ W9,W9=(w8.alloc (.cells #[.int .i64 0,.int .i64 0,.int .i64 0,.slice none 0 0] 34 (0,0))):=⟨_,rfl⟩
           have hk9:W9.heap[w8.heap.size]?=some (.cells #[.int .i64 0,.int .i64 0,.int .i64 0,.slice none 0 0] 34 (0,0)):=by rw [hW9];exact heap_alloc_new _ _
           have hm9:Mod [] w8 W9:=by rw [hW9];exact ((Mod.refl _ _).alloc _)
           rw [← hW9]
           have hT2:TV pl w6.heap.size #[.pointer (some ⟨pd,0,none⟩),.int .i64 (gn:Int),.int .i64 (ar:Int),.int .i64 (s:Int),.int .i64 (u:Int),.int .i64 bn,.int .i64 bb,.int .i64 bl,.slice gq lv.length gc,.bool dd] #[.int .i64 kd,.int .i64 gi,.int .i64 gh,.string gp,.int .i64 gm,.slice p1 n1 c1,.int .i64 gt,.int .i64 ri,.slice p2 n2 c2,.int .i64 rn,.int .i64 rb,.int .i64 rl] W9:=hT.mod hm9 (by simp) (by simp)
           have hz9:W9.heap.size=w8.heap.size+1:=by rw [hW9];simp
           have H9:=Hj3 hk9 hm9 hz9
           clear hW9 hk9 hm9 hz9
           refine HK.out _ _ _ hT2 ?_
           clear HK K hT hT2
           refine pX 10 fun hT K HK=>?_
           have hkX:=H9.out.1
           have C9:=blk_cell hkX
           have F9:=blk_free hkX
           go_simp
           obtain ⟨W10,hW10⟩:∃ W10,W10=((((W9.setCell ⟨w8.heap.size,0,none⟩ (.int .i64 cn)).setCell ⟨w8.heap.size,1,none⟩ (.int .i64 cb)).setCell ⟨w8.heap.size,2,none⟩ (.int .i64 cl)).setCell ⟨w8.heap.size,3,none⟩ (.slice q8 n8 c8)):=⟨_,rfl⟩
           rw [← hW10]
           have hb10:W10.heap[w8.heap.size]?=some (.cells #[.int .i64 cn,.int .i64 cb,.int .i64 cl,.slice q8 n8 c8] 34 (0,0)):=by rw [hW10];exact blk_set (blk_set (blk_set (blk_set hkX 0 _) 1 _) 2 _) 3 _
           have hm10:Mod [w8.heap.size] W9 W10:=by rw [hW10];exact ((((Mod.refl _ _).setCell (fun _=>by simp) _).setCell (fun _=>by simp) _).setCell (fun _=>by simp) _).setCell (fun _=>by simp) _
           have hlow:=HLow.out
           have z8:=H8.out.2.size
           have z9:=H9.out.2.1.size
           have z9':=H9.out.2.2
           have zd:W7.drew.heap.size=W7.heap.size:=rfl
           have hT2:TV pl w6.heap.size #[.pointer (some ⟨pd,0,none⟩),.int .i64 (gn:Int),.int .i64 (ar:Int),.int .i64 (s:Int),.int .i64 (u:Int),.int .i64 bn,.int .i64 bb,.int .i64 bl,.slice gq lv.length gc,.bool dd] #[.int .i64 kd,.int .i64 gi,.int .i64 gh,.string gp,.int .i64 gm,.slice p1 n1 c1,.int .i64 gt,.int .i64 ri,.slice p2 n2 c2,.int .i64 rn,.int .i64 rb,.int .i64 rl] W10:=hT.mod hm10 (by simp;omega) (by simp;omega)
           have HA10:Hid (ApR W7 (⟨cn,cb,cl,cg⟩,ce) (.int .i64 ce) (.pointer (some ⟨w8.heap.size,0,none⟩)) W10):=hide ⟨w8.heap.size,q8,n8,c8,lv8,rfl,rfl,hb10,by omega,⟨H8.out.1.gr.mod (mod_fresh H9.out.2.1 hm10 (by simp)) (by simp),H8.out.1.eq⟩,mod_fresh ((Mod.refl [] W7).drew.then (H8.out.2.then H9.out.2.1)) hm10 (by simp;omega)⟩
           clear hkX C9 F9 hW10 hb10 hm10 hlow z8 z9 z9' zd
           refine HK.out _ _ _ hT2 ?_
           clear HK K hT hT2
           refine pY 11 fun hT K HK=>?_
           go_simp
           refine HK.out _ _ _ ?_
           clear HK K hT
           refine pD ?_
           go_wp2_with fail
           go_meet
           case rel=>exact HA10.out
         · skip
           go_simp
           obtain ⟨W9,hW9⟩:∃ W9,W9=(W7.alloc (.cells #[.int .i64 0,.int .i64 0,.int .i64 0,.slice none 0 0] 34 (0,0))).drew:=⟨_,rfl⟩
           have hk9:W9.heap[W7.heap.size]?=some (.cells #[.int .i64 0,.int .i64 0,.int .i64 0,.slice none 0 0] 34 (0,0)):=by rw [hW9];exact heap_alloc_new _ _
           have hm9:Mod [] W7 W9:=by rw [hW9];exact ((Mod.refl _ _).alloc _).drew
           rw [← hW9]
           have hT2:TV pl w6.heap.size #[.pointer (some ⟨pd,0,none⟩),.int .i64 (gn:Int),.int .i64 (ar:Int),.int .i64 (s:Int),.int .i64 (u:Int),.int .i64 bn,.int .i64 bb,.int .i64 bl,.slice gq lv.length gc,.bool dd] #[.int .i64 kd,.int .i64 gi,.int .i64 gh,.string gp,.int .i64 gm,.slice p1 n1 c1,.int .i64 gt,.int .i64 ri,.slice p2 n2 c2,.int .i64 rn,.int .i64 rb,.int .i64 rl] W9:=hTV.mod hm9 (by simp) (by simp)
           have hz9:W9.heap.size=W7.heap.size+1:=by rw [hW9];simp
           have H9:=Hj3 hk9 hm9 hz9
           clear hW9 hk9 hm9 hz9
           refine HK.out _ _ _ hT2 ?_
           clear HK K hT hT2
           refine pX 5 fun hT K HK=>?_
           refine step_call rfl 47 #[.tmp 54,.tmp 55] #[34,42] rfl (enters_of Tryz.func47 (by kernel_rfl) rfl) #[aggB ⟨bn,bb,bl,bg⟩ (.slice gq lv.length gc),aggR ⟨kd,⟨gi,gh,gp,gm,gs,gt⟩,ri,rs,rn,rb,rl⟩ (.slice p1 n1 c1) (.slice p2 n2 c2)] (by simp [Act.eval,aggB,aggR,cellsR]) ?_
           have hmX:Mod [] W7 W9:=H9.out.2.1
           refine (HA.out W9 (HM7.out.2.2.then hmX) (HM7.out.1.mod hmX (by simp)) (HM7.out.2.1.mod hmX (by simp))).mono ?_
           rintro e w8 ⟨gv8,lv8,rfl,hbk8,hm8⟩
           refine ⟨_,rfl,?_⟩
           obtain ⟨q8,c8,hv8,-⟩:=hbk8.gr.shape
           subst hv8
           obtain ⟨n8,hn8⟩:∃ n,lv8.length=n:=⟨_,rfl⟩
           rw [hn8] at hbk8 ⊢
           simp only [aggB]
           have hT2:TV pl w6.heap.size #[.pointer (some ⟨pd,0,none⟩),.int .i64 (gn:Int),.int .i64 (ar:Int),.int .i64 (s:Int),.int .i64 (u:Int),.int .i64 bn,.int .i64 bb,.int .i64 bl,.slice gq lv.length gc,.bool dd] #[.int .i64 kd,.int .i64 gi,.int .i64 gh,.string gp,.int .i64 gm,.slice p1 n1 c1,.int .i64 gt,.int .i64 ri,.slice p2 n2 c2,.int .i64 rn,.int .i64 rb,.int .i64 rl] w8:=hT.mod hm8 (by simp) (by simp)
           have H8:=Hj2 hbk8 hm8
           clear hbk8 hm8 hmX hn8
           refine HK.out _ _ _ hT2 ?_
           clear HK K hT hT2
           refine pP 6 ?_;refine pP 7 ?_;refine pP 8 ?_
           refine pX 10 fun hT K HK=>?_
           have hkX:=(H8.out.2.at_ H9.out.1 (by simp))
           have C9:=blk_cell hkX
           have F9:=blk_free hkX
           go_simp
           obtain ⟨W10,hW10⟩:∃ W10,W10=((((w8.setCell ⟨W7.heap.size,0,none⟩ (.int .i64 cn)).setCell ⟨W7.heap.size,1,none⟩ (.int .i64 cb)).setCell ⟨W7.heap.size,2,none⟩ (.int .i64 cl)).setCell ⟨W7.heap.size,3,none⟩ (.slice q8 n8 c8)):=⟨_,rfl⟩
           rw [← hW10]
           have hb10:W10.heap[W7.heap.size]?=some (.cells #[.int .i64 cn,.int .i64 cb,.int .i64 cl,.slice q8 n8 c8] 34 (0,0)):=by rw [hW10];exact blk_set (blk_set (blk_set (blk_set hkX 0 _) 1 _) 2 _) 3 _
           have hm10:Mod [W7.heap.size] w8 W10:=by rw [hW10];exact ((((Mod.refl _ _).setCell (fun _=>by simp) _).setCell (fun _=>by simp) _).setCell (fun _=>by simp) _).setCell (fun _=>by simp) _
           have hlow:=HLow.out
           have z8:=H8.out.2.size
           have z9:=H9.out.2.1.size
           have z9':=H9.out.2.2
           have zd:W7.drew.heap.size=W7.heap.size:=rfl
           have hT2:TV pl w6.heap.size #[.pointer (some ⟨pd,0,none⟩),.int .i64 (gn:Int),.int .i64 (ar:Int),.int .i64 (s:Int),.int .i64 (u:Int),.int .i64 bn,.int .i64 bb,.int .i64 bl,.slice gq lv.length gc,.bool dd] #[.int .i64 kd,.int .i64 gi,.int .i64 gh,.string gp,.int .i64 gm,.slice p1 n1 c1,.int .i64 gt,.int .i64 ri,.slice p2 n2 c2,.int .i64 rn,.int .i64 rb,.int .i64 rl] W10:=hT.mod hm10 (by simp;omega) (by simp;omega)
           have HA10:Hid (ApR W7 (⟨cn,cb,cl,cg⟩,ce) (.int .i64 ce) (.pointer (some ⟨W7.heap.size,0,none⟩)) W10):=hide ⟨W7.heap.size,q8,n8,c8,lv8,rfl,rfl,hb10,by omega,⟨(H8.out.1.gr.mod hm10 (by simp;omega)).base (by omega),H8.out.1.eq⟩,mod_fresh (H9.out.2.1.then H8.out.2) hm10 (by simp)⟩
           clear hkX C9 F9 hW10 hb10 hm10 hlow z8 z9 z9' zd
           refine HK.out _ _ _ hT2 ?_
           clear HK K hT hT2
           refine pY 11 fun hT K HK=>?_
           go_simp
           refine HK.out _ _ _ ?_
           clear HK K hT
           refine pD ?_
           go_wp2_with fail
           go_meet
           case rel=>exact HA10.out

        case rest =>
        obtain ⟨bx,q8,n8,c8,lv8,rfl,rfl,hbx,hbxs,hbk8,hm8⟩:=hcut
        simp only at hbx hbk8
        obtain ⟨W8,rfl⟩:∃ W8:World,W8=wc:=⟨_,rfl⟩
        have hm78:Mod [] wr W8:=HM7.out.2.2.then hm8
        have hp8:W8.heap[pl]?=some (.cells #[.pointer (some ⟨pd,0,none⟩),.int .i64 (gn:Int),.int .i64 (ar:Int),.int .i64 (s:Int),.int .i64 (u:Int),.int .i64 bn,.int .i64 bb,.int .i64 bl,.slice gq lv.length gc,.bool dd] 80 (0,0)):=hm78.at_ HE.out.2.1.blk (by simp)
        by_cases hce:ce=0
        · subst hce
          have H8:=Hj3 hbk8 hm78 hp8
          have C8:=blk_cell hp8
          have F8:=blk_free hp8
          have Cb:=blk_cell hbx
          have hlow:=HLow.out
          have hws:IntKind.i64.wrap ((s:Int)+1)=(s:Int)+1:=by rw [IntKind.wrap_i64];omega
          have hwu:IntKind.i64.wrap ((u:Int)+(WD:Int))=(u:Int)+(WD:Int):=by rw [IntKind.wrap_i64];omega
          clear hbk8 hm78 hp8 hm8 hbx
          go_upto_region 13 with fail
          obtain ⟨W11,hW11⟩:∃ W11,W11=((((W8.setCell ⟨pl,5,none⟩ (.int .i64 cn)).setCell ⟨pl,6,none⟩ (.int .i64 cb)).setCell ⟨pl,7,none⟩ (.int .i64 cl)).setCell ⟨pl,8,none⟩ (.slice q8 n8 c8)):=⟨_,rfl⟩
          rw [← hW11]
          have hb11:W11.heap[pl]?=some (.cells #[.pointer (some ⟨pd,0,none⟩),.int .i64 (gn:Int),.int .i64 (ar:Int),.int .i64 (s:Int),.int .i64 (u:Int),.int .i64 cn,.int .i64 cb,.int .i64 cl,.slice q8 n8 c8,.bool dd] 80 (0,0)):=by rw [hW11];exact blk_set (blk_set (blk_set (blk_set H8.out.2.2 5 _) 6 _) 7 _) 8 _
          have hm11:Mod [pl] W8 W11:=by rw [hW11];exact ((((Mod.refl _ _).setCell (fun _=>by simp) _).setCell (fun _=>by simp) _).setCell (fun _=>by simp) _).setCell (fun _=>by simp) _
          clear C8 F8 Cb hW11
          have C11:=blk_cell hb11
          have F11:=blk_free hb11
          have H11:=Hj2 hb11 hm11
          clear hb11 hm11
          go_upto_region 14 with fail
          obtain ⟨W12,hW12⟩:∃ W12,W12=W11.setCell ⟨pl,3,none⟩ (.int .i64 ((s:Int)+1)):=⟨_,rfl⟩
          rw [← hW12]
          have hp12:W12.heap[pl]?=some (.cells #[.pointer (some ⟨pd,0,none⟩),.int .i64 (gn:Int),.int .i64 (ar:Int),.int .i64 ((s:Int)+1),.int .i64 (u:Int),.int .i64 cn,.int .i64 cb,.int .i64 cl,.slice q8 n8 c8,.bool dd] 80 (0,0)):=by rw [hW12];exact blk_set H11.out.1 3 _
          have hm12:Mod [pl] W8 W12:=by rw [hW12];exact H11.out.2.setCell (fun _=>by simp) _
          have HM12:=hide hm12
          have HWD:=hide HE.out.2.2.2.2
          clear C11 F11 hW12 H11 hm12
          refine pB 10 (TS pl #[.pointer (some ⟨pd,0,none⟩),.int .i64 (gn:Int),.int .i64 (ar:Int),.int .i64 ((s:Int)+1),.int .i64 (u:Int),.int .i64 cn,.int .i64 cb,.int .i64 cl,.slice q8 n8 c8,.bool dd]) ((Mod.refl [] W12).drew.at_ hp12 (by simp)) ?_
          refine pP 0 ?_;refine pP 1 ?_;refine pP 2 ?_
          refine pT 3 rfl [10] (fun w hSw=>by have C0:=blk_cell hSw;go_simp;try with_reducible rfl) ?_
          refine pP 4 ?_;refine pP 5 ?_
          refine pX 6 fun hT K HK=>?_
          refine step_call rfl 49 #[.tmp 77] #[3] rfl (enters_of Tryz.func49 (by kernel_rfl) rfl) #[.int .i64 (nD:Int)] (by simp [Act.eval]) ?_
          refine (width_any nD (by omega) _).mono ?_
          rintro e wz ⟨rfl,hwz⟩
          rw [hwz]
          refine ⟨_,rfl,?_⟩
          rw [HWD.out]
          have hT2:TS pl #[.pointer (some ⟨pd,0,none⟩),.int .i64 (gn:Int),.int .i64 (ar:Int),.int .i64 ((s:Int)+1),.int .i64 (u:Int),.int .i64 cn,.int .i64 cb,.int .i64 cl,.slice q8 n8 c8,.bool dd] W12.drew:=hT
          clear hwz
          refine HK.out _ _ _ hT2 ?_
          clear HK K hT hT2
          refine pP 7 ?_;refine pP 8 ?_;refine pP 9 ?_
          refine pY 10 fun hT K HK=>?_
          have C3:=blk_cell (w:=W12) hp12
          have F3:=blk_free (w:=W12) hp12
          go_simp
          clear C3 F3
          refine HK.out _ _ _ ?_
          clear HK K hT
          refine pD ?_

          have hp13:(W12.setCell ⟨pl,4,none⟩ (.int .i64 ((u:Int)+(WD:Int)))).heap[pl]?=some (.cells #[.pointer (some ⟨pd,0,none⟩),.int .i64 (gn:Int),.int .i64 (ar:Int),.int .i64 ((s:Int)+1),.int .i64 ((u:Int)+(WD:Int)),.int .i64 cn,.int .i64 cb,.int .i64 cl,.slice q8 n8 c8,.bool dd] 80 (0,0)):=blk_set hp12 4 _
          have hm13:Mod [pl] W8 (W12.setCell ⟨pl,4,none⟩ (.int .i64 ((u:Int)+(WD:Int)))):=HM12.out.setCell (fun _=>by simp) _
          clear hp12
          obtain ⟨W13,hW13⟩:∃ W13,W13=W12.setCell ⟨pl,4,none⟩ (.int .i64 ((u:Int)+(WD:Int))):=⟨_,rfl⟩
          rw [← hW13] at hp13 hm13 ⊢
          clear hW13
          have H13:=Hj2 hp13 hm13
          clear hp13 hm13
          go_wp2_with fail
          go_roundw
          case rel =>
           obtain ⟨hp13,hm13⟩:=H13.out
           obtain ⟨hpl,hlg,hm,hav,hWD⟩:=HE.out
           obtain ⟨hbk8,hm78,-⟩:=H8.out
           have hs78:=HM7.out.2.2.size
           simp only [if_true] at hpl
           refine ⟨j+1,.slice q8 n8 c8,lv8,⟨cn,cb,cl,cg⟩,s+1,u+WD,by go_num,by omega,?_,hav rfl,by omega,by omega,hide ?_,(hm.then (hm78.mono (by simp))).then hm13.drew⟩
           · have hl8:=hlg.quiet hm78
             exact hl8.cells (l':=⟨gn,ar,s+1,u+WD,⟨cn,cb,cl,cg⟩,dd⟩) (by rw [show lgCells pd (.slice q8 n8 c8) ⟨gn,ar,s+1,u+WD,⟨cn,cb,cl,cg⟩,dd⟩=#[.pointer (some ⟨pd,0,none⟩),.int .i64 (gn:Int),.int .i64 (ar:Int),.int .i64 ((s:Int)+1),.int .i64 ((u:Int)+(WD:Int)),.int .i64 cn,.int .i64 cb,.int .i64 cl,.slice q8 n8 c8,.bool dd] from by simp [lgCells]];exact hp13) hm13.drew ⟨(hbk8.gr.mod hm13.drew (fun k hk=>by simp at hk;omega)).base (by omega),hbk8.eq⟩
           · obtain ⟨h1,h2,h3⟩:=HP.out
             rw [hpl] at h1 h2 h3
             simp only at h1 h2 h3
             exact ⟨h1,by omega,by omega⟩
          case measure=>simp [intOf];omega
        · have hcb:(ce != 0)=true:=by simpa using hce
          obtain ⟨hpl,hlg,hm,-⟩:=HE.out
          rw [if_neg hce] at hpl
          have HE2:=Hj4 hpl hlg hm hm78
          clear hpl hlg hm hm78 hbk8 hm8 hbx hp8
          go_wp2_with fail
          go_ret
          exact RcvRel.done HE2.out.2.1 HP HE2.out.1 HD.out H5.out.2 HE2.out.2.2.1 HE2.out.2.2.2
    · obtain rfl:j=RS.length:=by omega
      have HE:=Hj2 hlg hm
      clear hlg hm hvb
      go_wp2_with fail
      go_ret
      exact RcvRel.done HE.out.1 HP (by rw [List.drop_length];rfl) HD.out H5.out.2 HE.out.2 (Mod.refl _ _)
end Go.Proofs.YtpphoeimakjjdaaGreatDoor
/-
  WALKS: layer 12: Compact.
-/
namespace Go.Proofs.YtpphoeimakjjdaaGreatDoor
set_option maxRecDepth 100000
set_option maxHeartbeats 4000000
open Go.RowKit Go.Shelf

def CpTo (w:World) (pl pd bs:Nat) (gv:Value) (lv:List (Grt × Value)) (t:Int × Dk × Lg) (e:Ending) (w':World):Prop :=
 e=.returned (.int .i64 t.1)∧LgM w' pl pd bs gv lv t.2.1 t.2.2∧Mod [pl,pd,bs] w w'
theorem compact_go {d:Dk} {l:Lg} {G:Nat} (hl:l.dead=false) (ho:d.off=false) (hw:¬ 1073741824≤maxGen l.gen (sideS d.secs (1 - l.area))) (hG:maxGen l.gen (sideS d.secs (1 - l.area))+1=G) :
 compactD d l=if (layD d (1+(1 - l.area) * 24) G 0 ((dumpB l.book).map encB)).1≠0 then ((layD d (1+(1 - l.area) * 24) G 0 ((dumpB l.book).map encB)).1,(layD d (1+(1 - l.area) * 24) G 0 ((dumpB l.book).map encB)).2,deadL l) else
  if (nameD (layD d (1+(1 - l.area) * 24) G 0 ((dumpB l.book).map encB)).2 G (1 - l.area)).1≠0 then ((nameD (layD d (1+(1 - l.area) * 24) G 0 ((dumpB l.book).map encB)).2 G (1 - l.area)).1,(nameD (layD d (1+(1 - l.area) * 24) G 0 ((dumpB l.book).map encB)).2 G (1 - l.area)).2,deadL l)
  else (0,(nameD (layD d (1+(1 - l.area) * 24) G 0 ((dumpB l.book).map encB)).2 G (1 - l.area)).2,⟨G,1 - l.area,(dumpB l.book).length,sumW ((dumpB l.book).map encB),l.book,l.dead⟩):=by
 subst hG
 unfold compactD
 rw [if_neg (by rw [hl];decide),if_neg (by rw [ho];decide),if_neg hw]
def CpRel (w2:World) (pl pd bs:Nat) (gv:Value) (lv:List (Grt × Value)) (l:Lg) (DS:List B8) (F G N:Nat) (T:Int × Dk) (s5 i:Value) (wr:World):Prop :=
 ∃ (j u:Nat) (di:Dk),i=.int .i64 (j:Int)∧s5=.int .i64 (u:Int)∧j≤DS.length∧u+sumW (DS.drop j)=sumW DS∧di.secs.length=N∧LgM wr pl pd bs gv lv di l∧Hid (layD di (F+u) G j (DS.drop j)=T)∧Mod [pl,pd,bs] w2 wr
theorem compact_any {w:World} {pl pd bs:Nat} {gv:Value} {lv:List (Grt × Value)} {d:Dk} {l:Lg} (h:LgM w pl pd bs gv lv d l) (hv:validB l.book=true) (har:l.area≤1) (hgn:1≤l.gen∧l.gen≤1073741824) (h49:49≤d.secs.length) :
 Calls Tryz.prog 21 #[.pointer (some ⟨pl,0,none⟩)] w fun e w'=>CpTo w pl pd bs gv lv (compactD d l) e w':=by
 have hlt:=h.lt
 have hplw:=lt_of_block h.blk
 have C9:w.cell? ⟨pl,9,none⟩=some (.bool l.dead):=blk_cell h.blk 9
 have hng:=nextGen_any h har hgn.2 h49
 cases hdd:l.dead with
 | true =>
   rw [hdd] at C9
   have HH:=hide h
   have he:compactD d l=(40,d,l):=by unfold compactD;rw [if_pos hdd]
   clear h hng
   rw [he]
   go_enter Tryz.func21,Tryz.ntmps21
   go_wp2_with fail
   go_ret
   exact ⟨rfl,HH.out,Mod.refl _ _⟩
 | false =>
 rw [hdd] at C9
 cases hoff:d.off with
 | true =>
   have hn:ngD d l=(0,40,deadL l):=by unfold ngD;rw [if_pos hoff]
   have he:compactD d l=(40,d,deadL l):=by unfold compactD;rw [if_neg (by rw [hdd];decide),if_pos hoff]
   rw [hn] at hng
   rw [he]
   clear h he hn
   go_enter Tryz.func21,Tryz.ntmps21
   go_wp2_with (go_at_call 60;refine hng.mono ?_;rintro e w1 ⟨rfl,hlg1,hm1⟩;have H1:=Hj2 hlg1 hm1;clear hlg1 hm1 hng)
   go_ret
   exact ⟨rfl,H1.out.1,H1.out.2.mono (by simp)⟩
 | false =>
 by_cases hw:1073741824≤maxGen l.gen (sideS d.secs (1 - l.area))
 · have hn:ngD d l=(0,42,l):=by unfold ngD;rw [if_neg (by rw [hoff];decide),if_pos hw]
   have he:compactD d l=(42,d,l):=by unfold compactD;rw [if_neg (by rw [hdd];decide),if_neg (by rw [hoff];decide),if_pos hw]
   rw [hn] at hng
   rw [he]
   clear h he hn hw
   go_enter Tryz.func21,Tryz.ntmps21
   go_wp2_with (go_at_call 60;refine hng.mono ?_;rintro e w1 ⟨rfl,hlg1,hm1⟩;have H1:=Hj2 hlg1 hm1;clear hlg1 hm1 hng)
   go_ret
   exact ⟨rfl,H1.out.1,H1.out.2.mono (by simp)⟩
 have hn:ngD d l=(((maxGen l.gen (sideS d.secs (1 - l.area)):Nat):Int)+1,0,l):=by unfold ngD;rw [if_neg (by rw [hoff];decide),if_neg hw]
 obtain ⟨G,hG⟩:∃ G,maxGen l.gen (sideS d.secs (1 - l.area))+1=G:=⟨_,rfl⟩
 have hge:=maxGen_ge (sideS d.secs (1 - l.area)) l.gen
 have hgo:=compact_go hdd hoff hw hG
 rw [show ((maxGen l.gen (sideS d.secs (1 - l.area)):Nat):Int)+1=(G:Int) by rw [← hG];rfl] at hn
 have hG1:1≤G∧G≤1073741824:=by omega
 rw [hn] at hng
 have hdw:=dump_width hv
 have hdl:=dump_len l.book hv
 have hmay:=may_dump hv
 obtain ⟨DS,hDS⟩:∃ DS,(dumpB l.book).map encB=DS:=⟨_,rfl⟩
 have hDl:DS.length=(dumpB l.book).length:=by rw [← hDS,List.length_map]
 obtain ⟨ko,hko⟩:∃ ko,1 - l.area=ko:=⟨_,rfl⟩
 obtain ⟨F,hF⟩:∃ F,1+ko * 24=F:=⟨_,rfl⟩
 have hkle:ko≤1:=by omega
 have hfs:=fun (W:World)=>first_any ko hkle W
 rw [hDS,hko,hF,← hDl] at hgo
 rw [hDS] at hdw
 rw [hF] at hfs
 obtain ⟨T,hT⟩:∃ T,layD d F G 0 DS=T:=⟨_,rfl⟩
 rw [hT] at hgo
 obtain ⟨R,hR⟩:∃ R,compactD d l=R:=⟨_,rfl⟩
 rw [hR] at hgo ⊢
 have HR:=hide hgo
 clear hR
 have hF1:F≤25:=by omega
 have HD:=Hj6 hDS hDl hmay hT hdw hv
 have hwk:IntKind.i64.wrap (1 - (l.area:Int))=(ko:Int):=by rw [IntKind.wrap_i64];omega
 have hdl8:DS.length≤8:=by omega
 clear h hgo hn hw hG hge hDS hDl hT hmay hdl hdw hv hgn har
 obtain ⟨gn,ar,sq,us,⟨bn,bb,bl,bg⟩,dd⟩:=l
 simp only at hdd hwk hko C9
 subst hdd
 go_enter Tryz.func21,Tryz.ntmps21
 go_upto_region 8 with (go_at_call 60;refine hng.mono ?_;rintro e w1 ⟨rfl,hlg1,hm1⟩;have H1:=Hj2 hlg1 hm1;clear hlg1 hm1 hng)
 obtain ⟨gq,gc,hgv,-⟩:=H1.out.1.bk.gr.shape
 subst hgv
 have C1:=blk_cell H1.out.1.blk
 unfold lgCells at C1
 have hdmp:=dump_any H1.out.1.bk HD.out.2.2.2.2.2
 unfold aggB at hdmp
 simp only at hdmp
 go_upto_region 10 with (go_at_call 61;refine hdmp.mono ?_;rintro e w2 ⟨v2,lr,rfl,hl2,hd2,hm2⟩
                         obtain ⟨q2,c2,hv2,hn2⟩:=hd2.shape
                         subst hv2
                         have hlr:lr.length=DS.length:=by rw [HD.out.2.1,← hl2,List.length_map]
                         rw [hlr] at hd2 hn2 ⊢
                         have H2:=Hj4 hl2 hd2 hm2 hlr
                         clear hl2 hd2 hm2 hdmp hlr)
 have hlw2:=H1.out.1.quiet H2.out.2.2.1
 have hz2:w.heap.size≤w1.heap.size:=H1.out.2.size
 have hz3:=H2.out.2.2.1.size
 have HL2:=hide hlw2
 clear hlw2 C1
 go_loopw [5,36] (fun s5 i wr=>CpRel w2 pl pd bs (.slice gq lv.length gc) lv ⟨gn,ar,sq,us,⟨bn,bb,bl,bg⟩,false⟩ DS F G d.secs.length T s5 i wr) (fun _ i _=>DS.length - (intOf i).toNat)
 case atStart=>exact ⟨0,0,d,rfl,rfl,Nat.zero_le _,by simp,rfl,HL2.out,hide (by rw [List.drop_zero];exact HD.out.2.2.2.1),Mod.refl _ _⟩
 case round =>
  obtain ⟨j,u,di,rfl,rfl,hj,hsum,hlen,hlg,HY,hm⟩:=hrel
  have hdw:=HD.out.2.2.2.2.1
  by_cases hlt2:j<DS.length
  · have hjn:(j:Int)<(DS.length:Int):=by omega
    have hjr:j<lr.length:=by rw [H2.out.2.2.2];exact hlt2
    obtain ⟨rb0,rfl,hrb1,hrb2,hcs,hfz,hrs,hno⟩:=(H2.out.2.1.mod hm (fun k hk=>by simp at hk;omega)).at_ j hjr
    have hdr:DS.drop j=DS.getD j []::DS.drop (j+1):=by rw [List.drop_eq_getElem_cons hlt2];simp [hlt2]
    have hEr:DS.getD j []=encB (lr.getD j default).1:=by
     rw [← HD.out.1,← H2.out.1]
     simp [hjr]
    have hmr:mayB (lr.getD j default).1=true:=HD.out.2.2.1 _ (by rw [← H2.out.1];exact List.mem_map.2 ⟨_,by simp [hjr],rfl⟩)
    generalize lr.getD j default=rp at hcs hrs hno hEr hmr
    obtain ⟨r,sv⟩:=rp
    simp only at hrs hno hEr hmr
    rw [hEr] at hdr
    have hpth:=may_path hmr
    have hwd:=enc_width hmr
    have hel:=enc_len hmr
    have hen0:=fun (W:World) (m:Mod [] wr W)=>encode_any (w:=W) (r:=r) (sv:=sv) (tv:=.slice none 0 0) (hrs.mod m (by simp)) (by rw [hno];exact rdN_nil _) (by omega)
    rw [hmr] at hen0
    generalize encB r=EB at hen0 hdr hwd hel
    obtain ⟨nE,hnE⟩:∃ n,EB.length=n:=⟨_,rfl⟩
    obtain ⟨WE,hWE⟩:∃ n,widthN nE=n:=⟨_,rfl⟩
    have hsE:sumW (DS.drop j)=WE+sumW (DS.drop (j+1)):=by rw [hdr,← hWE,← hnE];simp [sumW]
    rw [hnE,hWE] at hwd
    rw [hnE] at hel
    have hen:=fun (W:World) (m:Mod [] wr W)=>(hen0 W m).mono (R':=fun e w'=>∃ p c,e=.returned (.tuple #[.slice p nE c,.int .i64 0])∧RowY w' W.heap.size (.slice p nE c) EB∧Mod [] W w') (fun e w' hx=>by
     rcases hx with ⟨h0,_⟩ | ⟨_,h1⟩
     · cases h0
     · rw [hnE] at h1;exact h1)
    have hY:=HY.out
    rw [hdr] at hY
    unfold layD at hY
    rw [hnE,hWE] at hY
    have hput0:=fun (W:World) (m:Mod [] wr W) (p:Option Addr) (c:Nat) (hu:RowY W wr.heap.size (.slice p nE c) EB)=>lput_any (hlg.quiet m) (F+u) G j hu.rd hG1 (by omega) (by omega) (fun k hk=>(hu.blk k hk).2) (by omega)
    have herr:=writes_err di (F+u) (packL G j EB) (by rw [packL_len,hnE,hWE,hlen];omega) pack_64
    have hlen2:(putD di (F+u) G j EB).2.secs.length=d.secs.length:=by unfold putD;rw [writes_len,hlen]
    have herr2:(putD di (F+u) G j EB).1=0∨(putD di (F+u) G j EB).1=40:=herr
    obtain ⟨⟨te,td⟩,hPt⟩:∃ t,putD di (F+u) G j EB=t:=⟨_,rfl⟩
    rw [hPt] at hY hput0 herr2 hlen2
    simp only at hY herr2 hlen2
    have hwf:IntKind.i64.wrap ((F:Int)+(u:Int))=(F:Int)+(u:Int):=by rw [IntKind.wrap_i64];omega
    have hwu:IntKind.i64.wrap ((u:Int)+(WE:Int))=(u:Int)+(WE:Int):=by rw [IntKind.wrap_i64];omega
    obtain ⟨q1,c1,hsv⟩:=hrs.len
    obtain ⟨kd,⟨gi,gh,gp,gm,gs,gt⟩,ri,rs,rn,rb,rl⟩:=r
    simp only at hno hrs hsv
    obtain ⟨n1,hn1⟩:∃ n,gs.length=n:=⟨_,rfl⟩
    rw [hn1] at hsv
    subst hsv
    have y0:wr.cell? ⟨rb0,j * 12,none⟩=some (.int .i64 kd):=hcs 0 (by decide)
    have y1:wr.cell? ⟨rb0,j * 12+1,none⟩=some (.int .i64 gi):=hcs 1 (by decide)
    have y2:wr.cell? ⟨rb0,j * 12+2,none⟩=some (.int .i64 gh):=hcs 2 (by decide)
    have y3:wr.cell? ⟨rb0,j * 12+3,none⟩=some (.string gp):=hcs 3 (by decide)
    have y4:wr.cell? ⟨rb0,j * 12+4,none⟩=some (.int .i64 gm):=hcs 4 (by decide)
    have y5:wr.cell? ⟨rb0,j * 12+5,none⟩=some (.slice q1 n1 c1):=hcs 5 (by decide)
    have y6:wr.cell? ⟨rb0,j * 12+6,none⟩=some (.int .i64 gt):=hcs 6 (by decide)
    have y7:wr.cell? ⟨rb0,j * 12+7,none⟩=some (.int .i64 ri):=hcs 7 (by decide)
    have y8:wr.cell? ⟨rb0,j * 12+8,none⟩=some (.slice none 0 0):=hcs 8 (by decide)
    have y9:wr.cell? ⟨rb0,j * 12+9,none⟩=some (.int .i64 rn):=hcs 9 (by decide)
    have y10:wr.cell? ⟨rb0,j * 12+10,none⟩=some (.int .i64 rb):=hcs 10 (by decide)
    have y11:wr.cell? ⟨rb0,j * 12+11,none⟩=some (.int .i64 rl):=hcs 11 (by decide)
    have hwid:=fun (W:World)=>width_any nE (by omega) W
    rw [hWE] at hwid
    have C2:∀ W,Mod [] wr W→W.cell? ⟨pl,2,none⟩=some (.int .i64 (ar:Int)):=fun W m=>m.kept (blk_cell hlg.blk 2) (by simp)
    have HC2:=hide C2
    have HM:=Hj5 hlg hm hsE hY hlen2
    unfold aggR cellsR at hen hen0
    simp only at hen hen0
    have HEn:=hide hen
    have HPu:=hide hput0
    clear hY hlg hm hsE hcs hrs hno hEr hmr hdr hen0 hen hput0 herr hPt hpth hn1 hnE hWE HY C2 hfz hlen hlen2
    rcases herr2 with rfl | rfl
    all_goals
     go_upto_region 12 with fail
     clear y0 y1 y2 y3 y4 y5 y6 y7 y8 y9 y10 y11
     go_wp2_with (first
      | (go_at_call 48;refine (HEn.out _ ((Mod.refl _ _).alloc _)).mono ?_;rintro e w4 ⟨p4,c4,rfl,hr4,hm4⟩
         have H4:=Hj2 (hr4.base (Mod.size ((Mod.refl [] wr).alloc _))) (((Mod.refl [] wr).alloc _).then hm4)
         have K2:=HC2.out w4 H4.out.2
         clear hr4 hm4 HEn)
      | (go_at_call 51;refine (hfs _).mono ?_;rintro e w5 ⟨rfl,hx⟩;rw [hx];clear hx)
      | (go_at_call 50;refine (HPu.out _ H4.out.2 _ _ H4.out.1).mono ?_;rintro e w6 ⟨rfl,hlg6,hm6⟩
         have H6:=Hj2 hlg6 hm6
         clear hlg6 hm6 HPu K2)
      | (go_at_call 49;refine (hwid _).mono ?_;rintro e w7 ⟨rfl,hx⟩;rw [hx];clear hx)
      | fail)
    · go_roundw
      case rel =>
       obtain ⟨hlg,hm,hsE,hY,hlen2⟩:=HM.out
       have hY:layD td (F+u+WE) G (j+1) (DS.drop (j+1))=T:=by simpa using hY
       obtain ⟨hlg6,hm6⟩:=H6.out
       have hlg6:LgM w6 pl pd bs (.slice gq lv.length gc) lv td ⟨gn,ar,sq,us,⟨bn,bb,bl,bg⟩,false⟩:=by simpa using hlg6
       exact ⟨j+1,u+WE,td,by go_num,by go_num,by omega,by omega,hlen2,hlg6,hide (by rw [← Nat.add_assoc];exact hY),(hm.then (H4.out.2.mono (by simp))).then hm6⟩
      case measure=>simp [intOf];omega
    · go_ret
      obtain ⟨hlg,hm,hsE,hY,hlen2⟩:=HM.out
      have hY:((40:Int),td)=T:=by simpa using hY
      obtain ⟨hlg6,hm6⟩:=H6.out
      have hlg6:LgM w6 pl pd bs (.slice gq lv.length gc) lv td (deadL ⟨gn,ar,sq,us,⟨bn,bb,bl,bg⟩,false⟩):=by simpa using hlg6
      rw [HR.out,← hY,if_pos (by simp)]
      exact ⟨rfl,hlg6,((((H1.out.2.mono (by simp)).then (H2.out.2.2.1.mono (by simp))).then hm).then (H4.out.2.mono (by simp))).then hm6⟩
  · obtain rfl:j=DS.length:=by omega
    rw [List.drop_length] at hsum
    simp only [sumW,List.map_nil,List.sum_nil,Nat.add_zero] at hsum
    have hY:=HY.out
    rw [List.drop_length] at hY
    unfold layD at hY
    subst hY
    have hnm:=name_any hlg G ko hG1 hkle
    have C2:=blk_cell hlg.blk 2
    unfold lgCells at C2
    have herr:(nameD di G ko).1=0∨(nameD di G ko).1≠0:=by omega
    obtain ⟨⟨ue,ud⟩,hU⟩:∃ t,nameD di G ko=t:=⟨_,rfl⟩
    rw [hU] at hnm herr
    simp only at herr
    have HU:=hide hU
    have hsz:=hm.size
    have HM:=Hj2 hsum hm
    clear hlg hsum HY hU hm herr
    by_cases hue:ue=0
    · subst hue
      go_upto_region 22 with (go_at_call 44;refine hnm.mono ?_;rintro e w4 ⟨rfl,hlg4,hm4⟩
                              have H4:=Hj2 hlg4 hm4
                              clear hlg4 hm4 hnm C2)
      have C4:=blk_cell H4.out.1.blk
      have F4:=blk_free H4.out.1.blk
      unfold lgCells at C4
      go_wp2_with fail
      go_ret
      obtain ⟨hsum,hm⟩:=HM.out
      rw [HR.out,if_neg (by simp),HU.out,if_neg (by simp)]
      obtain ⟨hlg4,hm4⟩:=H4.out
      obtain ⟨W5,hW5⟩:∃ W5,W5=(((w4.setCell ⟨pl,1,none⟩ (.int .i64 (G:Int))).setCell ⟨pl,2,none⟩ (.int .i64 (ko:Int))).setCell ⟨pl,3,none⟩ (.int .i64 (DS.length:Int))).setCell ⟨pl,4,none⟩ (.int .i64 (u:Int)):=⟨_,rfl⟩
      have hb5:=blk_set (blk_set (blk_set (blk_set hlg4.blk 1 (.int .i64 (G:Int))) 2 (.int .i64 (ko:Int))) 3 (.int .i64 (DS.length:Int))) 4 (.int .i64 (u:Int))
      have hms:Mod [pl] w4 W5:=by rw [hW5];exact ((((Mod.refl _ _).setCell (fun _=>by simp) _).setCell (fun _=>by simp) _).setCell (fun _=>by simp) _).setCell (fun _=>by simp) _
      rw [← hW5] at hb5 ⊢
      rw [show sumW DS=u from hsum.symm]
      exact ⟨rfl,hlg4.cells (l':=⟨G,ko,DS.length,u,⟨bn,bb,bl,bg⟩,false⟩) hb5 hms (hlg4.bkm hms),((((H1.out.2.mono (by simp)).then (H2.out.2.2.1.mono (by simp))).then hm).then (hm4.mono (by simp))).then (hms.mono (by simp))⟩
    · have hub:(ue != 0)=true:=by simpa using hue
      go_upto_region 20 with (go_at_call 44;refine hnm.mono ?_;rintro e w4 ⟨rfl,hlg4,hm4⟩
                              have H4:=Hj2 hlg4 hm4
                              clear hlg4 hm4 hnm C2)
      have C4:=blk_cell H4.out.1.blk
      have F4:=blk_free H4.out.1.blk
      unfold lgCells at C4
      go_wp2_with fail
      go_ret
      obtain ⟨hsum,hm⟩:=HM.out
      obtain ⟨hlg4,hm4⟩:=H4.out
      rw [HR.out,if_neg (by simp),HU.out,if_pos hue]
      have hms:Mod [pl] w4 (w4.setCell ⟨pl,9,none⟩ (.bool true)):=(Mod.refl _ _).setCell (fun _=>by simp) _
      exact ⟨rfl,hlg4.cells (l':=deadL _) (blk_set hlg4.blk 9 _) hms (hlg4.bkm hms),((((H1.out.2.mono (by simp)).then (H2.out.2.2.1.mono (by simp))).then hm).then (hm4.mono (by simp))).then (hms.mono (by simp))⟩
end Go.Proofs.YtpphoeimakjjdaaGreatDoor
/-
  WALKS: layer 12: Append. (Written by wip/gen_led7.py.)
-/
namespace Go.Proofs.YtpphoeimakjjdaaGreatDoor
set_option maxRecDepth 100000
set_option maxHeartbeats 8000000
open Go.RowKit Go.Shelf

theorem name_len (d:Dk) (g k:Nat):(nameD d g k).2.secs.length=d.secs.length:=write_len _ _ _
theorem comp_len (d:Dk) (l:Lg):(compactD d l).2.1.secs.length=d.secs.length:=by
 unfold compactD
 split
 · rfl
 split
 · rfl
 split
 · rfl
 simp only
 rw [lay_writes]
 split
 · exact writes_len _ _ _
 split
 · show (nameD _ _ _).2.secs.length=_
   rw [name_len,writes_len]
 · show (nameD _ _ _).2.secs.length=_
   rw [name_len,writes_len]
theorem comp_zero {d:Dk} {l:Lg} (hok:l.Ok) (h:(compactD d l).1=0):∃ gn ar sq us,(compactD d l).2.2=⟨gn,ar,sq,us,l.book,false⟩∧1≤gn∧gn≤1073741824∧ar≤1∧sq≤us∧us≤16:=by
 have hge:=maxGen_ge (sideS d.secs (1 - l.area)) l.gen
 have hg1:=hok.gen1
 have hdw:=dump_width hok.book
 have hsw:=sumW_ge ((dumpB l.book).map encB)
 rw [List.length_map] at hsw
 unfold compactD at h ⊢
 by_cases h1:l.dead=true
 · rw [if_pos h1] at h;cases h
 rw [if_neg h1] at h ⊢
 by_cases h2:d.off=true
 · rw [if_pos h2] at h;cases h
 rw [if_neg h2] at h ⊢
 by_cases h3:1073741824≤maxGen l.gen (sideS d.secs (1 - l.area))
 · rw [if_pos h3] at h;cases h
 rw [if_neg h3] at h ⊢
 simp only at h ⊢
 split at h
 · rename_i h4;exact absurd h h4
 rename_i h4
 split at h
 · rename_i h5;exact absurd h h5
 rename_i h5
 rw [if_neg h4,if_neg h5]
 have hdd:l.dead=false:=by cases hx:l.dead <;> simp_all
 exact ⟨_,_,_,_,by rw [hdd],by omega,by omega,by omega,hsw,hdw⟩
def TG (pl gn ar sq us:Nat) (w:World):Prop:=w.cell? ⟨pl,1,none⟩=some (.int .i64 (gn:Int))∧w.cell? ⟨pl,2,none⟩=some (.int .i64 (ar:Int))∧w.cell? ⟨pl,3,none⟩=some (.int .i64 (sq:Int))∧w.cell? ⟨pl,4,none⟩=some (.int .i64 (us:Int))
theorem LgM.tg {w:World} {pl pd bs:Nat} {gv:Value} {lv:List (Grt × Value)} {d:Dk} {l:Lg} (h:LgM w pl pd bs gv lv d l):TG pl l.gen l.area l.seq l.used w:=⟨blk_cell h.blk 1,blk_cell h.blk 2,blk_cell h.blk 3,blk_cell h.blk 4⟩
def ApdTo (w:World) (pl pd bs:Nat) (gv0:Value) (lv0:List (Grt × Value)) (t:Int × Dk × Lg) (e:Ending) (w':World):Prop :=
 e=.returned (.int .i64 t.1)∧∃ gv lv,LgM w' pl pd bs gv lv t.2.1 t.2.2∧Mod [pl,pd,bs] w w'∧((gv=gv0∧lv=lv0)∨GrM w' w.heap.size gv lv)
theorem append_any {w:World} {pl pd bs:Nat} {gv:Value} {lv:List (Grt × Value)} {d:Dk} {l:Lg} (h:LgM w pl pd bs gv lv d l) (hok:l.Ok) (h49:49≤d.secs.length) {r:Rcd} {sv tv:Value} (hs:RdN w sv r.grant.stamp) (ht:RdN w tv r.stamp) (hp:r.grant.path.size≤9223372036854775807) :
 Calls Tryz.prog 16 #[.pointer (some ⟨pl,0,none⟩),aggR r sv tv] w fun e w'=>ApdTo w pl pd bs gv lv (appendD d l r) e w':=by
 have hlt:=h.lt
 have hplw:=lt_of_block h.blk
 obtain ⟨R,hR⟩:∃ R,appendD d l r=R:=⟨_,rfl⟩
 rw [hR]
 unfold appendD at hR
 have hsm:=valid_small hok.book h.bk.eq
 have hap:=fun (W:World) (m:Mod [] w W) {sv tv:Value} (ha:RdN W sv r.grant.stamp) (hb:RdN W tv r.stamp)=>apply_any (b:=l.book) (r:=r) (BkM.mk (h.bk.gr.mod m (by simp)) h.bk.eq) (fun p hp=>by have:=(hsm.2 p hp).2;omega) ha hb hp
 have hav:(applyB l.book r).2=0→mayB r=true:=fun e=>(apply_zero.1 e).2.1
 have hen0:=fun (W:World) {sv tv:Value} (ha:RdN W sv r.grant.stamp) (hb:RdN W tv r.stamp)=>encode_any (w:=W) (r:=r) (sv:=sv) (tv:=tv) ha hb hp
 have hcp0:=fun (W:World) (m:Mod [] w W)=>compact_any (h.quiet m) hok.book hok.area ⟨hok.gen1,hok.genM⟩ h49
 have hcz:=comp_zero (d:=d) hok
 have hcl:=comp_len d l
 have hwd:(applyB l.book r).2=0→widthN (encB r).length≤2∧(encB r).length≤65:=fun e=>⟨(enc_width (hav e)).2,(enc_len (hav e)).2⟩
 obtain ⟨CT,hCT⟩:∃ t,compactD d l=t:=⟨_,rfl⟩
 obtain ⟨⟨⟨cn,cb,cl,cg⟩,ce⟩,hAp⟩:∃ t,applyB l.book r=t:=⟨_,rfl⟩
 obtain ⟨EB,hEB⟩:∃ t,encB r=t:=⟨_,rfl⟩
 obtain ⟨M,hM⟩:∃ t,mayB r=t:=⟨_,rfl⟩
 obtain ⟨nE,hnE⟩:∃ n,EB.length=n:=⟨_,rfl⟩
 obtain ⟨WE,hWE⟩:∃ n,widthN nE=n:=⟨_,rfl⟩
 rw [hCT,hAp,hEB,hnE,hWE] at hR
 rw [hEB,hM] at hen0
 rw [hM] at hav
 rw [hCT] at hcp0 hcz hcl
 rw [hAp] at hap hav hwd
 rw [hEB,hnE,hWE] at hwd
 obtain ⟨gn,ar,sq,us,⟨bn,bb,bl,bg⟩,dd⟩:=l
 simp only at hR hav hcp0 hcz hcl hwd
 obtain ⟨k1,k2,k3,k4,k5,k6⟩:=hok
 simp only at k1 k2 k3 k4 k5 k6
 obtain ⟨gq,gc,hgv,-⟩:=h.bk.gr.shape
 subst hgv
 obtain ⟨p1,c1,hsv⟩:=hs.len
 obtain ⟨p2,c2,htv⟩:=ht.len
 obtain ⟨kd,⟨gi,gh,gp,gm,gs,gt⟩,ri,rs,rn,rb,rl⟩:=r
 simp only at hs ht hsv htv hp
 obtain ⟨n1,hn1⟩:∃ n,gs.length=n:=⟨_,rfl⟩
 obtain ⟨n2,hn2⟩:∃ n,rs.length=n:=⟨_,rfl⟩
 rw [hn1] at hsv
 rw [hn2] at htv
 subst hsv htv
 have hwid:=fun (W:World) (hx:nE≤65)=>width_any nE (by omega) W
 have HWD:Hid (widthN nE=WE):=hWE
 have HNE:=hide hnE
 have HA:=hide @hap
 have HE0:=hide @hen0
 have HCP:=hide hcp0
 have HCZ:=hide hcz
 have HR:=hide hR
 have HH:=Hj2 h hsm
 obtain ⟨W7,hW7⟩:∃ W7,W7=w.alloc (.cells #[.int .i64 kd,.int .i64 gi,.int .i64 gh,.string gp,.int .i64 gm,.slice p1 n1 c1,.int .i64 gt,.int .i64 ri,.slice p2 n2 c2,.int .i64 rn,.int .i64 rb,.int .i64 rl] 42 (0,0)):=⟨_,rfl⟩
 have hr7:W7.heap[w.heap.size]?=some (.cells #[.int .i64 kd,.int .i64 gi,.int .i64 gh,.string gp,.int .i64 gm,.slice p1 n1 c1,.int .i64 gt,.int .i64 ri,.slice p2 n2 c2,.int .i64 rn,.int .i64 rb,.int .i64 rl] 42 (0,0)):=by rw [hW7];exact heap_alloc_new w _
 have hm7:Mod [] w W7:=by rw [hW7];exact (Mod.refl _ _).alloc _
 have hz7:W7.heap.size=w.heap.size+1:=by rw [hW7];simp
 have HLow:Hid (pl<W7.heap.size∧w.heap.size<W7.heap.size):=hide (by omega)
 have hTV:TV pl w.heap.size #[.pointer (some ⟨pd,0,none⟩),.int .i64 (gn:Int),.int .i64 (ar:Int),.int .i64 (sq:Int),.int .i64 (us:Int),.int .i64 bn,.int .i64 bb,.int .i64 bl,.slice gq lv.length gc,.bool dd] #[.int .i64 kd,.int .i64 gi,.int .i64 gh,.string gp,.int .i64 gm,.slice p1 n1 c1,.int .i64 gt,.int .i64 ri,.slice p2 n2 c2,.int .i64 rn,.int .i64 rb,.int .i64 rl] W7:=⟨hm7.at_ h.blk (by simp),hr7⟩
 have HM7:=Hj3 (hs.mod hm7 (by simp)) (ht.mod hm7 (by simp)) hm7
 have hC9:W7.cell? ⟨pl,9,none⟩=some (.bool dd):=blk_cell hTV.1 9
 clear hap hen0 hcp0 hcz hR h hsm hr7 hm7 hz7 hs ht hAp hCT hWE hnE hEB hM hn1 hn2 hp
 unfold aggR cellsR
 simp only
 cases dd with
 | true =>
   go_enter Tryz.func16,Tryz.ntmps16
   go_upto_region 3 with fail
   rw [← hW7]
   clear hW7
   go_wp2_with fail
   go_ret
   rw [← HR.out,if_pos (by simp)]
   exact ⟨rfl,_,_,HH.out.1.quiet HM7.out.2.2,HM7.out.2.2.mono (by simp),.inl ⟨rfl,rfl⟩⟩
 | false =>
 go_enter Tryz.func16,Tryz.ntmps16
 go_upto_region 3 with fail
 rw [← hW7]
 clear hW7
 go_upto_region 5 with fail
 go_cut [5,6] (fun s5 s6 wx=>ApR W7 (⟨cn,cb,cl,cg⟩,ce) s6 s5 wx)
 case first =>
  refine pB 11 (TV pl w.heap.size #[.pointer (some ⟨pd,0,none⟩),.int .i64 (gn:Int),.int .i64 (ar:Int),.int .i64 (sq:Int),.int .i64 (us:Int),.int .i64 bn,.int .i64 bb,.int .i64 bl,.slice gq lv.length gc,.bool false] #[.int .i64 kd,.int .i64 gi,.int .i64 gh,.string gp,.int .i64 gm,.slice p1 n1 c1,.int .i64 gt,.int .i64 ri,.slice p2 n2 c2,.int .i64 rn,.int .i64 rb,.int .i64 rl]) (hTV.mod (Mod.refl [] W7).drew (by simp) (by simp)) ?_
  refine pP 0 ?_;refine pP 1 ?_;refine pP 2 ?_
  refine pT 3 rfl [11] (fun w hSw=>by have C0:=blk_cell hSw.1;have C1:=blk_cell hSw.2;go_simp;try with_reducible rfl) ?_
  refine pT 4 rfl [11] (fun w hSw=>by have C0:=blk_cell hSw.1;have C1:=blk_cell hSw.2;go_simp;try with_reducible rfl) ?_
  refine pX2 5 9 (fun hT K HK=>?_) (fun hT K HK=>?_)
  · skip
    refine step_call rfl 47 #[.tmp 23,.tmp 24] #[34,42] rfl (enters_of Tryz.func47 (by kernel_rfl) rfl) #[aggB ⟨bn,bb,bl,bg⟩ (.slice gq lv.length gc),aggR ⟨kd,⟨gi,gh,gp,gm,gs,gt⟩,ri,rs,rn,rb,rl⟩ (.slice p1 n1 c1) (.slice p2 n2 c2)] (by simp [Act.eval,aggB,aggR,cellsR]) ?_
    have hmX:Mod [] W7 W7.drew:=(Mod.refl [] W7).drew
    refine (HA.out W7.drew (HM7.out.2.2.then hmX) (HM7.out.1.mod hmX (by simp)) (HM7.out.2.1.mod hmX (by simp))).mono ?_
    rintro e w8 ⟨gv8,lv8,rfl,hbk8,hm8⟩
    refine ⟨_,rfl,?_⟩
    obtain ⟨q8,c8,hv8,-⟩:=hbk8.gr.shape
    subst hv8
    obtain ⟨n8,hn8⟩:∃ n,lv8.length=n:=⟨_,rfl⟩
    rw [hn8] at hbk8 ⊢
    simp only [aggB]
    have hT2:TV pl w.heap.size #[.pointer (some ⟨pd,0,none⟩),.int .i64 (gn:Int),.int .i64 (ar:Int),.int .i64 (sq:Int),.int .i64 (us:Int),.int .i64 bn,.int .i64 bb,.int .i64 bl,.slice gq lv.length gc,.bool false] #[.int .i64 kd,.int .i64 gi,.int .i64 gh,.string gp,.int .i64 gm,.slice p1 n1 c1,.int .i64 gt,.int .i64 ri,.slice p2 n2 c2,.int .i64 rn,.int .i64 rb,.int .i64 rl] w8:=hT.mod hm8 (by simp) (by simp)
    have H8:=Hj2 hbk8 hm8
    clear hbk8 hm8 hmX hn8
    refine HK.out _ _ _ hT2 ?_
    clear HK K hT hT2
    refine pP 6 ?_;refine pP 7 ?_;refine pP 8 ?_
    refine pX 9 fun hT K HK=>?_
    go_simp
    obtain ⟨W9,hW9⟩:∃ W9,W9=(w8.alloc (.cells #[.int .i64 0,.int .i64 0,.int .i64 0,.slice none 0 0] 34 (0,0))):=⟨_,rfl⟩
    have hk9:W9.heap[w8.heap.size]?=some (.cells #[.int .i64 0,.int .i64 0,.int .i64 0,.slice none 0 0] 34 (0,0)):=by rw [hW9];exact heap_alloc_new _ _
    have hm9:Mod [] w8 W9:=by rw [hW9];exact ((Mod.refl _ _).alloc _)
    rw [← hW9]
    have hT2:TV pl w.heap.size #[.pointer (some ⟨pd,0,none⟩),.int .i64 (gn:Int),.int .i64 (ar:Int),.int .i64 (sq:Int),.int .i64 (us:Int),.int .i64 bn,.int .i64 bb,.int .i64 bl,.slice gq lv.length gc,.bool false] #[.int .i64 kd,.int .i64 gi,.int .i64 gh,.string gp,.int .i64 gm,.slice p1 n1 c1,.int .i64 gt,.int .i64 ri,.slice p2 n2 c2,.int .i64 rn,.int .i64 rb,.int .i64 rl] W9:=hT.mod hm9 (by simp) (by simp)
    have hz9:W9.heap.size=w8.heap.size+1:=by rw [hW9];simp
    have H9:=Hj3 hk9 hm9 hz9
    clear hW9 hk9 hm9 hz9
    refine HK.out _ _ _ hT2 ?_
    clear HK K hT hT2
    refine pX 10 fun hT K HK=>?_
    have hkX:=H9.out.1
    have C9:=blk_cell hkX
    have F9:=blk_free hkX
    go_simp
    obtain ⟨W10,hW10⟩:∃ W10,W10=((((W9.setCell ⟨w8.heap.size,0,none⟩ (.int .i64 cn)).setCell ⟨w8.heap.size,1,none⟩ (.int .i64 cb)).setCell ⟨w8.heap.size,2,none⟩ (.int .i64 cl)).setCell ⟨w8.heap.size,3,none⟩ (.slice q8 n8 c8)):=⟨_,rfl⟩
    rw [← hW10]
    have hb10:W10.heap[w8.heap.size]?=some (.cells #[.int .i64 cn,.int .i64 cb,.int .i64 cl,.slice q8 n8 c8] 34 (0,0)):=by rw [hW10];exact blk_set (blk_set (blk_set (blk_set hkX 0 _) 1 _) 2 _) 3 _
    have hm10:Mod [w8.heap.size] W9 W10:=by rw [hW10];exact ((((Mod.refl _ _).setCell (fun _=>by simp) _).setCell (fun _=>by simp) _).setCell (fun _=>by simp) _).setCell (fun _=>by simp) _
    have hlow:=HLow.out
    have z8:=H8.out.2.size
    have z9:=H9.out.2.1.size
    have z9':=H9.out.2.2
    have zd:W7.drew.heap.size=W7.heap.size:=rfl
    have hT2:TV pl w.heap.size #[.pointer (some ⟨pd,0,none⟩),.int .i64 (gn:Int),.int .i64 (ar:Int),.int .i64 (sq:Int),.int .i64 (us:Int),.int .i64 bn,.int .i64 bb,.int .i64 bl,.slice gq lv.length gc,.bool false] #[.int .i64 kd,.int .i64 gi,.int .i64 gh,.string gp,.int .i64 gm,.slice p1 n1 c1,.int .i64 gt,.int .i64 ri,.slice p2 n2 c2,.int .i64 rn,.int .i64 rb,.int .i64 rl] W10:=hT.mod hm10 (by simp;omega) (by simp;omega)
    have HA10:Hid (ApR W7 (⟨cn,cb,cl,cg⟩,ce) (.int .i64 ce) (.pointer (some ⟨w8.heap.size,0,none⟩)) W10):=hide ⟨w8.heap.size,q8,n8,c8,lv8,rfl,rfl,hb10,by omega,⟨H8.out.1.gr.mod (mod_fresh H9.out.2.1 hm10 (by simp)) (by simp),H8.out.1.eq⟩,mod_fresh ((Mod.refl [] W7).drew.then (H8.out.2.then H9.out.2.1)) hm10 (by simp;omega)⟩
    clear hkX C9 F9 hW10 hb10 hm10 hlow z8 z9 z9' zd
    refine HK.out _ _ _ hT2 ?_
    clear HK K hT hT2
    refine pY 11 fun hT K HK=>?_
    go_simp
    refine HK.out _ _ _ ?_
    clear HK K hT
    refine pD ?_
    go_wp2_with fail
    go_meet
    case rel=>exact HA10.out
  · skip
    go_simp
    obtain ⟨W9,hW9⟩:∃ W9,W9=(W7.alloc (.cells #[.int .i64 0,.int .i64 0,.int .i64 0,.slice none 0 0] 34 (0,0))).drew:=⟨_,rfl⟩
    have hk9:W9.heap[W7.heap.size]?=some (.cells #[.int .i64 0,.int .i64 0,.int .i64 0,.slice none 0 0] 34 (0,0)):=by rw [hW9];exact heap_alloc_new _ _
    have hm9:Mod [] W7 W9:=by rw [hW9];exact ((Mod.refl _ _).alloc _).drew
    rw [← hW9]
    have hT2:TV pl w.heap.size #[.pointer (some ⟨pd,0,none⟩),.int .i64 (gn:Int),.int .i64 (ar:Int),.int .i64 (sq:Int),.int .i64 (us:Int),.int .i64 bn,.int .i64 bb,.int .i64 bl,.slice gq lv.length gc,.bool false] #[.int .i64 kd,.int .i64 gi,.int .i64 gh,.string gp,.int .i64 gm,.slice p1 n1 c1,.int .i64 gt,.int .i64 ri,.slice p2 n2 c2,.int .i64 rn,.int .i64 rb,.int .i64 rl] W9:=hTV.mod hm9 (by simp) (by simp)
    have hz9:W9.heap.size=W7.heap.size+1:=by rw [hW9];simp
    have H9:=Hj3 hk9 hm9 hz9
    clear hW9 hk9 hm9 hz9
    refine HK.out _ _ _ hT2 ?_
    clear HK K hT hT2
    refine pX 5 fun hT K HK=>?_
    refine step_call rfl 47 #[.tmp 23,.tmp 24] #[34,42] rfl (enters_of Tryz.func47 (by kernel_rfl) rfl) #[aggB ⟨bn,bb,bl,bg⟩ (.slice gq lv.length gc),aggR ⟨kd,⟨gi,gh,gp,gm,gs,gt⟩,ri,rs,rn,rb,rl⟩ (.slice p1 n1 c1) (.slice p2 n2 c2)] (by simp [Act.eval,aggB,aggR,cellsR]) ?_
    have hmX:Mod [] W7 W9:=H9.out.2.1
    refine (HA.out W9 (HM7.out.2.2.then hmX) (HM7.out.1.mod hmX (by simp)) (HM7.out.2.1.mod hmX (by simp))).mono ?_
    rintro e w8 ⟨gv8,lv8,rfl,hbk8,hm8⟩
    refine ⟨_,rfl,?_⟩
    obtain ⟨q8,c8,hv8,-⟩:=hbk8.gr.shape
    subst hv8
    obtain ⟨n8,hn8⟩:∃ n,lv8.length=n:=⟨_,rfl⟩
    rw [hn8] at hbk8 ⊢
    simp only [aggB]
    have hT2:TV pl w.heap.size #[.pointer (some ⟨pd,0,none⟩),.int .i64 (gn:Int),.int .i64 (ar:Int),.int .i64 (sq:Int),.int .i64 (us:Int),.int .i64 bn,.int .i64 bb,.int .i64 bl,.slice gq lv.length gc,.bool false] #[.int .i64 kd,.int .i64 gi,.int .i64 gh,.string gp,.int .i64 gm,.slice p1 n1 c1,.int .i64 gt,.int .i64 ri,.slice p2 n2 c2,.int .i64 rn,.int .i64 rb,.int .i64 rl] w8:=hT.mod hm8 (by simp) (by simp)
    have H8:=Hj2 hbk8 hm8
    clear hbk8 hm8 hmX hn8
    refine HK.out _ _ _ hT2 ?_
    clear HK K hT hT2
    refine pP 6 ?_;refine pP 7 ?_;refine pP 8 ?_
    refine pX 10 fun hT K HK=>?_
    have hkX:=(H8.out.2.at_ H9.out.1 (by simp))
    have C9:=blk_cell hkX
    have F9:=blk_free hkX
    go_simp
    obtain ⟨W10,hW10⟩:∃ W10,W10=((((w8.setCell ⟨W7.heap.size,0,none⟩ (.int .i64 cn)).setCell ⟨W7.heap.size,1,none⟩ (.int .i64 cb)).setCell ⟨W7.heap.size,2,none⟩ (.int .i64 cl)).setCell ⟨W7.heap.size,3,none⟩ (.slice q8 n8 c8)):=⟨_,rfl⟩
    rw [← hW10]
    have hb10:W10.heap[W7.heap.size]?=some (.cells #[.int .i64 cn,.int .i64 cb,.int .i64 cl,.slice q8 n8 c8] 34 (0,0)):=by rw [hW10];exact blk_set (blk_set (blk_set (blk_set hkX 0 _) 1 _) 2 _) 3 _
    have hm10:Mod [W7.heap.size] w8 W10:=by rw [hW10];exact ((((Mod.refl _ _).setCell (fun _=>by simp) _).setCell (fun _=>by simp) _).setCell (fun _=>by simp) _).setCell (fun _=>by simp) _
    have hlow:=HLow.out
    have z8:=H8.out.2.size
    have z9:=H9.out.2.1.size
    have z9':=H9.out.2.2
    have zd:W7.drew.heap.size=W7.heap.size:=rfl
    have hT2:TV pl w.heap.size #[.pointer (some ⟨pd,0,none⟩),.int .i64 (gn:Int),.int .i64 (ar:Int),.int .i64 (sq:Int),.int .i64 (us:Int),.int .i64 bn,.int .i64 bb,.int .i64 bl,.slice gq lv.length gc,.bool false] #[.int .i64 kd,.int .i64 gi,.int .i64 gh,.string gp,.int .i64 gm,.slice p1 n1 c1,.int .i64 gt,.int .i64 ri,.slice p2 n2 c2,.int .i64 rn,.int .i64 rb,.int .i64 rl] W10:=hT.mod hm10 (by simp;omega) (by simp;omega)
    have HA10:Hid (ApR W7 (⟨cn,cb,cl,cg⟩,ce) (.int .i64 ce) (.pointer (some ⟨W7.heap.size,0,none⟩)) W10):=hide ⟨W7.heap.size,q8,n8,c8,lv8,rfl,rfl,hb10,by omega,⟨(H8.out.1.gr.mod hm10 (by simp;omega)).base (by omega),H8.out.1.eq⟩,mod_fresh (H9.out.2.1.then H8.out.2) hm10 (by simp)⟩
    clear hkX C9 F9 hW10 hb10 hm10 hlow z8 z9 z9' zd
    refine HK.out _ _ _ hT2 ?_
    clear HK K hT hT2
    refine pY 11 fun hT K HK=>?_
    go_simp
    refine HK.out _ _ _ ?_
    clear HK K hT
    refine pD ?_
    go_wp2_with fail
    go_meet
    case rel=>exact HA10.out

 case rest =>
 obtain ⟨bx,q8,n8,c8,lv8,rfl,rfl,hbx,hbxs,hbk8,hm8⟩:=hcut
 simp only at hbx hbk8
 obtain ⟨W8,rfl⟩:∃ W8:World,W8=wc:=⟨_,rfl⟩
 have hm78:Mod [] w W8:=HM7.out.2.2.then hm8
 have hlow:=HLow.out
 have hz78:=hm78.size
 by_cases hce:ce=0
 · subst hce
   have hMt:=hav rfl
   subst hMt
   obtain ⟨hw1,hw2⟩:=hwd rfl
   have hTV8:=hTV.mod hm8 (by simp) (by simp)
   have D8:=blk_cell hTV8.2
   have hen:=(HE0.out W8 (HM7.out.1.mod hm8 (by simp)) (HM7.out.2.1.mod hm8 (by simp))).mono (R':=fun e w'=>∃ p c,e=.returned (.tuple #[.slice p nE c,.int .i64 0])∧RowY w' W8.heap.size (.slice p nE c) EB∧Mod [] W8 w') (fun e w' hx=>by
    rcases hx with ⟨h0,_⟩ | ⟨_,h1⟩
    · cases h0
    · rw [HNE.out] at h1;exact h1)
   unfold aggR cellsR at hen
   simp only at hen
   have HB8:=Hj4 hbx hbk8 hm78 hbxs
   clear hbx hbk8 hm78 hm8 hTV hTV8 hC9 HE0 hav hwd
   go_upto_region 9 with (go_at_call 48;refine hen.mono ?_;rintro e w9 ⟨p9,c9,rfl,hr9,hm9⟩
                          have H9:=Hj2 hr9 (HB8.out.2.2.1.then hm9)
                          have HX9:=hide hm9
                          clear hr9 hm9 hen)
   clear D8
   have hp12:w9.heap[pl]?=some (.cells #[.pointer (some ⟨pd,0,none⟩),.int .i64 (gn:Int),.int .i64 (ar:Int),.int .i64 (sq:Int),.int .i64 (us:Int),.int .i64 bn,.int .i64 bb,.int .i64 bl,.slice gq lv.length gc,.bool false] 80 (0,0)):=H9.out.2.at_ HH.out.1.blk (by simp)
   have hwu0:IntKind.i64.wrap ((us:Int)+(WE:Int))=(us:Int)+(WE:Int):=by rw [IntKind.wrap_i64];omega
   by_cases hov:24<us+WE
   · have hov2:(24:Int)<(us:Int)+(WE:Int):=by omega
     refine pB 8 (TS pl #[.pointer (some ⟨pd,0,none⟩),.int .i64 (gn:Int),.int .i64 (ar:Int),.int .i64 (sq:Int),.int .i64 (us:Int),.int .i64 bn,.int .i64 bb,.int .i64 bl,.slice gq lv.length gc,.bool false]) ((Mod.refl [] w9).drew.at_ hp12 (by simp)) ?_
     refine pP 0 ?_;refine pP 1 ?_;refine pP 2 ?_
     refine pT 3 rfl [7,8] (fun w hSw=>by have C0:=blk_cell hSw;go_simp;try with_reducible rfl) ?_
     refine pP 4 ?_;refine pP 5 ?_
     refine pX 6 fun hT K HK=>?_
     refine step_call rfl 49 #[.tmp 41] #[3] rfl (enters_of Tryz.func49 (by kernel_rfl) rfl) #[.int .i64 (nE:Int)] (by simp [Act.eval]) ?_
     refine (hwid _ hw2).mono ?_
     rintro e wz ⟨rfl,hwz⟩
     rw [hwz]
     refine ⟨_,rfl,?_⟩
     rw [HWD.out]
     have hT2:TS pl #[.pointer (some ⟨pd,0,none⟩),.int .i64 (gn:Int),.int .i64 (ar:Int),.int .i64 (sq:Int),.int .i64 (us:Int),.int .i64 bn,.int .i64 bb,.int .i64 bl,.slice gq lv.length gc,.bool false] w9.drew:=hT
     clear hwz
     refine HK.out _ _ _ hT2 ?_
     clear HK K hT hT2
     refine pP 7 ?_
     refine pY 8 fun hT K HK=>?_
     go_simp
     refine HK.out _ _ _ ?_
     clear HK K hT
     refine pD ?_
     clear hp12
     obtain ⟨CE,Cd,Cl⟩:=CT
     simp only at hcl
     have hcp:=HCP.out w9.drew H9.out.2.drew
     by_cases hce:CE=0
     · subst hce
       obtain ⟨gn1,ar1,sq1,us1,hCl,j1,j2,j3,j4,j5⟩:=HCZ.out rfl
       simp only at hCl
       subst hCl
       go_upto_region 13 with (go_at_call 21;refine hcp.mono ?_;rintro e wB ⟨rfl,hlgB,hmB⟩
                               have HB:=Hj4 hlgB ((H9.out.2.drew.mono (by simp)).then hmB) (HX9.out.drew) hmB
                               clear hlgB hmB hcp)
       have HQ:Hid (R=addD Cd ⟨gn1,ar1,sq1,us1,⟨bn,bb,bl,bg⟩,false⟩ ⟨cn,cb,cl,cg⟩ EB):=hide (by
        rw [← HR.out,if_neg (by simp),if_neg (by simp),if_pos hov,if_neg (by simp)])
       have hD49:49≤Cd.secs.length:=by omega
       have hfit:us1+WE≤24:=by omega
       have hbxB:wB.heap[bx]?=some (.cells #[.int .i64 cn,.int .i64 cb,.int .i64 cl,.slice q8 n8 c8] 34 (0,0)):=(HB.out.2.2.2).at_ ((HB.out.2.2.1).at_ HB8.out.1 (by simp)) (by simp;omega)
       have hrow:RowY wB W8.heap.size (.slice p9 nE c9) EB:=H9.out.1.mod ((Mod.refl [pl,pd,bs] w9).drew.then HB.out.2.2.2) (fun x hx e=>by have:=(H9.out.1.blk x hx).1;simp at e;omega)
       obtain ⟨F1,hF1⟩:∃ F,1+ar1 * 24=F:=⟨_,rfl⟩
       have hFle:F1≤25:=by omega
       have hput0:=fun (W:World) (m:Mod [] wB W)=>lput_any (HB.out.1.quiet m) (F1+us1) gn1 sq1 (hrow.mod m (by simp)).rd (by omega) (by omega) (by rw [HNE.out];omega) (fun k hk=>Nat.lt_of_lt_of_le (hrow.blk k hk).2 m.size) (by omega)
       have herr0:=writes_err Cd (F1+us1) (packL gn1 sq1 EB) (by rw [packL_len,HNE.out,HWD.out];omega) pack_64
       have herr:(putD Cd (F1+us1) gn1 sq1 EB).1=0∨(putD Cd (F1+us1) gn1 sq1 EB).1=40:=herr0
       have hQ2:=HQ.out
       unfold addD at hQ2
       simp only at hQ2
       rw [hF1] at hQ2
       obtain ⟨⟨te,td⟩,hPt⟩:∃ t,putD Cd (F1+us1) gn1 sq1 EB=t:=⟨_,rfl⟩
       rw [hPt] at hput0 herr hQ2
       simp only at herr hQ2
       rw [HNE.out,HWD.out] at hQ2
       have HPut:=hide hput0
       have HF1:=hide hF1
       have HQ2:=hide hQ2
       have HErr:=hide herr
       have hwf:IntKind.i64.wrap ((F1:Int)+(us1:Int))=(F1:Int)+(us1:Int):=by rw [IntKind.wrap_i64];omega
       have hwu:IntKind.i64.wrap ((us1:Int)+(WE:Int))=(us1:Int)+(WE:Int):=by rw [IntKind.wrap_i64];omega
       have hws:IntKind.i64.wrap ((sq1:Int)+1)=(sq1:Int)+1:=by rw [IntKind.wrap_i64];omega
       have HBX:=hide hbxB
       clear hrow hput0 herr0 herr hQ2 hPt hF1 HQ hbxB
       refine pB 21 (TG pl gn1 ar1 sq1 us1) (((HB.out.1).quiet (Mod.refl [] wB).drew).tg) ?_
       refine pP 0 ?_;refine pP 1 ?_;refine pP 2 ?_;refine pP 3 ?_
       refine pT 4 rfl [21] (fun w hSw=>by have C1:=hSw.1;have C2:=hSw.2.1;have C3:=hSw.2.2.1;have C4:=hSw.2.2.2;go_simp;try with_reducible rfl) ?_
       refine pP 6 ?_;refine pP 7 ?_;refine pP 8 ?_
       refine pT 9 rfl [21] (fun w hSw=>by have C1:=hSw.1;have C2:=hSw.2.1;have C3:=hSw.2.2.1;have C4:=hSw.2.2.2;go_simp;try with_reducible rfl) ?_
       refine pP 11 ?_;refine pP 12 ?_;refine pP 13 ?_
       refine pT 14 rfl [21] (fun w hSw=>by have C1:=hSw.1;have C2:=hSw.2.1;have C3:=hSw.2.2.1;have C4:=hSw.2.2.2;go_simp;try with_reducible rfl) ?_
       refine pP 15 ?_;refine pP 16 ?_;refine pP 17 ?_
       refine pT 18 rfl [21] (fun w hSw=>by have C1:=hSw.1;have C2:=hSw.2.1;have C3:=hSw.2.2.1;have C4:=hSw.2.2.2;go_simp;try with_reducible rfl) ?_
       refine pP 19 ?_
       refine pX 5 fun hT K HK=>?_
       refine step_call rfl 51 #[.tmp 54] #[3] rfl (enters_of Tryz.func51 (by kernel_rfl) rfl) #[.int .i64 (ar1:Int)] (by simp [Act.eval]) ?_
       refine (first_any ar1 (by omega) _).mono ?_
       rintro e wz ⟨rfl,hwz⟩
       rw [hwz]
       refine ⟨_,rfl,?_⟩
       rw [HF1.out]
       have hT2:TG pl gn1 ar1 sq1 us1 wB.drew:=hT
       clear hwz
       refine HK.out _ _ _ hT2 ?_
       clear HK K hT hT2
       refine pP 10 ?_
       refine pX 20 fun hT K HK=>?_
       refine step_call rfl 50 #[.tmp 50,.tmp 60,.tmp 64,.tmp 68,.tmp 69] #[26,3,3,3,71] rfl (enters_of Tryz.func50 (by kernel_rfl) rfl) #[.pointer (some ⟨pl,0,none⟩),.int .i64 ((F1:Int)+(us1:Int)),.int .i64 (gn1:Int),.int .i64 (sq1:Int),.slice p9 nE c9] (by simp [Act.eval]) ?_
       refine (HPut.out _ (Mod.refl [] wB).drew).mono ?_
       rintro e w10 ⟨rfl,hlg10,hm10⟩
       refine ⟨_,rfl,?_⟩
       have hT2:TG pl gn1 ar1 sq1 us1 w10:=by
        by_cases h4:te=40
        · rw [if_pos h4] at hlg10;exact hlg10.tg
        · rw [if_neg h4] at hlg10;exact hlg10.tg
       have H10:=Hj2 hlg10 ((Mod.refl [pl,pd,bs] wB).drew.then hm10)
       clear hlg10 hm10
       refine HK.out _ _ _ hT2 ?_
       clear HK K hT hT2
       refine pY 21 fun hT K HK=>?_
       go_simp
       refine HK.out _ _ _ ?_
       clear HK K hT
       refine pD ?_
       rcases HErr.out with hte | hte
       · subst hte
         have hlg10:LgM w10 pl pd bs (.slice gq lv.length gc) lv td ⟨gn1,ar1,sq1,us1,⟨bn,bb,bl,bg⟩,false⟩:=by simpa using H10.out.1
         have C10:=blk_cell hlg10.blk
         have F10:=blk_free hlg10.blk
         unfold lgCells at C10
         have HL10:=hide hlg10
         clear hlg10
         go_upto_region 17 with fail
         obtain ⟨W12,hW12⟩:∃ W12,W12=w10.setCell ⟨pl,3,none⟩ (.int .i64 ((sq1:Int)+1)):=⟨_,rfl⟩
         rw [← hW12]
         have hp12:W12.heap[pl]?=some (.cells #[.pointer (some ⟨pd,0,none⟩),.int .i64 (gn1:Int),.int .i64 (ar1:Int),.int .i64 ((sq1:Int)+1),.int .i64 (us1:Int),.int .i64 bn,.int .i64 bb,.int .i64 bl,.slice gq lv.length gc,.bool false] 80 (0,0)):=by rw [hW12];exact blk_set HL10.out.blk 3 _
         have hm12:Mod [pl] w10 W12:=by rw [hW12];exact (Mod.refl _ _).setCell (fun _=>by simp) _
         clear C10 F10 hW12
         refine pB 10 (TS pl #[.pointer (some ⟨pd,0,none⟩),.int .i64 (gn1:Int),.int .i64 (ar1:Int),.int .i64 ((sq1:Int)+1),.int .i64 (us1:Int),.int .i64 bn,.int .i64 bb,.int .i64 bl,.slice gq lv.length gc,.bool false]) ((Mod.refl [] W12).drew.at_ hp12 (by simp)) ?_
         refine pP 0 ?_;refine pP 1 ?_;refine pP 2 ?_
         refine pT 3 rfl [10] (fun w hSw=>by have C0:=blk_cell hSw;go_simp;try with_reducible rfl) ?_
         refine pP 4 ?_;refine pP 5 ?_
         refine pX 6 fun hT K HK=>?_
         refine step_call rfl 49 #[.tmp 86] #[3] rfl (enters_of Tryz.func49 (by kernel_rfl) rfl) #[.int .i64 (nE:Int)] (by simp [Act.eval]) ?_
         refine (width_any nE (by omega) _).mono ?_
         rintro e wz ⟨rfl,hwz⟩
         rw [hwz]
         refine ⟨_,rfl,?_⟩
         rw [HWD.out]
         have hT2:TS pl #[.pointer (some ⟨pd,0,none⟩),.int .i64 (gn1:Int),.int .i64 (ar1:Int),.int .i64 ((sq1:Int)+1),.int .i64 (us1:Int),.int .i64 bn,.int .i64 bb,.int .i64 bl,.slice gq lv.length gc,.bool false] W12.drew:=hT
         clear hwz
         refine HK.out _ _ _ hT2 ?_
         clear HK K hT hT2
         refine pP 7 ?_;refine pP 8 ?_;refine pP 9 ?_
         refine pY 10 fun hT K HK=>?_
         have C3:=blk_cell (w:=W12) hp12
         have F3:=blk_free (w:=W12) hp12
         go_simp
         clear C3 F3
         refine HK.out _ _ _ ?_
         clear HK K hT
         refine pD ?_
         obtain ⟨W13,hW13⟩:∃ W13,W13=W12.setCell ⟨pl,4,none⟩ (.int .i64 ((us1:Int)+(WE:Int))):=⟨_,rfl⟩
         have hp13:W13.heap[pl]?=some (.cells #[.pointer (some ⟨pd,0,none⟩),.int .i64 (gn1:Int),.int .i64 (ar1:Int),.int .i64 ((sq1:Int)+1),.int .i64 ((us1:Int)+(WE:Int)),.int .i64 bn,.int .i64 bb,.int .i64 bl,.slice gq lv.length gc,.bool false] 80 (0,0)):=by rw [hW13];exact blk_set hp12 4 _
         have hm13:Mod [pl] w10 W13:=by rw [hW13];exact hm12.setCell (fun _=>by simp) _
         rw [← hW13]
         have hbx13:W13.heap[bx]?=some (.cells #[.int .i64 cn,.int .i64 cb,.int .i64 cl,.slice q8 n8 c8] 34 (0,0)):=hm13.at_ (H10.out.2.at_ HBX.out (by have:=HB8.out.2.2.2;simp;omega)) (by have:=HB8.out.2.2.2;simp;omega)
         have C13:=blk_cell (w:=W13) hp13
         have F13:=blk_free (w:=W13) hp13
         have Cbx:=blk_cell (w:=W13) hbx13
         have hnbx:bx≠pl:=by have:=HB8.out.2.2.2;omega
         have HM13:=Hj2 hp13 hm13
         clear hp12 hm12 hW13 hp13 hm13 hbx13
         go_wp2_with fail
         go_ret
         obtain ⟨hp13,hm13⟩:=HM13.out
         obtain ⟨W14,hW14⟩:∃ W14,W14=(((W13.setCell ⟨pl,5,none⟩ (.int .i64 cn)).setCell ⟨pl,6,none⟩ (.int .i64 cb)).setCell ⟨pl,7,none⟩ (.int .i64 cl)).setCell ⟨pl,8,none⟩ (.slice q8 n8 c8):=⟨_,rfl⟩
         rw [← hW14]
         have hb14:W14.heap[pl]?=some (.cells #[.pointer (some ⟨pd,0,none⟩),.int .i64 (gn1:Int),.int .i64 (ar1:Int),.int .i64 ((sq1:Int)+1),.int .i64 ((us1:Int)+(WE:Int)),.int .i64 cn,.int .i64 cb,.int .i64 cl,.slice q8 n8 c8,.bool false] 80 (0,0)):=by rw [hW14];exact blk_set (blk_set (blk_set (blk_set (w:=W13) hp13 5 _) 6 _) 7 _) 8 _
         have hm14:Mod [pl] w10 W14:=by rw [hW14];exact (((hm13.setCell (fun _=>by simp) _).setCell (fun _=>by simp) _).setCell (fun _=>by simp) _).setCell (fun _=>by simp) _
         have hm14:=hm14.drew
         have hb14:W14.drew.heap[pl]?=_:=hb14
         have hz1:=HM7.out.2.2.size
         have hmB14:Mod [pl,pd,bs] wB W14.drew:=H10.out.2.then (hm14.mono (T:=[pl,pd,bs]) (by simp))
         have hm814:Mod [pl,pd,bs] W8 W14.drew:=((HX9.out.mono (by simp)).then ((Mod.refl [pl,pd,bs] w9).drew.then HB.out.2.2.2)).then hmB14
         have hq:=HQ2.out
         rw [if_neg (by simp)] at hq
         rw [hq]
         refine ⟨rfl,.slice q8 n8 c8,lv8,?_,HB.out.2.1.then hmB14,.inr ((HB8.out.2.1.gr.mod hm814 (fun k hk=>by simp at hk;omega)).base (by omega))⟩
         exact HL10.out.cells (l':=⟨gn1,ar1,sq1+1,us1+WE,⟨cn,cb,cl,cg⟩,false⟩) (by rw [show lgCells pd (.slice q8 n8 c8) ⟨gn1,ar1,sq1+1,us1+WE,⟨cn,cb,cl,cg⟩,false⟩=#[.pointer (some ⟨pd,0,none⟩),.int .i64 (gn1:Int),.int .i64 (ar1:Int),.int .i64 ((sq1:Int)+1),.int .i64 ((us1:Int)+(WE:Int)),.int .i64 cn,.int .i64 cb,.int .i64 cl,.slice q8 n8 c8,.bool false] from by simp [lgCells]];exact hb14) hm14 ⟨(HB8.out.2.1.gr.mod hm814 (fun k hk=>by simp at hk;omega)).base (by omega),HB8.out.2.1.eq⟩
       · subst hte
         have hlg10:LgM w10 pl pd bs (.slice gq lv.length gc) lv td (deadL ⟨gn1,ar1,sq1,us1,⟨bn,bb,bl,bg⟩,false⟩):=by simpa using H10.out.1
         have HL10:=hide hlg10
         clear hlg10
         go_wp2_with fail
         go_ret
         have hq:=HQ2.out
         rw [if_pos (by simp)] at hq
         rw [hq]
         exact ⟨rfl,_,_,HL10.out,HB.out.2.1.then H10.out.2,.inl ⟨rfl,rfl⟩⟩

     · have hcb:(CE != 0)=true:=by simpa using hce
       go_wp2_with (go_at_call 21;refine hcp.mono ?_;rintro e wB ⟨rfl,hlgB,hmB⟩
                    have HB:=Hj2 hlgB ((H9.out.2.drew.mono (by simp)).then hmB)
                    clear hlgB hmB hcp)
       go_ret
       rw [← HR.out,if_neg (by simp),if_neg (by simp),if_pos hov,if_pos hce]
       exact ⟨rfl,_,_,HB.out.1,HB.out.2,.inl ⟨rfl,rfl⟩⟩
   · have hov2:¬ (24:Int)<(us:Int)+(WE:Int):=by omega
     refine pB 8 (TS pl #[.pointer (some ⟨pd,0,none⟩),.int .i64 (gn:Int),.int .i64 (ar:Int),.int .i64 (sq:Int),.int .i64 (us:Int),.int .i64 bn,.int .i64 bb,.int .i64 bl,.slice gq lv.length gc,.bool false]) ((Mod.refl [] w9).drew.at_ hp12 (by simp)) ?_
     refine pP 0 ?_;refine pP 1 ?_;refine pP 2 ?_
     refine pT 3 rfl [7,8] (fun w hSw=>by have C0:=blk_cell hSw;go_simp;try with_reducible rfl) ?_
     refine pP 4 ?_;refine pP 5 ?_
     refine pX 6 fun hT K HK=>?_
     refine step_call rfl 49 #[.tmp 41] #[3] rfl (enters_of Tryz.func49 (by kernel_rfl) rfl) #[.int .i64 (nE:Int)] (by simp [Act.eval]) ?_
     refine (hwid _ hw2).mono ?_
     rintro e wz ⟨rfl,hwz⟩
     rw [hwz]
     refine ⟨_,rfl,?_⟩
     rw [HWD.out]
     have hT2:TS pl #[.pointer (some ⟨pd,0,none⟩),.int .i64 (gn:Int),.int .i64 (ar:Int),.int .i64 (sq:Int),.int .i64 (us:Int),.int .i64 bn,.int .i64 bb,.int .i64 bl,.slice gq lv.length gc,.bool false] w9.drew:=hT
     clear hwz
     refine HK.out _ _ _ hT2 ?_
     clear HK K hT hT2
     refine pP 7 ?_
     refine pY 8 fun hT K HK=>?_
     go_simp
     refine HK.out _ _ _ ?_
     clear HK K hT
     refine pD ?_
     clear hp12 HCP HCZ hcl
     obtain ⟨wB,hwB⟩:∃ wB,wB=w9.drew:=⟨_,rfl⟩
     have HB:Hid (LgM wB pl pd bs (.slice gq lv.length gc) lv d ⟨gn,ar,sq,us,⟨bn,bb,bl,bg⟩,false⟩∧Mod [pl,pd,bs] w wB∧Mod [] W8 wB∧Mod [pl,pd,bs] w9.drew wB):=hide (by
      rw [hwB]
      exact ⟨HH.out.1.quiet H9.out.2.drew,H9.out.2.drew.mono (by simp),HX9.out.drew,Mod.refl _ _⟩)
     rw [← hwB]
     have HQ:Hid (R=addD d ⟨gn,ar,sq,us,⟨bn,bb,bl,bg⟩,false⟩ ⟨cn,cb,cl,cg⟩ EB):=hide (by
      rw [← HR.out,if_neg (by simp),if_neg (by simp),if_neg hov])
     have hfit:us+WE≤24:=by omega
     have hbxB:wB.heap[bx]?=some (.cells #[.int .i64 cn,.int .i64 cb,.int .i64 cl,.slice q8 n8 c8] 34 (0,0)):=(HB.out.2.2.1).at_ HB8.out.1 (by simp)
     clear hwB
     go_upto_region 13 with fail
     have hrow:RowY wB W8.heap.size (.slice p9 nE c9) EB:=H9.out.1.mod ((Mod.refl [pl,pd,bs] w9).drew.then HB.out.2.2.2) (fun x hx e=>by have:=(H9.out.1.blk x hx).1;simp at e;omega)
     obtain ⟨F1,hF1⟩:∃ F,1+ar * 24=F:=⟨_,rfl⟩
     have hFle:F1≤25:=by omega
     have hput0:=fun (W:World) (m:Mod [] wB W)=>lput_any (HB.out.1.quiet m) (F1+us) gn sq (hrow.mod m (by simp)).rd (by omega) (by omega) (by rw [HNE.out];omega) (fun k hk=>Nat.lt_of_lt_of_le (hrow.blk k hk).2 m.size) (by omega)
     have herr0:=writes_err d (F1+us) (packL gn sq EB) (by rw [packL_len,HNE.out,HWD.out];omega) pack_64
     have herr:(putD d (F1+us) gn sq EB).1=0∨(putD d (F1+us) gn sq EB).1=40:=herr0
     have hQ2:=HQ.out
     unfold addD at hQ2
     simp only at hQ2
     rw [hF1] at hQ2
     obtain ⟨⟨te,td⟩,hPt⟩:∃ t,putD d (F1+us) gn sq EB=t:=⟨_,rfl⟩
     rw [hPt] at hput0 herr hQ2
     simp only at herr hQ2
     rw [HNE.out,HWD.out] at hQ2
     have HPut:=hide hput0
     have HF1:=hide hF1
     have HQ2:=hide hQ2
     have HErr:=hide herr
     have hwf:IntKind.i64.wrap ((F1:Int)+(us:Int))=(F1:Int)+(us:Int):=by rw [IntKind.wrap_i64];omega
     have hwu:IntKind.i64.wrap ((us:Int)+(WE:Int))=(us:Int)+(WE:Int):=by rw [IntKind.wrap_i64];omega
     have hws:IntKind.i64.wrap ((sq:Int)+1)=(sq:Int)+1:=by rw [IntKind.wrap_i64];omega
     have HBX:=hide hbxB
     clear hrow hput0 herr0 herr hQ2 hPt hF1 HQ hbxB
     refine pB 21 (TG pl gn ar sq us) (((HB.out.1).quiet (Mod.refl [] wB).drew).tg) ?_
     refine pP 0 ?_;refine pP 1 ?_;refine pP 2 ?_;refine pP 3 ?_
     refine pT 4 rfl [21] (fun w hSw=>by have C1:=hSw.1;have C2:=hSw.2.1;have C3:=hSw.2.2.1;have C4:=hSw.2.2.2;go_simp;try with_reducible rfl) ?_
     refine pP 6 ?_;refine pP 7 ?_;refine pP 8 ?_
     refine pT 9 rfl [21] (fun w hSw=>by have C1:=hSw.1;have C2:=hSw.2.1;have C3:=hSw.2.2.1;have C4:=hSw.2.2.2;go_simp;try with_reducible rfl) ?_
     refine pP 11 ?_;refine pP 12 ?_;refine pP 13 ?_
     refine pT 14 rfl [21] (fun w hSw=>by have C1:=hSw.1;have C2:=hSw.2.1;have C3:=hSw.2.2.1;have C4:=hSw.2.2.2;go_simp;try with_reducible rfl) ?_
     refine pP 15 ?_;refine pP 16 ?_;refine pP 17 ?_
     refine pT 18 rfl [21] (fun w hSw=>by have C1:=hSw.1;have C2:=hSw.2.1;have C3:=hSw.2.2.1;have C4:=hSw.2.2.2;go_simp;try with_reducible rfl) ?_
     refine pP 19 ?_
     refine pX 5 fun hT K HK=>?_
     refine step_call rfl 51 #[.tmp 54] #[3] rfl (enters_of Tryz.func51 (by kernel_rfl) rfl) #[.int .i64 (ar:Int)] (by simp [Act.eval]) ?_
     refine (first_any ar (by omega) _).mono ?_
     rintro e wz ⟨rfl,hwz⟩
     rw [hwz]
     refine ⟨_,rfl,?_⟩
     rw [HF1.out]
     have hT2:TG pl gn ar sq us wB.drew:=hT
     clear hwz
     refine HK.out _ _ _ hT2 ?_
     clear HK K hT hT2
     refine pP 10 ?_
     refine pX 20 fun hT K HK=>?_
     refine step_call rfl 50 #[.tmp 50,.tmp 60,.tmp 64,.tmp 68,.tmp 69] #[26,3,3,3,71] rfl (enters_of Tryz.func50 (by kernel_rfl) rfl) #[.pointer (some ⟨pl,0,none⟩),.int .i64 ((F1:Int)+(us:Int)),.int .i64 (gn:Int),.int .i64 (sq:Int),.slice p9 nE c9] (by simp [Act.eval]) ?_
     refine (HPut.out _ (Mod.refl [] wB).drew).mono ?_
     rintro e w10 ⟨rfl,hlg10,hm10⟩
     refine ⟨_,rfl,?_⟩
     have hT2:TG pl gn ar sq us w10:=by
      by_cases h4:te=40
      · rw [if_pos h4] at hlg10;exact hlg10.tg
      · rw [if_neg h4] at hlg10;exact hlg10.tg
     have H10:=Hj2 hlg10 ((Mod.refl [pl,pd,bs] wB).drew.then hm10)
     clear hlg10 hm10
     refine HK.out _ _ _ hT2 ?_
     clear HK K hT hT2
     refine pY 21 fun hT K HK=>?_
     go_simp
     refine HK.out _ _ _ ?_
     clear HK K hT
     refine pD ?_
     rcases HErr.out with hte | hte
     · subst hte
       have hlg10:LgM w10 pl pd bs (.slice gq lv.length gc) lv td ⟨gn,ar,sq,us,⟨bn,bb,bl,bg⟩,false⟩:=by simpa using H10.out.1
       have C10:=blk_cell hlg10.blk
       have F10:=blk_free hlg10.blk
       unfold lgCells at C10
       have HL10:=hide hlg10
       clear hlg10
       go_upto_region 17 with fail
       obtain ⟨W12,hW12⟩:∃ W12,W12=w10.setCell ⟨pl,3,none⟩ (.int .i64 ((sq:Int)+1)):=⟨_,rfl⟩
       rw [← hW12]
       have hp12:W12.heap[pl]?=some (.cells #[.pointer (some ⟨pd,0,none⟩),.int .i64 (gn:Int),.int .i64 (ar:Int),.int .i64 ((sq:Int)+1),.int .i64 (us:Int),.int .i64 bn,.int .i64 bb,.int .i64 bl,.slice gq lv.length gc,.bool false] 80 (0,0)):=by rw [hW12];exact blk_set HL10.out.blk 3 _
       have hm12:Mod [pl] w10 W12:=by rw [hW12];exact (Mod.refl _ _).setCell (fun _=>by simp) _
       clear C10 F10 hW12
       refine pB 10 (TS pl #[.pointer (some ⟨pd,0,none⟩),.int .i64 (gn:Int),.int .i64 (ar:Int),.int .i64 ((sq:Int)+1),.int .i64 (us:Int),.int .i64 bn,.int .i64 bb,.int .i64 bl,.slice gq lv.length gc,.bool false]) ((Mod.refl [] W12).drew.at_ hp12 (by simp)) ?_
       refine pP 0 ?_;refine pP 1 ?_;refine pP 2 ?_
       refine pT 3 rfl [10] (fun w hSw=>by have C0:=blk_cell hSw;go_simp;try with_reducible rfl) ?_
       refine pP 4 ?_;refine pP 5 ?_
       refine pX 6 fun hT K HK=>?_
       refine step_call rfl 49 #[.tmp 86] #[3] rfl (enters_of Tryz.func49 (by kernel_rfl) rfl) #[.int .i64 (nE:Int)] (by simp [Act.eval]) ?_
       refine (width_any nE (by omega) _).mono ?_
       rintro e wz ⟨rfl,hwz⟩
       rw [hwz]
       refine ⟨_,rfl,?_⟩
       rw [HWD.out]
       have hT2:TS pl #[.pointer (some ⟨pd,0,none⟩),.int .i64 (gn:Int),.int .i64 (ar:Int),.int .i64 ((sq:Int)+1),.int .i64 (us:Int),.int .i64 bn,.int .i64 bb,.int .i64 bl,.slice gq lv.length gc,.bool false] W12.drew:=hT
       clear hwz
       refine HK.out _ _ _ hT2 ?_
       clear HK K hT hT2
       refine pP 7 ?_;refine pP 8 ?_;refine pP 9 ?_
       refine pY 10 fun hT K HK=>?_
       have C3:=blk_cell (w:=W12) hp12
       have F3:=blk_free (w:=W12) hp12
       go_simp
       clear C3 F3
       refine HK.out _ _ _ ?_
       clear HK K hT
       refine pD ?_
       obtain ⟨W13,hW13⟩:∃ W13,W13=W12.setCell ⟨pl,4,none⟩ (.int .i64 ((us:Int)+(WE:Int))):=⟨_,rfl⟩
       have hp13:W13.heap[pl]?=some (.cells #[.pointer (some ⟨pd,0,none⟩),.int .i64 (gn:Int),.int .i64 (ar:Int),.int .i64 ((sq:Int)+1),.int .i64 ((us:Int)+(WE:Int)),.int .i64 bn,.int .i64 bb,.int .i64 bl,.slice gq lv.length gc,.bool false] 80 (0,0)):=by rw [hW13];exact blk_set hp12 4 _
       have hm13:Mod [pl] w10 W13:=by rw [hW13];exact hm12.setCell (fun _=>by simp) _
       rw [← hW13]
       have hbx13:W13.heap[bx]?=some (.cells #[.int .i64 cn,.int .i64 cb,.int .i64 cl,.slice q8 n8 c8] 34 (0,0)):=hm13.at_ (H10.out.2.at_ HBX.out (by have:=HB8.out.2.2.2;simp;omega)) (by have:=HB8.out.2.2.2;simp;omega)
       have C13:=blk_cell (w:=W13) hp13
       have F13:=blk_free (w:=W13) hp13
       have Cbx:=blk_cell (w:=W13) hbx13
       have hnbx:bx≠pl:=by have:=HB8.out.2.2.2;omega
       have HM13:=Hj2 hp13 hm13
       clear hp12 hm12 hW13 hp13 hm13 hbx13
       go_wp2_with fail
       go_ret
       obtain ⟨hp13,hm13⟩:=HM13.out
       obtain ⟨W14,hW14⟩:∃ W14,W14=(((W13.setCell ⟨pl,5,none⟩ (.int .i64 cn)).setCell ⟨pl,6,none⟩ (.int .i64 cb)).setCell ⟨pl,7,none⟩ (.int .i64 cl)).setCell ⟨pl,8,none⟩ (.slice q8 n8 c8):=⟨_,rfl⟩
       rw [← hW14]
       have hb14:W14.heap[pl]?=some (.cells #[.pointer (some ⟨pd,0,none⟩),.int .i64 (gn:Int),.int .i64 (ar:Int),.int .i64 ((sq:Int)+1),.int .i64 ((us:Int)+(WE:Int)),.int .i64 cn,.int .i64 cb,.int .i64 cl,.slice q8 n8 c8,.bool false] 80 (0,0)):=by rw [hW14];exact blk_set (blk_set (blk_set (blk_set (w:=W13) hp13 5 _) 6 _) 7 _) 8 _
       have hm14:Mod [pl] w10 W14:=by rw [hW14];exact (((hm13.setCell (fun _=>by simp) _).setCell (fun _=>by simp) _).setCell (fun _=>by simp) _).setCell (fun _=>by simp) _
       have hm14:=hm14.drew
       have hb14:W14.drew.heap[pl]?=_:=hb14
       have hz1:=HM7.out.2.2.size
       have hmB14:Mod [pl,pd,bs] wB W14.drew:=H10.out.2.then (hm14.mono (T:=[pl,pd,bs]) (by simp))
       have hm814:Mod [pl,pd,bs] W8 W14.drew:=((HX9.out.mono (by simp)).then ((Mod.refl [pl,pd,bs] w9).drew.then HB.out.2.2.2)).then hmB14
       have hq:=HQ2.out
       rw [if_neg (by simp)] at hq
       rw [hq]
       refine ⟨rfl,.slice q8 n8 c8,lv8,?_,HB.out.2.1.then hmB14,.inr ((HB8.out.2.1.gr.mod hm814 (fun k hk=>by simp at hk;omega)).base (by omega))⟩
       exact HL10.out.cells (l':=⟨gn,ar,sq+1,us+WE,⟨cn,cb,cl,cg⟩,false⟩) (by rw [show lgCells pd (.slice q8 n8 c8) ⟨gn,ar,sq+1,us+WE,⟨cn,cb,cl,cg⟩,false⟩=#[.pointer (some ⟨pd,0,none⟩),.int .i64 (gn:Int),.int .i64 (ar:Int),.int .i64 ((sq:Int)+1),.int .i64 ((us:Int)+(WE:Int)),.int .i64 cn,.int .i64 cb,.int .i64 cl,.slice q8 n8 c8,.bool false] from by simp [lgCells]];exact hb14) hm14 ⟨(HB8.out.2.1.gr.mod hm814 (fun k hk=>by simp at hk;omega)).base (by omega),HB8.out.2.1.eq⟩
     · subst hte
       have hlg10:LgM w10 pl pd bs (.slice gq lv.length gc) lv td (deadL ⟨gn,ar,sq,us,⟨bn,bb,bl,bg⟩,false⟩):=by simpa using H10.out.1
       have HL10:=hide hlg10
       clear hlg10
       go_wp2_with fail
       go_ret
       have hq:=HQ2.out
       rw [if_pos (by simp)] at hq
       rw [hq]
       exact ⟨rfl,_,_,HL10.out,HB.out.2.1.then H10.out.2,.inl ⟨rfl,rfl⟩⟩

 · have hcb:(ce != 0)=true:=by simpa using hce
   have HM:=hide hm78
   clear hm78 hbk8 hm8 hbx hTV hC9
   go_wp2_with fail
   go_ret
   rw [← HR.out,if_neg (by simp),if_pos hce]
   exact ⟨rfl,_,_,HH.out.1.quiet HM.out,HM.out.mono (by simp),.inl ⟨rfl,rfl⟩⟩
end Go.Proofs.YtpphoeimakjjdaaGreatDoor
/-
  WALKS: layer 12: Open.
-/
namespace Go.Proofs.YtpphoeimakjjdaaGreatDoor
set_option maxRecDepth 100000
set_option maxHeartbeats 4000000
open Go.RowKit Go.Shelf

def OpTo (w:World) (pd bs:Nat) (t:Int × Dk × Option Lg) (e:Ending) (w':World):Prop :=
 Mod [pd,bs] w w'∧match t.2.2 with
  | none=>e=.returned (.tuple #[.pointer none,.int .i64 t.1])∧DkM w' pd bs t.2.1
  | some l=>∃ pl gv lv,e=.returned (.tuple #[.pointer (some ⟨pl,0,none⟩),.int .i64 0])∧LgM w' pl pd bs gv lv t.2.1 l∧w.heap.size≤pl
theorem head_area {b:B8} {g k:Nat} (h:headS b=some (g,k)):k≤1∧1≤g∧g≤1073741824:=by
 unfold headS at h
 cases hl:lookS b with
 | none=>rw [hl] at h;cases h
 | some p =>
   rw [hl,Option.bind_some] at h
   by_cases hc:p.seq=0∧p.parts=1∧p.data.length=1∧(p.data.getD 0 0).toNat≤1
   · rw [if_pos hc] at h
     cases h
     have:=(look_fits hl).2.1
     exact ⟨hc.2.2.2,this.1,this.2.1⟩
   · rw [if_neg hc] at h;cases h
theorem mod_fresh2 {w W W':World} {pl:Nat} {S:List Nat} (m:Mod [] w W) (m2:Mod [pl] W W') (h:w.heap.size≤pl):Mod S w W':=(mod_fresh m m2 (by simp;exact h)).mono (by simp)
theorem mod_fresh3 {w W W' W2:World} {pl:Nat} {S:List Nat} (m:Mod [] w W) (m2:Mod S W W') (m3:Mod [pl] W' W2) (h:w.heap.size≤pl):Mod S w W2 :=
 ((m.mono (T:=S) (by simp)).then m2).trans m3 (fun _ x _=>x) (fun x hx hlt=>by simp at hx;omega)
theorem open_any {w:World} {pd bs:Nat} {d:Dk} (h:DkM w pd bs d) :
 Calls Tryz.prog 11 #[.pointer (some ⟨pd,0,none⟩)] w fun e w'=>OpTo w pd bs (openD d) e w':=by
 obtain ⟨R,hR⟩:∃ R,openD d=R:=⟨_,rfl⟩
 rw [hR]
 unfold openD at hR
 have hpdw:pd<w.heap.size∧bs<w.heap.size:=by
  obtain ⟨c,hb,hr⟩:=h.blk
  exact ⟨lt_of_block hb,(hr.lt bs rfl).2⟩
 have hln:=fun (W:World) (m:Mod [] w W)=>dlen_any (h.mod m (by simp) (by simp))
 have h512:=h.ok.most
 by_cases h49:d.secs.length<49
 · rw [if_pos h49] at hR
   have hi:(d.secs.length:Int)<49:=by omega
   have HH:=hide h
   clear h
   go_enter Tryz.func11,Tryz.ntmps11
   go_wp2_with (go_at_call 41;refine (hln _ (Mod.refl _ _)).mono ?_;rintro e w1 ⟨rfl,hx⟩;rw [hx];clear hx)
   go_ret2
   subst hR
   exact ⟨Mod.refl _ _,rfl,HH.out⟩
 rw [if_neg h49] at hR
 have hi:¬ (d.secs.length:Int)<49:=by omega
 have hlg0:∀ (W:World) (pl:Nat),Mod [] w W→w.heap.size≤pl→W.heap[pl]?=some (.cells (lgCells pd (.slice none 0 0) ⟨0,0,0,0,Bk.new,false⟩) 80 (0,0))→LgM W pl pd bs (.slice none 0 0) [] d ⟨0,0,0,0,Bk.new,false⟩:=fun W pl m hp hb=>⟨hb,h.mod m (by simp) (by simp),⟨GrM.nil _ _,rfl⟩,by omega⟩
 have HL:=hide hlg0
 have hN:=fun (W:World)=>(bnew_any W).mono (R':=fun e w'=>e=.returned (.agg #[.int .i64 1,.int .i64 0,.int .i64 0,.slice none 0 0])∧Mod [] W w') (fun e w' hx=>hx)
 have hw1:IntKind.i64.wrap 1=1:=rfl
 have hw0:IntKind.i64.wrap 0=0:=rfl
 have H49:=hide h49
 have HR:=hide hR
 clear h hlg0 h49 hR
 go_enter Tryz.func11,Tryz.ntmps11
 go_upto_region 6 with (first
  | (go_at_call 41;refine (hln _ (Mod.refl _ _)).mono ?_;rintro e w1 ⟨rfl,hx⟩;rw [hx];clear hx)
  | (go_at_call 42;refine (hN _).mono ?_;rintro e w2 ⟨rfl,hm2⟩;have H2:=hide hm2;clear hm2)
  | fail)
 obtain ⟨W3,hW3⟩:∃ W3,W3=w2.alloc (.cells #[.pointer (some ⟨pd,0,none⟩),.int .i64 0,.int .i64 0,.int .i64 0,.int .i64 0,.int .i64 1,.int .i64 0,.int .i64 0,.slice none 0 0,.bool false] 80 (0,0)):=⟨_,rfl⟩
 rw [← hW3]
 have hb3:W3.heap[w2.heap.size]?=some (.cells (lgCells pd (.slice none 0 0) ⟨0,0,0,0,Bk.new,false⟩) 80 (0,0)):=by rw [hW3];exact heap_alloc_new w2 _
 have hm3:Mod [] w W3:=by rw [hW3];exact H2.out.alloc _
 have hlg3:=HL.out W3 w2.heap.size hm3 H2.out.size hb3
 obtain ⟨pl,hpl⟩:∃ pl,w2.heap.size=pl:=⟨_,rfl⟩
 have hple:=H2.out.size
 rw [hpl] at hlg3 hple ⊢
 have hnm:=named_any hlg3
 have HM3:=Hj2 hm3 hlg3
 clear hW3 hb3 hm3 hlg3 hpl H2 hln hN hi
 cases hoff:d.off with
 | true =>
   have hnm2:=hnm.mono (R':=fun e w'=>e=.returned (.tuple #[.bool false,.int .i64 40])∧Mod [] W3 w') (fun e w' hx=>by
    rcases hx with ⟨_,h1,_,h2⟩ | ⟨h0,_⟩ | ⟨h0,_⟩
    · exact ⟨h1,h2⟩
    · rw [hoff] at h0;cases h0
    · rw [hoff] at h0;cases h0)
   have HO:=hide hoff
   clear hnm hoff
   go_wp2_with (go_at_call 43;refine hnm2.mono ?_;rintro e w4 ⟨rfl,hm4⟩;have H4:=hide hm4;clear hm4 hnm2)
   go_ret2
   have hq:=HR.out
   rw [if_pos HO.out] at hq
   subst hq
   exact ⟨(HM3.out.1.then H4.out).mono (by simp),rfl,(HM3.out.2.quiet H4.out).dk⟩
 | false =>
 have hq:=HR.out
 rw [if_neg (by rw [hoff];decide)] at hq
 unfold stateS at hq
 cases hhd:headS (d.secs.getD 0 []) with
 | some gk =>
   obtain ⟨g,k⟩:=gk
   obtain ⟨ha1,ha2,ha3⟩:=head_area hhd
   rw [hhd] at hq
   simp only [Option.map_some] at hq
   have hnm2:=hnm.mono (R':=fun e w'=>e=.returned (.tuple #[.bool true,.int .i64 0])∧LgM w' pl pd bs (.slice none 0 0) [] d ⟨g,k,0,0,Bk.new,false⟩∧Mod [pl] W3 w') (fun e w' hx=>by
    rcases hx with ⟨h0,_⟩ | ⟨_,h0,_⟩ | ⟨_,g',k',h0,h1,h2,h3⟩
    · rw [hoff] at h0;cases h0
    · rw [hhd] at h0;cases h0
    · rw [hhd] at h0;cases h0;exact ⟨h1,h2,h3⟩)
   have HO:=hide hoff
   have HQ:=hide hq
   clear hnm hoff hhd hq
   go_upto_region 11 with (go_at_call 43;refine hnm2.mono ?_;rintro e w4 ⟨rfl,hlg4,hm4⟩;have H4:=Hj2 hlg4 hm4;clear hlg4 hm4 hnm2)
   have hrc:=(recover_any H4.out.1 new_valid ha1 (Nat.zero_le _) (Nat.zero_le _) (by have:=H49.out;omega)).mono (R':=fun e w'=>e=.returned (.int .i64 0)∧∃ gv lv,LgM w' pl pd bs gv lv d (readL d.secs g k)∧Mod [pl] w4 w') (fun e w' hx=>by
    rcases hx with ⟨h0,_⟩ | ⟨_,h1,gv,lv,h2,h3⟩
    · rw [HO.out] at h0;cases h0
    · refine ⟨h1,gv,lv,?_,h3⟩
      simp only [Nat.zero_add] at h2
      exact h2)
   go_wp2_with (go_at_call 45;refine hrc.mono ?_;rintro e w5 ⟨rfl,gv5,lv5,hlg5,hm5⟩;have H5:=Hj2 hlg5 hm5;clear hlg5 hm5 hrc)
   go_ret2
   rw [← HQ.out]
   exact ⟨mod_fresh2 HM3.out.1 (H4.out.2.then H5.out.2) hple,pl,gv5,lv5,rfl,H5.out.1,hple⟩
 | none =>
   rw [hhd] at hq
   simp only [Option.map_none] at hq
   have hnm2:=hnm.mono (R':=fun e w'=>e=.returned (.tuple #[.bool false,.int .i64 0])∧LgM w' pl pd bs (.slice none 0 0) [] d ⟨0,0,0,0,Bk.new,false⟩∧Mod [] W3 w') (fun e w' hx=>by
    rcases hx with ⟨h0,_⟩ | ⟨_,_,h1,h2,h3⟩ | ⟨_,g',k',h0,_⟩
    · rw [hoff] at h0;cases h0
    · exact ⟨h1,h2,h3⟩
    · rw [hhd] at h0;cases h0)
   have HQ:=hide hq
   clear hnm hoff hhd hq
   go_upto_region 8 with (go_at_call 43;refine hnm2.mono ?_;rintro e w4 ⟨rfl,hlg4,hm4⟩;have H4:=Hj2 hlg4 hm4;clear hlg4 hm4 hnm2)
   have C4:=blk_cell H4.out.1.blk
   have F4:=blk_free H4.out.1.blk
   unfold lgCells at C4
   go_upto_region 9 with fail
   clear C4 F4
   obtain ⟨W5,hW5⟩:∃ W5,W5=(w4.setCell ⟨pl,1,none⟩ (.int .i64 1)).setCell ⟨pl,2,none⟩ (.int .i64 0):=⟨_,rfl⟩
   rw [← hW5]
   have hms:Mod [pl] w4 W5:=by rw [hW5];exact ((Mod.refl _ _).setCell (fun _=>by simp) _).setCell (fun _=>by simp) _
   have hlg5:LgM W5 pl pd bs (.slice none 0 0) [] d ⟨1,0,0,0,Bk.new,false⟩:=H4.out.1.cells (l':=⟨1,0,0,0,Bk.new,false⟩) (by rw [hW5];exact blk_set (blk_set H4.out.1.blk 1 _) 2 _) hms (H4.out.1.bkm hms)
   have hnn:=name_any hlg5 1 0 (by omega) (by omega)
   obtain ⟨⟨ue,ud⟩,hU⟩:∃ t,nameD d 1 0=t:=⟨_,rfl⟩
   have hlen:=name_len d 1 0
   have hoff2:(nameD d 1 0).1=0→(nameD d 1 0).2.off=false:=fun e=>(write_zero e).2.2.1
   rw [hU] at hnn hlen hoff2
   have hq:=HQ.out
   rw [hU] at hq
   simp only at hq hlen hoff2
   have HM5:=hide (H4.out.2.mono (T:=[pl]) (by simp) |>.then hms)
   have HQ2:=hide hq
   have HO:=hide hoff2
   clear hW5 hms hlg5 hU hq HQ hoff2
   by_cases hue:ue=0
   · subst hue
     go_upto_region 11 with (go_at_call 44;refine hnn.mono ?_;rintro e w6 ⟨rfl,hlg6,hm6⟩;have H6:=Hj2 hlg6 hm6;clear hlg6 hm6 hnn)
     have hrc:=(recover_any H6.out.1 new_valid (Nat.zero_le _) (Nat.zero_le _) (Nat.zero_le _) (by have:=H49.out;omega)).mono (R':=fun e w'=>e=.returned (.int .i64 0)∧∃ gv lv,LgM w' pl pd bs gv lv ud (readL ud.secs 1 0)∧Mod [pl] w6 w') (fun e w' hx=>by
      rcases hx with ⟨h0,_⟩ | ⟨_,h1,gv,lv,h2,h3⟩
      · rw [HO.out (by simp)] at h0;cases h0
      · refine ⟨h1,gv,lv,?_,h3⟩
        simp only [Nat.zero_add] at h2
        exact h2)
     go_wp2_with (go_at_call 45;refine hrc.mono ?_;rintro e w7 ⟨rfl,gv7,lv7,hlg7,hm7⟩;have H7:=Hj2 hlg7 hm7;clear hlg7 hm7 hrc)
     go_ret2
     have hq:=HQ2.out
     rw [if_pos (by simp)] at hq
     rw [← hq]
     exact ⟨mod_fresh3 (mod_fresh HM3.out.1 HM5.out (by simp;exact hple)) H6.out.2 H7.out.2 hple,pl,gv7,lv7,rfl,H7.out.1,hple⟩
   · have hub:(ue==0)=false:=by simpa using hue
     have hub2:(ue != 0)=true:=by simpa using hue
     have HUE:=hide hue
     clear hue
     go_wp2_with (go_at_call 44;refine hnn.mono ?_;rintro e w6 ⟨rfl,hlg6,hm6⟩;have H6:=Hj2 hlg6 hm6;clear hlg6 hm6 hnn)
     go_ret2
     have hq:=HQ2.out
     rw [if_neg HUE.out] at hq
     rw [← hq]
     exact ⟨((mod_fresh HM3.out.1 HM5.out (by simp;exact hple)).mono (by simp)).then H6.out.2,rfl,H6.out.1.dk⟩
end Go.Proofs.YtpphoeimakjjdaaGreatDoor
/-
  WALKS: layer 12: Book, Records, Gen, Used; the nil ledger.
-/
namespace Go.Proofs.YtpphoeimakjjdaaGreatDoor
set_option maxRecDepth 100000
set_option maxHeartbeats 4000000
open Go.RowKit Go.Shelf

theorem recs_any {w:World} {pl pd bs:Nat} {gv:Value} {lv:List (Grt × Value)} {d:Dk} {l:Lg} (h:LgM w pl pd bs gv lv d l) :
 Calls Tryz.prog 22 #[.pointer (some ⟨pl,0,none⟩)] w fun e w'=>e=.returned (.int .i64 (l.seq:Int))∧w'=w:=by
 have C:=blk_cell h.blk 3
 unfold lgCells at C
 go_enter Tryz.func22,Tryz.ntmps22
 go_wp2_with fail
 go_ret
 exact ⟨rfl,rfl⟩
theorem gen_any {w:World} {pl pd bs:Nat} {gv:Value} {lv:List (Grt × Value)} {d:Dk} {l:Lg} (h:LgM w pl pd bs gv lv d l) :
 Calls Tryz.prog 23 #[.pointer (some ⟨pl,0,none⟩)] w fun e w'=>e=.returned (.int .i64 (l.gen:Int))∧w'=w:=by
 have C:=blk_cell h.blk 1
 unfold lgCells at C
 go_enter Tryz.func23,Tryz.ntmps23
 go_wp2_with fail
 go_ret
 exact ⟨rfl,rfl⟩
theorem used_any {w:World} {pl pd bs:Nat} {gv:Value} {lv:List (Grt × Value)} {d:Dk} {l:Lg} (h:LgM w pl pd bs gv lv d l) :
 Calls Tryz.prog 24 #[.pointer (some ⟨pl,0,none⟩)] w fun e w'=>e=.returned (.int .i64 (l.used:Int))∧w'=w:=by
 have C:=blk_cell h.blk 4
 unfold lgCells at C
 go_enter Tryz.func24,Tryz.ntmps24
 go_wp2_with fail
 go_ret
 exact ⟨rfl,rfl⟩
theorem append_nil (w:World) (r:Rcd) (p1 p2:Option Addr) (n1 c1 n2 c2:Nat):Calls Tryz.prog 16 #[.pointer none,aggR r (.slice p1 n1 c1) (.slice p2 n2 c2)] w fun e w'=>e=.returned (.int .i64 1)∧Mod [] w w':=by
 obtain ⟨kd,⟨gi,gh,gp,gm,gs,gt⟩,ri,rs,rn,rb,rl⟩:=r
 unfold aggR cellsR
 simp only
 go_enter Tryz.func16,Tryz.ntmps16
 go_wp2_with fail
 go_ret
 exact ⟨rfl,(Mod.refl _ _).alloc _⟩
def SepL (l:List (Grt × Value)):Prop:=l.Pairwise fun p q=>∀ k,k∈ob q.2→k ∉ ob p.2
theorem SepL.snoc {l:List (Grt × Value)} (h:SepL l) {x:Grt × Value} (hx:∀ p,p∈l→∀ k,k∈ob x.2→k ∉ ob p.2):SepL (l++[x]) :=
 List.pairwise_append.2 ⟨h,List.pairwise_singleton _ _,fun p hp q hq=>by rw [List.mem_singleton.1 hq];exact hx p hp⟩
def BokRel (w W1:World) (nx bo lo:Int) (lv:List (Grt × Value)) (i:Value) (wr:World):Prop :=
 ∃ (k:Nat) (sl:List (Grt × Value)) (q:Option Addr) (c:Nat),i=.int .i64 (k:Int)∧k≤lv.length∧sl.map Prod.fst=(lv.take k).map Prod.fst∧GrM wr (w.heap.size+2) (.slice q k c) sl ∧
   wr.heap[w.heap.size+1]?=some (.cells #[.int .i64 nx,.int .i64 bo,.int .i64 lo,.slice q k c] 34 (0,0))∧Mod [w.heap.size+1] W1 wr∧SepL sl
theorem book_sep {w:World} {pl pd bs:Nat} {gv:Value} {lv:List (Grt × Value)} {d:Dk} {l:Lg} (h:LgM w pl pd bs gv lv d l) (hv:validB l.book=true) :
 Calls Tryz.prog 19 #[.pointer (some ⟨pl,0,none⟩)] w fun e w'=>∃ gv' lv',e=.returned (aggB l.book gv')∧BkM w' w.heap.size gv' l.book lv'∧Mod [] w w'∧SepL lv':=by
 obtain ⟨i0,hi0,hz0,hs0,hb0⟩:=info_parts info_int
 obtain ⟨gn,ar,sq,us,⟨nx,bo,lo,gs⟩,dd⟩:=l
 simp only at hv ⊢
 have hsm:=valid_small hv h.bk.eq
 have heq:gs=lv.map Prod.fst:=h.bk.eq
 obtain ⟨q,c,rfl,hmx⟩:=h.bk.gr.shape
 have hmx':lv.length≤9223372036854775807:=hmx
 have hplw:=lt_of_block h.blk
 obtain ⟨W1,hW1⟩:∃ W1,W1=(w.alloc (.cells #[.int .i64 0,.int .i64 0,.int .i64 0,.slice none 0 0] 34 (0,0))).alloc (.cells #[.int .i64 nx,.int .i64 bo,.int .i64 lo,.slice none 0 0] 34 (0,0)):=⟨_,rfl⟩
 have hm1:Mod [] w W1:=by rw [hW1];exact ((Mod.refl [] w).alloc _).alloc _
 have hb0':W1.heap[w.heap.size]?=some (.cells #[.int .i64 0,.int .i64 0,.int .i64 0,.slice none 0 0] 34 (0,0)):=by rw [hW1];exact blk_alloc (heap_alloc_new w _) _
 have hb1:W1.heap[w.heap.size+1]?=some (.cells #[.int .i64 nx,.int .i64 bo,.int .i64 lo,.slice none 0 0] 34 (0,0)):=by
  rw [hW1]
  have:=heap_alloc_new (w.alloc (.cells #[.int .i64 0,.int .i64 0,.int .i64 0,.slice none 0 0] 34 (0,0))) (.cells #[.int .i64 nx,.int .i64 bo,.int .i64 lo,.slice none 0 0] 34 (0,0))
  simpa using this
 have hsz:W1.heap.size=w.heap.size+2:=by rw [hW1];simp
 have C0:=blk_cell (hm1.at_ h.blk (by simp))
 have C1:=blk_cell h.blk
 unfold lgCells at C0 C1
 have HH:=Hj3 h hsm heq
 have HB:=Hj4 hb0' hb1 hm1 hsz
 clear h hsm heq hb0' hb1 hm1 hsz hmx hv
 go_enter Tryz.func19,Tryz.ntmps19
 go_upto_region 5 with fail
 rw [← hW1]
 clear hW1 C1
 go_upto_region 6 with fail
 clear C0
 go_loopw [20] (fun i wr=>BokRel w W1 nx bo lo lv i wr) (fun i _=>lv.length - (intOf i).toNat)
 case atStart=>exact ⟨0,[],none,0,rfl,Nat.zero_le _,rfl,GrM.nil _ _,HB.out.2.1,Mod.refl _ _,List.Pairwise.nil⟩
 case round =>
  obtain ⟨k,sl,bq,bc,rfl,hk,hmap,hgm,hbx,hm,hsep⟩:=hrel
  have HSep:=hide hsep
  clear hsep
  have hsl:sl.length=k:=by have:=congrArg List.length hmap;simp at this;omega
  have hz2:=HB.out.2.2.2
  have hzr:=hm.size
  have hmw:Mod [] w wr:=mod_fresh HB.out.2.2.1 hm (by simp)
  by_cases hlt:k<lv.length
  · have hki:(k:Int)<(lv.length:Int):=by omega
    obtain ⟨bb,rfl,hbb,hb1,hc,hf,hrd⟩:=(HH.out.1.bk.gr.mod hmw (by simp)).at_ k hlt
    have hls:=(HH.out.2.1.2 _ (show lv.getD k default∈lv by simp [hlt])).1
    have htk:(lv.take (k+1)).map Prod.fst=(lv.take k).map Prod.fst++[(lv.getD k default).1]:=by rw [List.take_add_one,List.map_append];simp [hlt]
    generalize lv.getD k default=pr at hc hrd hls htk
    obtain ⟨⟨id,ho,pa,mo,st,te⟩,sv⟩:=pr
    simp only at hrd hls htk
    have c0:=hc 0 (by decide)
    have c1:=hc 1 (by decide)
    have c2:=hc 2 (by decide)
    have c3:=hc 3 (by decide)
    have c4:=hc 4 (by decide)
    have c5:=hc 5 (by decide)
    simp [encG,cellsG] at c0 c1 c2 c3 c4 c5
    obtain ⟨qs,cs,hsv⟩:=hrd.len
    obtain ⟨nst,hnst⟩:∃ n,st.length=n:=⟨_,rfl⟩
    rw [hnst] at hsv
    subst hsv
    obtain ⟨Wa,hWa⟩:∃ Wa,Wa=wr.alloc (.cells #[.int .i64 id,.int .i64 ho,.string pa,.int .i64 mo,.slice qs nst cs,.int .i64 te] 40 (0,0)):=⟨_,rfl⟩
    have hka:Wa.heap[wr.heap.size]?=some (.cells #[.int .i64 id,.int .i64 ho,.string pa,.int .i64 mo,.slice qs nst cs,.int .i64 te] 40 (0,0)):=by rw [hWa];exact heap_alloc_new wr _
    have hma:Mod [] wr Wa:=by rw [hWa];exact (Mod.refl _ _).alloc _
    have hza:Wa.heap.size=wr.heap.size+1:=by rw [hWa];simp
    have ca:=blk_cell hka 4
    have hrda:=hrd.mod hma (by simp)
    have HM:=Hj6 hgm hbx hm hmw htk hmap
    have HA:=Hj3 hka hma hza
    have HS:=Hj2 hsl hls
    clear hc hrd hls htk hmap hgm hbx hm hmw hsl hka hma hza
    go_upto_region 8 with fail
    rw [← hWa]
    clear hWa c0 c1 c2 c3 c4 c5
    go_upto_region 9 with (
     at_builtin
     refine wpList_append_copy _ rfl _ _ 38 rfl 3 i0 Tryz.underlying38 hi0 hz0 hs0 hb0 rfl rfl hrda (by have:=HS.out.2;omega) ?_
     intro v' w2 ho2 hm2
     obtain ⟨p',c',hv'⟩:=(rdN_of_row ho2).len
     rw [hnst] at hv'
     subst hv'
     have hk2:=hm2.at_ HA.out.1 (by simp)
     have C2:=blk_cell hk2
     have F2:=blk_free hk2
     have H2:=Hj3 ho2 hm2 hk2
     clear ho2 hm2 hk2 ca hrda)
    obtain ⟨W3,hW3⟩:∃ W3,W3=w2.setCell ⟨wr.heap.size,4,none⟩ (.slice p' nst c'):=⟨_,rfl⟩
    rw [← hW3]
    clear C2 F2
    obtain ⟨ho2,hm2,hk2⟩:=H2.out
    obtain ⟨hka,hma,hza⟩:=HA.out
    have hk3:W3.heap[wr.heap.size]?=some (.cells #[.int .i64 id,.int .i64 ho,.string pa,.int .i64 mo,.slice p' nst c',.int .i64 te] 40 (0,0)):=by rw [hW3];exact blk_set hk2 4 _
    have hs3:Mod [wr.heap.size] w2 W3:=by rw [hW3];exact (Mod.refl _ _).setCell (fun _=>by simp) _
    have hm3:Mod [] wr W3:=mod_fresh (hma.then hm2) hs3 (by simp)
    have hst3:W3.ownsRow Wa.heap.size 3 1 (.slice p' nst c') st.length (st.map (Value.int .i64)):=hs3.row ho2 (fun x hx=>by have:=(ob_of_row ho2 x (by simpa [ob] using hx)).1;simp;omega)
    have hz3:=hm2.size
    have hz3':=hs3.size
    have D3:=blk_cell hk3
    have hbx3:=hm3.at_ HM.out.2.1 (by simp)
    have B3:=blk_cell hbx3
    obtain ⟨W4,hW4⟩:∃ W4,W4=W3.alloc (.cells #[.int .i64 id,.int .i64 ho,.string pa,.int .i64 mo,.slice p' nst c',.int .i64 te] 40 (0,0)):=⟨_,rfl⟩
    have hk4:W4.heap[W3.heap.size]?=some (.cells (cellsG ⟨id,ho,pa,mo,st,te⟩ (.slice p' nst c')).toArray 40 (0,0)):=by rw [hW4];exact heap_alloc_new W3 _
    have hm4:Mod [] W3 W4:=by rw [hW4];exact (Mod.refl _ _).alloc _
    have hgm4:=HM.out.1.mod (hm3.then hm4) (by simp)
    have hst4:=World.ownsRow.mono (hm4.row hst3 (by simp)) (show w.heap.size+2≤Wa.heap.size by omega)
    have hap:∀ x,x∈ob (.slice p' nst c')→x ∉ ob (.slice bq k bc):=fun x hx hx2=>by
     have h1:=(ob_of_row ho2 x hx).1
     have h2:=(ob_of_row HM.out.1.row x hx2).2
     omega
    have HNS:=hide (show ∀ p,p∈sl→∀ x,x∈ob (.slice p' nst c')→x ∉ ob p.2 from fun p hp x hx hx2=>by
     have h1:=(ob_of_row ho2 x hx).1
     have h2:=(ob_of_row (HM.out.1.st p hp).1 x hx2).2
     omega)
    have hobu:∀ x,x∈ob (.slice bq k bc)→w.heap.size+2≤x:=fun x hx=>(ob_of_row HM.out.1.row x hx).1
    have hz4:w.heap.size+2≤W4.heap.size:=by have:=hm4.size;omega
    have HG:=Hj6 hgm4 hst4 hap hk4 hobu (hm3.then hm4)
    have HX:=Hj2 (hm4.at_ hbx3 (by simp)) hz4
    clear ho2 hm2 hk2 hka hma hza hk3 hs3 hm3 hst3 hz3 hz3' hbx3 hk4 hm4 hgm4 hst4 hap hobu hz4 hW3 H2
    go_wp2_with (
     at_builtin
     rw [← hW4]
     refine wpList_app_gr (g:=⟨id,ho,pa,mo,st,te⟩) (sv:=.slice p' nst c') (sl:=sl) (base:=w.heap.size+2) W4 rfl _ _ rfl rfl HG.out.1 (by have:=HS.out.1;have:=HH.out.2.1.1;omega) HX.out.2 (k:=W3.heap.size) rfl HG.out.2.2.2.1 HG.out.2.1 HG.out.2.2.1 ?_
     rintro u' w5 hgm5 hm5 ⟨p3,c3,hu5⟩ -
     rw [HS.out.1] at hu5
     subst hu5
     have hb5:=hm5.at_ HX.out.1 (fun e=>by have:=HG.out.2.2.2.2.1 _ e;omega)
     have B5:=blk_cell hb5
     have F5:=blk_free hb5
     have H5:=Hj3 hgm5 hm5 hb5
     clear hgm5 hm5 hb5 D3 B3)
    go_roundw
    case rel =>
     obtain ⟨hgm5,hm5,hb5⟩:=H5.out
     obtain ⟨hgm,hbx,hm,hmw,htk,hmap⟩:=HM.out
     have hms:Mod [w.heap.size+1] w5 (w5.setCell ⟨w.heap.size+1,3,none⟩ (.slice p3 (k+1) c3)):=(Mod.refl _ _).setCell (fun _=>by simp) _
     refine ⟨k+1,sl++[(⟨id,ho,pa,mo,st,te⟩,.slice p' nst c')],p3,c3,by go_num,by omega,?_,hgm5.mod hms (fun x hx=>by simp at hx;omega),blk_set hb5 3 _,?_,HSep.out.snoc HNS.out⟩
     · rw [htk,List.map_append,hmap];rfl
     · refine ((hm.then (HG.out.2.2.2.2.2.mono (by simp))).trans hm5 (fun x hx _=>hx) (fun x hx hlt=>?_)).then hms
       have:=HG.out.2.2.2.2.1 x hx
       omega
    case measure=>simp [intOf];omega
  · obtain rfl:k=lv.length:=by omega
    have d0:=hm.at_ HB.out.1 (by simp)
    have C0:=blk_cell d0
    have F0:=blk_free d0
    have C1:=blk_cell hbx
    have HE:=Hj5 d0 hgm hmw hmap hm
    clear d0 hgm hmw hmap hm hsl
    go_wp2_with fail
    obtain ⟨d0,hgm,hmw,hmap,hm⟩:=HE.out
    have q':=stL_all d0 [.int .i64 nx,.int .i64 bo,.int .i64 lo,.slice bq lv.length bc] rfl
    have qm:=stL_mod (S:=[w.heap.size]) (w0:=wr) (r:=w.heap.size) (fun _=>by simp) [.int .i64 nx,.int .i64 bo,.int .i64 lo,.slice bq lv.length bc] 0 _ (Mod.refl [w.heap.size] wr)
    refine bodyPost_ret (v:=.agg #[.int .i64 nx,.int .i64 bo,.int .i64 lo,.slice bq lv.length bc]) (res_cell1 Tryz.results19 _ _ rfl q' Tryz.isAgg34 Tryz.sizeOf34) rfl ⟨_,sl,rfl,⟨?_,?_⟩,?_,HSep.out⟩
    · exact (hgm.mod qm (fun k hk=>by simp at hk;omega)).base (by omega)
    · have:=HH.out.2.2
      simp only
      rw [this,hmap,List.take_length]
    · exact mod_fresh hmw qm (by simp)
theorem book_any {w:World} {pl pd bs:Nat} {gv:Value} {lv:List (Grt × Value)} {d:Dk} {l:Lg} (h:LgM w pl pd bs gv lv d l) (hv:validB l.book=true) :
 Calls Tryz.prog 19 #[.pointer (some ⟨pl,0,none⟩)] w fun e w'=>∃ gv' lv',e=.returned (aggB l.book gv')∧BkM w' w.heap.size gv' l.book lv'∧Mod [] w w':=by
 refine (book_sep h hv).mono ?_
 rintro e w' ⟨gv',lv',h1,h2,h3,-⟩
 exact ⟨gv',lv',h1,h2,h3⟩
end Go.Proofs.YtpphoeimakjjdaaGreatDoor
/-
  WALKS: layer 12: contracts for the laws: a ledger and its disk in new memory; awake.
-/
namespace Go.Proofs.YtpphoeimakjjdaaGreatDoor
set_option maxRecDepth 100000
set_option maxHeartbeats 4000000
open Go.RowKit Go.Shelf

structure LS (w0 w:World) (pl pd bs:Nat) (d:Dk) (l:Lg):Prop where
 mem:∃ gv lv,LgM w pl pd bs gv lv d l
 lo:w0.heap.size≤pl∧w0.heap.size≤pd∧w0.heap.size≤bs
 md:Mod [] w0 w
section
variable {w0 w:World} {pl pd bs:Nat} {d:Dk} {l:Lg}
theorem LS.step (s:LS w0 w pl pd bs d l) {w':World} {d':Dk} {l':Lg} (m:Mod [pl,pd,bs] w w') (h:∃ gv lv,LgM w' pl pd bs gv lv d' l'):LS w0 w' pl pd bs d' l' :=
 ⟨h,s.lo,mod_fresh s.md m (by have:=s.lo;simp;omega)⟩
theorem LS.quiet (s:LS w0 w pl pd bs d l) {w':World} (m:Mod [] w w'):LS w0 w' pl pd bs d l:=by
 obtain ⟨gv,lv,h⟩:=s.mem
 exact ⟨⟨gv,lv,h.quiet m⟩,s.lo,s.md.then m⟩
theorem LS.dk (s:LS w0 w pl pd bs d l):DkM w pd bs d:=by
 obtain ⟨gv,lv,h⟩:=s.mem
 exact h.dk
theorem append_eq (s:LS w0 w pl pd bs d l) (hok:l.Ok) (h49:49≤d.secs.length) {r:Rcd} {sv tv:Value} (hs:RdN w sv r.grant.stamp) (ht:RdN w tv r.stamp) (hp:r.grant.path.size≤9223372036854775807) {t:Int × Dk × Lg} (ha:appendD d l r=t) :
 Calls Tryz.prog 16 #[.pointer (some ⟨pl,0,none⟩),aggR r sv tv] w fun e w'=>e=.returned (.int .i64 t.1)∧LS w0 w' pl pd bs t.2.1 t.2.2∧Mod [pl,pd,bs] w w':=by
 obtain ⟨gv,lv,h⟩:=s.mem
 refine (append_any h hok h49 hs ht hp).mono ?_
 rintro e w' ⟨he,gv',lv',h',m,-⟩
 rw [ha] at he h'
 exact ⟨he,s.step m ⟨gv',lv',h'⟩,m⟩
theorem compact_eq (s:LS w0 w pl pd bs d l) (hok:l.Ok) (h49:49≤d.secs.length) {t:Int × Dk × Lg} (ha:compactD d l=t) :
 Calls Tryz.prog 21 #[.pointer (some ⟨pl,0,none⟩)] w fun e w'=>e=.returned (.int .i64 t.1)∧LS w0 w' pl pd bs t.2.1 t.2.2∧Mod [pl,pd,bs] w w':=by
 obtain ⟨gv,lv,h⟩:=s.mem
 refine (compact_any h hok.book hok.area ⟨hok.gen1,hok.genM⟩ h49).mono ?_
 rintro e w' ⟨he,h',m⟩
 rw [ha] at he h'
 exact ⟨he,s.step m ⟨gv,lv,h'⟩,m⟩
theorem book_eq (s:LS w0 w pl pd bs d l) (hv:validB l.book=true) :
 Calls Tryz.prog 19 #[.pointer (some ⟨pl,0,none⟩)] w fun e w'=>∃ q n c lv,e=.returned (.agg #[.int .i64 l.book.next,.int .i64 l.book.boots,.int .i64 l.book.longest,.slice q n c])∧BkM w' w.heap.size (.slice q n c) l.book lv∧Mod [] w w'∧LS w0 w' pl pd bs d l:=by
 obtain ⟨gv,lv,h⟩:=s.mem
 refine (book_any h hv).mono ?_
 rintro e w' ⟨gv',lv',rfl,hb,m⟩
 obtain ⟨q,c,rfl,_⟩:=hb.gr.shape
 exact ⟨q,_,c,lv',rfl,hb,m,s.quiet m⟩
theorem writes_eq (s:LS w0 w pl pd bs d l) {n:Int} (h:d.writes=n):Calls Tryz.prog 13 #[.pointer (some ⟨pd,0,none⟩)] w fun e w'=>e=.returned (.int .i64 n)∧w'=w:=by
 have:=writes_any s.dk
 rw [h] at this
 exact this
theorem gen_eq (s:LS w0 w pl pd bs d l) {n:Int} (h:(l.gen:Int)=n):Calls Tryz.prog 23 #[.pointer (some ⟨pl,0,none⟩)] w fun e w'=>e=.returned (.int .i64 n)∧w'=w:=by
 obtain ⟨gv,lv,hl⟩:=s.mem
 have:=gen_any hl
 rw [h] at this
 exact this
theorem recs_eq (s:LS w0 w pl pd bs d l) {n:Int} (h:(l.seq:Int)=n):Calls Tryz.prog 22 #[.pointer (some ⟨pl,0,none⟩)] w fun e w'=>e=.returned (.int .i64 n)∧w'=w:=by
 obtain ⟨gv,lv,hl⟩:=s.mem
 have:=recs_any hl
 rw [h] at this
 exact this
theorem used_eq (s:LS w0 w pl pd bs d l) {n:Int} (h:(l.used:Int)=n):Calls Tryz.prog 24 #[.pointer (some ⟨pl,0,none⟩)] w fun e w'=>e=.returned (.int .i64 n)∧w'=w:=by
 obtain ⟨gv,lv,hl⟩:=s.mem
 have:=used_any hl
 rw [h] at this
 exact this
end
theorem LS.lts {w0 w:World} {pl pd bs:Nat} {d:Dk} {l:Lg} (s:LS w0 w pl pd bs d l):pl<w.heap.size∧pd<w.heap.size∧bs<w.heap.size:=by
 obtain ⟨gv,lv,h⟩:=s.mem
 have h1:=lt_of_block h.blk
 have h2:=h.lt
 omega
theorem open_eq {w0 w:World} {pd bs:Nat} {d d':Dk} {l:Lg} (h:DkM w pd bs d) (hlo:w0.heap.size≤pd∧w0.heap.size≤bs) (hm:Mod [] w0 w) (ho:openD d=(0,d',some l)) :
 Calls Tryz.prog 11 #[.pointer (some ⟨pd,0,none⟩)] w fun e w'=>∃ pl,e=.returned (.tuple #[.pointer (some ⟨pl,0,none⟩),.int .i64 0])∧LS w0 w' pl pd bs d' l∧Mod [pd,bs] w w':=by
 refine (open_any h).mono ?_
 rintro e w' ⟨m,hr⟩
 rw [ho] at hr
 obtain ⟨pl,gv,lv,rfl,hl,hp⟩:=hr
 exact ⟨pl,rfl,⟨⟨gv,lv,hl⟩,⟨by have:=hm.size;omega,hlo.1,hlo.2⟩,mod_fresh hm m (by simp;omega)⟩,m⟩
/-! ### awake -/
theorem field_book1 (a b c:Int) (p:Option Addr) (n k:Nat) (w:World):(Instr.field 34 (.agg #[.int .i64 a,.int .i64 b,.int .i64 c,.slice p n k]) 1).run Tryz.prog w=.ok (.int .i64 b) w:=by kernel_rfl
def recOf (k id:Int):Rcd:=⟨k,⟨0,0,⟨#[]⟩,0,[],0⟩,id,[],0,0,0⟩
theorem boot_new:applyB Bk.new (recOf 7 0)=(⟨1,1,0,[]⟩,0):=by kernel_rfl
theorem end_boot:(applyB ⟨1,1,0,[]⟩ (recOf 6 1)).2=43:=by kernel_rfl
theorem boot_width:widthN (encB (recOf 7 0)).length=1:=by kernel_rfl
theorem dump_boot:sumW ((dumpB ⟨1,1,0,[]⟩).map encB)=1:=by kernel_rfl
theorem awake_law {d:Dk} {n:Nat} (hn:49≤n) (h5:n≤512) (hs:d.secs=List.replicate n (List.replicate 64 0)) (ho:d.off=false) (hok:d.Ok) (ha:d.armed=false) (hw:d.writes=0) :
 ∃ d1 d2 d3 l2 l3,openD d=(0,d1,some newL)∧Calm d1 newL∧d1.writes=1∧appendD d1 newL (recOf 7 0)=(0,d2,l2)∧Calm d2 l2∧l2.seq=1∧l2.used=1∧compactD d2 l2=(0,d3,l3)∧Calm d3 l3∧l3.gen=2∧appendD d3 l3 (recOf 6 1)=(43,d3,l3)∧l3.book.boots=1∧d3.writes=4:=by
 obtain ⟨d1,h1,h2,h3,_⟩:=calm_new hn h5 hs ho hok ha hw
 have hg1:newL.gen=1:=rfl
 have hu1:newL.used=0:=rfl
 have hb1:newL.book=Bk.new:=rfl
 rcases calm_append h2 (by rw [hg1];omega) (recOf 7 0) with ⟨e1,_⟩ | ⟨_,d2,l2,e1,e2,e3,_,e5⟩
 · rw [hb1,boot_new] at e1
   exact absurd rfl e1
 obtain ⟨f1,f2,f3,f4⟩:=e5 (by rw [hu1,boot_width];omega)
 rw [hb1,boot_new] at e3
 simp only at e3
 have hw2:=f4 (by rw [h3];exact ⟨by omega,by omega⟩)
 rw [boot_width,h3] at hw2
 obtain ⟨d3,c1,c2,c3⟩:=calm_compact e2 (by rw [f1,hg1];omega)
 have hw3:=c3 (by rw [hw2];exact ⟨by omega,by omega⟩)
 rw [hw2,e3,dump_boot] at hw3
 have hb3:(compL l2).book=⟨1,1,0,[]⟩:=e3
 have hg3:(compL l2).gen=2:=by show l2.gen+1=2;rw [f1];rfl
 rcases calm_append c2 (by rw [hg3];omega) (recOf 6 1) with ⟨_,g2⟩ | ⟨g1,_⟩
 · rw [hb3,end_boot] at g2
   refine ⟨d1,d2,d3,l2,compL l2,h1,h2,h3,e1,e2,by rw [f2];rfl,by rw [f3,hu1,boot_width],c1,c2,hg3,g2,by rw [hb3],?_⟩
   rw [hw3]
   rfl
 · rw [hb3,end_boot] at g1
   cases g1
theorem awake_any (w:World):Calls Tryz.prog 12 #[] w fun e w'=>e=.returned (.bool true)∧Mod [] w w':=by
 obtain ⟨d1,d2,d3,l2,l3,a1,a2,a3,a4,a5,a6,a7,a8,a9,a10,a11,a12,a13⟩:=awake_law (d:=newD 49) (n:=49) (by omega) (by omega) rfl rfl (newD_ok (by omega) (by omega)) rfl rfl
 have A2:=hide a2
 have A5:=hide a5
 have A9:=hide a9
 have AQ:=Hj4 a1 a4 a8 a11
 have AW:=Hj6 a3 a13 a6 a7 a10 a12
 clear a1 a2 a3 a4 a5 a6 a7 a8 a9 a10 a11 a12 a13
 have hfl:=field_book1
 have t1:Hid True:=hide trivial
 have t2:Hid True:=hide trivial
 have t3:Hid True:=hide trivial
 have t4:Hid True:=hide trivial
 have t5:Hid True:=hide trivial
 have t6:Hid True:=hide trivial
 have t7:Hid True:=hide trivial
 have t8:Hid True:=hide trivial
 go_enter Tryz.func12,Tryz.ntmps12
 go_wp2_with (first
  | (go_at_call 10
     refine (dnew_any 49 (by omega) (by omega) _).mono ?_
     rintro e w1 ⟨rfl,hd,hm⟩
     have H1:=Hj2 hd hm
     clear hd hm)
  | (go_at_call 11
     refine (open_eq (w0:=w) H1.out.1 (by omega) H1.out.2 AQ.out.1).mono ?_
     rintro e w2 ⟨pl,rfl,s2,-⟩
     have H2:=hide s2
     clear s2 H1)
  | (go_at_call 13;have tk:=t1;refine (writes_eq H2.out AW.out.1).mono ?_;rintro e wx ⟨rfl,hx⟩;rw [hx];clear hx t1 tk)
  | (go_at_call 23;have tk:=t2;refine (gen_eq H2.out (n:=1) rfl).mono ?_;rintro e wx ⟨rfl,hx⟩;rw [hx];clear hx t2 tk)
  | (go_at_call 22;have tk:=t3;refine (recs_eq H2.out (n:=0) rfl).mono ?_;rintro e wx ⟨rfl,hx⟩;rw [hx];clear hx t3 tk)
  | (go_at_call 16;have tk:=t4
     refine (append_eq (r:=recOf 7 0) H2.out A2.out.inv.lok A2.out.inv.n49 (rdN_nil _) (rdN_nil _) (by show (ByteArray.mk #[]).size≤_;decide) AQ.out.2.1).mono ?_
     rintro e w3 ⟨rfl,s3,-⟩
     have H3:=hide s3
     clear s3 H2 t4 tk)
  | (go_at_call 22;have tk:=t5;refine (recs_eq H3.out (n:=1) (by have:=AW.out.2.2.1;omega)).mono ?_;rintro e wx ⟨rfl,hx⟩;rw [hx];clear hx t5 tk)
  | (go_at_call 24;refine (used_eq H3.out (n:=1) (by have:=AW.out.2.2.2.1;omega)).mono ?_;rintro e wx ⟨rfl,hx⟩;rw [hx];clear hx)
  | (go_at_call 21
     refine (compact_eq H3.out A5.out.inv.lok A5.out.inv.n49 AQ.out.2.2.1).mono ?_
     rintro e w4 ⟨rfl,s4,-⟩
     have H4:=hide s4
     clear s4 H3)
  | (go_at_call 23;have tk:=t6;refine (gen_eq H4.out (n:=2) (by have:=AW.out.2.2.2.2.1;omega)).mono ?_;rintro e wx ⟨rfl,hx⟩;rw [hx];clear hx t6 tk)
  | (go_at_call 16;have tk:=t7
     refine (append_eq (r:=recOf 6 1) H4.out A9.out.inv.lok A9.out.inv.n49 (rdN_nil _) (rdN_nil _) (by show (ByteArray.mk #[]).size≤_;decide) AQ.out.2.2.2).mono ?_
     rintro e w5 ⟨rfl,s5,-⟩
     have H5:=hide s5
     clear s5 H4 t7 tk)
  | (go_at_call 19
     refine (book_eq H5.out A9.out.inv.lok.book).mono ?_
     rintro e w6 ⟨q6,n6,c6,lv6,rfl,-,-,s6⟩
     rw [AW.out.2.2.2.2.2]
     have H6:=hide s6
     clear s6 H5)
  | (go_at_call 13;have tk:=t8;refine (writes_eq H6.out AW.out.2.1).mono ?_;rintro e wx ⟨rfl,hx⟩;rw [hx];clear hx t8 tk)
  | fail)
 go_ret
 exact ⟨rfl,H6.out.md⟩
/-! ### the law's names -/
end Go.Proofs.YtpphoeimakjjdaaGreatDoor
