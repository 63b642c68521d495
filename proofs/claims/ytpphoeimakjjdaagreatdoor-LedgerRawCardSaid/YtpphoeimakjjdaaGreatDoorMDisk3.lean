/-
  Disk Disk2 Disk3: see the remarks below.
-/
import Derived.Test.YtpphoeimakjjdaaGreatDoorMDsk
import Derived.Deep.WholeRow
import Derived.Deep.DeepCutAuto
import Derived.Deep.RegionHeld3
/-
  WALKS: layer 9: the disk's calls.
-/
namespace Go.Proofs.YtpphoeimakjjdaaGreatDoor
set_option maxRecDepth 100000
set_option maxHeartbeats 4000000
open Go.RowKit

theorem wpList_store_new {P:Program} {ops:Array Oper} {rest:List Oper} {op:Oper} {a:Act} {w:World} {Q:Exit→Act→World→Prop} (hgd:op.guard=none) (ty:TypeId) (x y:Operand) (ho:op.op=.store ty x y)
 (c c':Array Value) (hx:a.eval x=.pointer (some ⟨w.heap.size,0,none⟩)) (hy:a.eval y=.agg c') (hi:(P.info? ty).map (·.size)=some c'.size) (hs:c.size=c'.size) (h1:c'.all (·.oneCell')=true)
 (h:wpList P ops Q rest (a.put op.dst undef) (w.alloc (.cells c' ty (0,0)))):wpList P ops Q (op::rest) a (w.alloc (.cells c ty (0,0))) :=
 wpList_plain hgd fun _ hK=>by
  unfold Oper.wp execOp
  simp only [ho,hx,hy,Instr.storeAt,Instr.sureAddr,Sem.run_bind,Sem.run_pure,Result.andThen_ok,run_storeVar_new w ty c c' hi hs h1]
  exact hK _ _ h
theorem all_y8 (m:B8):(m.map y8).toArray.all (·.oneCell')=true:=all_oneCell_toArray (fun v hv=>by
 obtain ⟨x,_,rfl⟩:=List.mem_map.1 hv
 rfl)
theorem fits_any (n:Int) (w:World) :
 Calls Tryz.prog 40 #[.int .i64 n] w fun e w'=>e=.returned (.bool (decide (1≤n)&&decide (n≤512)))∧w'=w:=by
 by_cases h1:1≤n
 · by_cases h2:n≤512
   all_goals
    go_enter Tryz.func40,Tryz.ntmps40
    go_wp2_with fail
    go_ret
    simp [h1,h2]
 · go_enter Tryz.func40,Tryz.ntmps40
   go_wp2_with fail
   go_ret
   simp
   omega
theorem fault_any {w:World} {pd bs:Nat} {d:Dk} (h:DkM w pd bs d) (i:Nat) :
 Calls Tryz.prog 101 #[.pointer (some ⟨pd,0,none⟩),.int .i64 (i:Int)] w fun e w'=>e=.returned (.int .i64 (faultD d i))∧w'=w:=by
 obtain ⟨c,hb,hr⟩:=h.blk
 have c0:w.cell? ⟨pd,0,none⟩=some (.slice (some ⟨bs,0,none⟩) d.secs.length c):=blk_cell hb 0
 have c4:w.cell? ⟨pd,4,none⟩=some (.bool d.off):=blk_cell hb 4
 have hn:¬ ((i:Int)<0):=by omega
 obtain ⟨f,hf⟩:∃ f,faultD d i=f:=⟨_,rfl⟩
 rw [hf]
 unfold faultD at hf
 have ho:=h.ok.most
 clear hb hr h
 cases hoff:d.off with
 | true =>
   rw [hoff] at hf c4
   simp at hf
   subst hf
   go_enter Tryz.func101,Tryz.ntmps101
   go_wp2_with fail
   go_ret
   exact ⟨rfl,rfl⟩
 | false =>
   rw [hoff] at hf c4
   simp at hf
   by_cases hi:d.secs.length≤i
   · rw [if_pos hi] at hf
     subst hf
     go_enter Tryz.func101,Tryz.ntmps101
     go_wp2_with fail
     go_ret
     exact ⟨rfl,rfl⟩
   · rw [if_neg hi] at hf
     subst hf
     go_enter Tryz.func101,Tryz.ntmps101
     go_wp2_with fail
     go_ret
     exact ⟨rfl,rfl⟩
theorem read_any {w:World} {pd bs:Nat} {d:Dk} (h:DkM w pd bs d) (i:Nat) :
 Calls Tryz.prog 72 #[.pointer (some ⟨pd,0,none⟩),.int .i64 (i:Int)] w fun e w' =>
  (faultD d i≠0∧e=.returned (.tuple #[.slice none 0 0,.int .i64 (faultD d i)])∧w'=w) ∨
  (faultD d i=0∧i<d.secs.length∧e=.returned (.tuple #[.slice (some ⟨w.heap.size,0,none⟩) 64 64,.int .i64 0])∧w'=w.alloc (.cells ((d.secs.getD i []).map y8).toArray 114 (0,0))):=by
 have hfa:=fault_any h i
 obtain ⟨c,hb,hr⟩:=h.blk
 have c0:w.cell? ⟨pd,0,none⟩=some (.slice (some ⟨bs,0,none⟩) d.secs.length c):=blk_cell hb 0
 have ho:=h.ok.most
 clear hb hr
 by_cases hf:faultD d i=0
 · have hi:i<d.secs.length:=by
    unfold faultD at hf
    split at hf
    · simp at hf
    · split at hf
      · simp at hf
      · omega
   rw [hf] at hfa
   have hrg:=h.range hi
   have hl64:=h.ok.all i hi
   have HH:=Hj2 h hf
   generalize d.secs.getD i []=s at hrg hl64 ⊢
   clear h hf
   have hsz:(Tryz.prog.info? 114).map (·.size)=some (s.map y8).length:=by rw [List.length_map,hl64];kernel_rfl
   have hsz2:(Tryz.prog.info? 114).map (·.size)=some (s.map y8).toArray.size:=by rw [List.size_toArray];exact hsz
   have hs64:Hid (64=(s.map y8).toArray.size):=hide (by rw [List.size_toArray,List.length_map,hl64])
   have hall:=all_y8 s
   obtain ⟨S,hS⟩:∃ S,(s.map y8).toArray=S:=⟨_,rfl⟩
   rw [hS] at hsz2 hs64 hall ⊢
   have HS:=hide hS
   clear hS
   go_enter Tryz.func72,Tryz.ntmps72
   go_wp2_with
    (first
      | (go_at_call 101;refine hfa.mono ?_;rintro e w1 ⟨rfl,rfl⟩)
      | (refine wpList_load_mid rfl 114 _ rfl bs (i * 64) rfl (s.map y8) _ hrg Tryz.underlying114 rfl hsz ?_;rw [HS.out])
      | (refine wpList_store_new rfl 114 _ _ rfl _ S rfl rfl hsz2 hs64.out hall ?_)
      | fail)
   go_ret2
   exact .inr ⟨HH.out.2,hi,rfl,rfl⟩
 · obtain ⟨f,hf'⟩:∃ f,faultD d i=f:=⟨_,rfl⟩
   rw [hf'] at hfa hf
   have hff:decide (f=0)=false:=by simp [hf]
   have HF:=hide hf'
   clear hf' h
   go_enter Tryz.func72,Tryz.ntmps72
   go_wp2_with (go_at_call 101;refine hfa.mono ?_;rintro e w1 ⟨rfl,rfl⟩)
   go_ret2
   rw [HF.out]
   exact .inl ⟨hf,rfl,rfl⟩
theorem cellsL_dk {w:World} {pd bs c:Nat} {d:Dk} (hb:w.heap[pd]?=some (.cells (dkCells bs c d) 78 (0,0))) :
 w.cell? ⟨pd,0,none⟩=some (.slice (some ⟨bs,0,none⟩) d.secs.length c)∧w.cell? ⟨pd,1,none⟩=some (.int .i64 d.writes)∧w.cell? ⟨pd,2,none⟩=some (.bool d.armed)∧w.cell? ⟨pd,3,none⟩=some (.int .i64 d.left)∧w.cell? ⟨pd,4,none⟩=some (.bool d.off)∧(∀ i,w.frozen? ⟨pd,i,none⟩=false) :=
 ⟨blk_cell hb 0,blk_cell hb 1,blk_cell hb 2,blk_cell hb 3,blk_cell hb 4,fun i=>blk_free hb i⟩
theorem write_end {w W:World} {pd bs c i:Nat} {d:Dk} {b:B8} {l:Int} (h:DkM w pd bs d) (hb:W.heap[pd]?=some (.cells (dkCells bs c { d with left:=l }) 78 (0,0)))
 (hr:W.ownsRow bs 114 64 (.slice (some ⟨bs,0,none⟩) d.secs.length c) d.secs.length (flatY d.secs)) (hl:l=if d.armed=true then d.left - 1 else d.left) (hm:Mod [pd] w W)
 (hi:i<d.secs.length) (h64:b.length=64) (hcut:¬ (d.armed=true∧d.left=0)) :
 ((W.drew.setCells bs (i * 64) (b.map y8)).cell? ⟨pd,1,none⟩=some (.int .i64 d.writes)∧(∀ k,(W.drew.setCells bs (i * 64) (b.map y8)).frozen? ⟨pd,k,none⟩=false)) ∧
 DkM ((W.drew.setCells bs (i * 64) (b.map y8)).setCell ⟨pd,1,none⟩ (.int .i64 (wrap64 (d.writes+1)))) pd bs (wroteD d i b) ∧
 Mod [pd,bs] w ((W.drew.setCells bs (i * 64) (b.map y8)).setCell ⟨pd,1,none⟩ (.int .i64 (wrap64 (d.writes+1)))):=by
 have hr2:W.drew.ownsRow bs 114 64 (.slice (some ⟨bs,0,none⟩) d.secs.length c) d.secs.length (flatY d.secs):=((Mod.refl [] W).drew).row hr (fun k _ e=>by cases e)
 have hrow:=row_set (b:=b) rfl h.ok.all hr2 hi h64
 have hmX:Mod [bs] W (W.drew.setCells bs (i * 64) (b.map y8)):=setCells_mod (fun _=>by simp) _ _ _ (Mod.refl _ W).drew
 have hne:=h.ne
 have hbX:=hmX.at_ hb (by simp;exact hne)
 have hmY:Mod [pd] (W.drew.setCells bs (i * 64) (b.map y8)) ((W.drew.setCells bs (i * 64) (b.map y8)).setCell ⟨pd,1,none⟩ (.int .i64 (wrap64 (d.writes+1)))):=(Mod.refl _ _).setCell (fun _=>by simp) _
 refine ⟨⟨blk_cell hbX 1,fun k=>blk_free hbX k⟩,⟨⟨c,?_,?_⟩,h.ok.wrote hi h64 hcut,hne⟩,?_⟩
 · have e:=blk_set hbX 1 (.int .i64 (wrap64 (d.writes+1)))
   have e2:dkCells bs c (wroteD d i b)=(dkCells bs c { d with left:=l }).setIfInBounds 1 (.int .i64 (wrap64 (d.writes+1))):=by
    simp [dkCells,wroteD,hl]
   rw [e2]
   exact e
 · have e:(wroteD d i b).secs.length=d.secs.length:=by simp [wroteD]
   rw [e]
   exact hmY.row hrow (fun k hk e=>by simp [Value.ownBlock] at hk e;omega)
 · exact ((hm.trans (U:=[pd,bs]) hmX (fun x hx _=>by simp at hx ⊢;exact .inl hx) (fun x hx _=>by simp at hx ⊢;exact .inr hx)).trans hmY (fun _ x _=>x) (fun x hx _=>by simp at hx ⊢;exact .inl hx))
def WriteTo (w:World) (pd bs:Nat) (r:Int × Dk) (e:Ending) (w':World):Prop:=e=.returned (.int .i64 r.1)∧DkM w' pd bs r.2∧Mod [pd,bs] w w'
theorem write_any {w:World} {pd bs:Nat} {d:Dk} (h:DkM w pd bs d) (i:Nat) {bv:Value} {b:B8} (hv:RdY w bv b) (hbv:bs ∉ ob bv) :
 Calls Tryz.prog 75 #[.pointer (some ⟨pd,0,none⟩),.int .i64 (i:Int),bv] w fun e w'=>WriteTo w pd bs (writeD d i b) e w':=by
 have hfa:=fault_any h i
 obtain ⟨c,hb,hr⟩:=h.blk
 obtain ⟨c0,c1,c2,c3,c4,cf⟩:=cellsL_dk hb
 have ho:=h.ok.most
 obtain ⟨O,hO⟩:∃ O,writeD d i b=O:=⟨_,rfl⟩
 rw [hO]
 unfold writeD at hO
 by_cases hf:faultD d i=0
 · have hoff:¬ d.off=true:=by
    unfold faultD at hf
    split at hf
    · simp at hf
    · assumption
   have hi:i<d.secs.length:=by
    unfold faultD at hf
    rw [if_neg hoff] at hf
    split at hf
    · simp at hf
    · omega
   rw [if_neg hoff,if_neg (by omega)] at hO
   rw [hf] at hfa
   by_cases h64:b.length=64
   · rw [if_neg (by omega)] at hO
     by_cases hcut:d.armed=true∧d.left=0
     · rw [if_pos hcut] at hO
       subst hO
       obtain ⟨ha,hl0⟩:=hcut
       rw [ha] at c2
       rw [hl0] at c3
       obtain ⟨qb,cb,rfl⟩:=hv.len
       rw [h64]
       have HH:=Hj3 h hb hr
       have hne:=h.ne
       clear h hr hb hf hoff hv h64
       go_enter Tryz.func75,Tryz.ntmps75
       go_wp2_with (go_at_call 101;refine hfa.mono ?_;rintro e w1 ⟨rfl,rfl⟩)
       go_ret
       obtain ⟨h,hb,hr⟩:=HH.out
       have hm:Mod [pd] w1 ((w1.setCell ⟨pd,2,none⟩ (.bool false)).setCell ⟨pd,4,none⟩ (.bool true)):=((Mod.refl _ _).setCell (fun _=>by simp) _).setCell (fun _=>by simp) _
       exact ⟨rfl,⟨⟨c,blk_set (blk_set hb 2 _) 4 _,hm.row hr (fun k hk e=>by simp [Value.ownBlock] at hk e;omega)⟩,h.ok.cut,h.ne⟩,hm.mono (fun x hx _=>by simp at hx ⊢;exact .inl hx)⟩
     · rw [if_neg hcut] at hO
       subst hO
       obtain ⟨bb,off,cb,rfl,hcap,hbb,hcell⟩:∃ bb off cap,bv=.slice (some ⟨bb,off,none⟩) 64 cap∧(64≤cap∧cap≤maxLen)∧bb<w.heap.size∧w.rangeAt bb off (b.map y8):=by
        rcases hv.2 with ⟨_,_,_,rfl⟩ | ⟨bb,off,cap,rfl,hcap,hbb,hcell⟩
        · simp at h64
        · rw [h64] at hcap
          refine ⟨bb,off,cap,by rw [h64],hcap,hbb,fun j v hj=>?_⟩
          have hjl:j<b.length:=by have:=(List.getElem?_eq_some_iff.1 hj).1;rw [List.length_map] at this;exact this
          rw [map_y8_get b hjl] at hj
          cases hj
          exact hcell j hjl
       have hth:=h.there hi
       have hbs:bb≠bs:=fun e=>hbv (by rw [e];simp [ob,Value.ownBlock])
       have hpb:bb≠pd:=fun e=>by
        subst e
        have:=hcell 63 _ (map_y8_get b (by omega))
        rw [blk_cell hb] at this
        simp [dkCells] at this
       have hok:=h.ok.wrote hi h64 hcut
       have hrow:=row_set (b:=b) rfl h.ok.all hr hi h64
       have hu:=Tryz.underlying114
       have hsz:(Tryz.prog.info? 114).map (·.size)=some (b.map y8).length:=by rw [List.length_map,h64];kernel_rfl
       have hne:=h.ne
       have hone:∀ v∈b.map y8,v.oneCell'=true:=fun v hv=>by
        obtain ⟨x,_,rfl⟩:=List.mem_map.1 hv
        rfl
       have hlen:(b.map y8).length=64:=by rw [List.length_map,h64]
       have hi0:(0:Int)≤(i:Int):=by omega
       have hi1:(i:Int)<(d.secs.length:Int):=by omega
       have HH:=Hj3 h hb hr
       have HB:=Hj2 hok hrow
       have har:∀ w,(Instr.arrayAt 114 (.slice (some ⟨bb,off,none⟩) 64 cb)).run Tryz.prog w=.ok (.pointer (some ⟨bb,off,none⟩)) w:=fun W=>by kernel_rfl
       have HL:=hide h64
       have HC:=hide hcut
       cases ha:d.armed with
       | false =>
         rw [ha] at c2
         clear h hr hb hf hoff hv hok hrow hcut h64
         go_enter Tryz.func75,Tryz.ntmps75
         go_upto_region 11 with (go_at_call 101;refine hfa.mono ?_;rintro e w1 ⟨rfl,rfl⟩)
         have hE:=write_end HH.out.1 (l:=d.left) HH.out.2.1 HH.out.2.2 (by rw [ha];rfl) (Mod.refl _ _) hi HL.out HC.out
         go_region_held3 (fun w'=>w'.cell? ⟨pd,0,none⟩=some (.slice (some ⟨bs,0,none⟩) d.secs.length c)∧w'.rangeAt bb off (b.map y8)∧w'.there bs (i * 64) 64) (first
          | (go_keep_ranges;done)
          | (refine ⟨?_,?_,?_⟩
             · rw [World.cell?_setCells_out bs _ _ _ _ (fun e _=>absurd e hne)];simpa using c0
             · exact World.rangeAt_setCells_apart ((World.rangeAt_drew _ _ _ _).2 hcell) _ _ _ (.inl hbs)
             · exact World.there_setCells ((World.there_drew _ _ _ _).2 hth) _ _ _)) (fail)
         generalize w1.drew.setCells bs (i * 64) (b.map y8)=X at hE
         obtain ⟨⟨x1,xf⟩,hE⟩:=hE
         go_wp2_with fail
         go_ret
         exact ⟨rfl,hE.1,hE.2⟩
       | true =>
         have hl1:1≤d.left:=by
          have:=h.ok.left0 ha
          have:d.left≠0:=fun e=>hcut ⟨ha,e⟩
          omega
         have hlM:=h.ok.leftM
         have hwr:IntKind.i64.wrap (d.left - 1)=d.left - 1:=IntWalk.i64_in _ (by omega)
         have hlf:decide (d.left=0)=false:=by simp;omega
         rw [ha] at c2
         clear h hr hb hf hoff hv hok hrow hcut h64
         go_enter Tryz.func75,Tryz.ntmps75
         go_upto_region 11 with (go_at_call 101;refine hfa.mono ?_;rintro e w1 ⟨rfl,rfl⟩)
         obtain ⟨h,hb,hr⟩:=HH.out
         have hmW:Mod [pd] w1 (w1.setCell ⟨pd,3,none⟩ (.int .i64 (d.left - 1))):=(Mod.refl _ _).setCell (fun _=>by simp) _
         have hbW:(w1.setCell ⟨pd,3,none⟩ (.int .i64 (d.left - 1))).heap[pd]?=some (.cells (dkCells bs c { d with left:=d.left - 1 }) 78 (0,0)):=blk_set hb 3 _
         have hrW:=hmW.row hr (fun k hk e=>by simp [Value.ownBlock] at hk e;omega)
         have dcell:(w1.setCell ⟨pd,3,none⟩ (.int .i64 (d.left - 1))).rangeAt bb off (b.map y8):=fun j v hv=>by
          have:=hcell j v hv
          exact hmW.kept this (by simp;exact hpb)
         have dth:(w1.setCell ⟨pd,3,none⟩ (.int .i64 (d.left - 1))).there bs (i * 64) 64:=fun j hj=>⟨by
          rw [World.cell?_setCell_other _ _ _ _ (fun e=>hne (congrArg Addr.block e))]
          exact (hth j hj).1,by rw [World.frozen?_setCell];exact (hth j hj).2⟩
         have hE:=write_end h (l:=d.left - 1) hbW hrW (by rw [ha];rfl) hmW hi HL.out HC.out
         obtain ⟨d0,-,-,-,-,-⟩:=cellsL_dk hbW
         generalize (w1.setCell ⟨pd,3,none⟩ (.int .i64 (d.left - 1)))=W at hE d0 dcell dth ⊢
         clear c0 c1 c2 c3 c4 cf hcell hth h hb hr hbW hrW hmW hfa HH HB hwr
         go_region_held3 (fun w'=>w'.cell? ⟨pd,0,none⟩=some (.slice (some ⟨bs,0,none⟩) d.secs.length c)∧w'.rangeAt bb off (b.map y8)∧w'.there bs (i * 64) 64) (first
          | (go_keep_ranges;done)
          | (refine ⟨?_,?_,?_⟩
             · rw [World.cell?_setCells_out bs _ _ _ _ (fun e _=>absurd e hne)];simpa using d0
             · exact World.rangeAt_setCells_apart ((World.rangeAt_drew _ _ _ _).2 dcell) _ _ _ (.inl hbs)
             · exact World.there_setCells ((World.there_drew _ _ _ _).2 dth) _ _ _)) (fail)
         generalize W.drew.setCells bs (i * 64) (b.map y8)=X at hE
         obtain ⟨⟨x1,xf⟩,hE⟩:=hE
         go_wp2_with fail
         go_ret
         exact ⟨rfl,hE.1,hE.2⟩
   · rw [if_pos h64] at hO
     subst hO
     obtain ⟨qb,cb,rfl⟩:=hv.len
     have hbl:=hv.1
     have hneq:decide (((b.length:Nat):Int)=64)=false:=by simp;omega
     have HH:=hide h
     clear h hr hb hf hoff hv
     go_enter Tryz.func75,Tryz.ntmps75
     go_wp2_with (go_at_call 101;refine hfa.mono ?_;rintro e w1 ⟨rfl,rfl⟩)
     go_ret
     exact ⟨rfl,HH.out,Mod.refl _ _⟩
 · have hOO:O=(faultD d i,d):=by
    rw [← hO]
    unfold faultD at hf ⊢
    by_cases hoff:d.off=true
    · rw [if_pos hoff,if_pos hoff]
    · rw [if_neg hoff] at hf ⊢
      rw [if_neg hoff]
      by_cases hi:d.secs.length≤i
      · rw [if_pos hi,if_pos hi]
      · rw [if_neg hi] at hf
        simp at hf
   clear hO
   subst hOO
   obtain ⟨f,hf'⟩:∃ f,faultD d i=f:=⟨_,rfl⟩
   rw [hf'] at hfa hf ⊢
   have hff:decide (f=0)=false:=by simp [hf]
   have HH:=hide h
   clear hf' h hr hb hv
   go_enter Tryz.func75,Tryz.ntmps75
   go_wp2_with (go_at_call 101;refine hfa.mono ?_;rintro e w1 ⟨rfl,rfl⟩)
   go_ret
   exact ⟨rfl,HH.out,Mod.refl _ _⟩
end Go.Proofs.YtpphoeimakjjdaaGreatDoor
/-
  WALKS: layer 9: the disk's switches, what it tells, new disks, its image.
-/
namespace Go.Proofs.YtpphoeimakjjdaaGreatDoor
set_option maxRecDepth 100000
set_option maxHeartbeats 4000000
open Go.RowKit

theorem off_any {w:World} {pd bs:Nat} {d:Dk} (h:DkM w pd bs d) :
 Calls Tryz.prog 26 #[.pointer (some ⟨pd,0,none⟩)] w fun e w'=>e=.returned (.bool d.off)∧w'=w:=by
 obtain ⟨c,hb,hr⟩:=h.blk
 obtain ⟨c0,c1,c2,c3,c4,cf⟩:=cellsL_dk hb
 clear hb hr h
 go_enter Tryz.func26,Tryz.ntmps26
 go_wp2_with fail
 go_ret
 exact ⟨rfl,rfl⟩
theorem writes_any {w:World} {pd bs:Nat} {d:Dk} (h:DkM w pd bs d) :
 Calls Tryz.prog 13 #[.pointer (some ⟨pd,0,none⟩)] w fun e w'=>e=.returned (.int .i64 d.writes)∧w'=w:=by
 obtain ⟨c,hb,hr⟩:=h.blk
 obtain ⟨c0,c1,c2,c3,c4,cf⟩:=cellsL_dk hb
 clear hb hr h
 go_enter Tryz.func13,Tryz.ntmps13
 go_wp2_with fail
 go_ret
 exact ⟨rfl,rfl⟩
theorem dlen_any {w:World} {pd bs:Nat} {d:Dk} (h:DkM w pd bs d) :
 Calls Tryz.prog 41 #[.pointer (some ⟨pd,0,none⟩)] w fun e w'=>e=.returned (.int .i64 (d.secs.length:Int))∧w'=w:=by
 obtain ⟨c,hb,hr⟩:=h.blk
 obtain ⟨c0,c1,c2,c3,c4,cf⟩:=cellsL_dk hb
 clear hb hr h
 go_enter Tryz.func41,Tryz.ntmps41
 go_wp2_with fail
 go_ret
 exact ⟨rfl,rfl⟩
def onD (d:Dk):Dk:={ d with off:=false }
def armD (d:Dk) (k:Int):Dk:={ d with armed:=decide (0≤k),left:=k }
theorem Dk.Ok.on {d:Dk} (h:d.Ok):(onD d).Ok:=⟨h.all,h.least,h.most,h.left0,h.leftM⟩
theorem Dk.Ok.arm {d:Dk} (h:d.Ok) {k:Int} (hk:k≤9223372036854775807):(armD d k).Ok:=⟨h.all,h.least,h.most,fun e=>by simpa [armD] using e,hk⟩
/-! ### a new disk -/
def zeroSec:B8:=List.replicate 64 0
def newD (n:Nat):Dk:=⟨List.replicate n zeroSec,0,false,0,false⟩
theorem newD_ok {n:Nat} (h1:1≤n) (h2:n≤512):(newD n).Ok:=by
 refine ⟨fun i hi=>?_,by simpa [newD] using h1,by simpa [newD] using h2,fun e=>Bool.noConfusion e,by simp [newD]⟩
 have hi':i<n:=by simpa [newD] using hi
 show ((List.replicate n zeroSec).getD i []).length=64
 simp [List.getD,hi',zeroSec]
theorem madeCells_rep (v:Value) (k n:Nat) (hk:0<k):madeCells (List.replicate k v).toArray n=(List.replicate n v).toArray:=by
 unfold madeCells
 refine Array.ext (by simp) fun i h1 h2=>?_
 have:i % k<k:=Nat.mod_lt _ hk
 simp [this]
theorem flatY_rep (n:Nat):flatY (List.replicate n zeroSec)=List.replicate (n * 64) (Value.int .u8 0):=by
 induction n with
 | zero=>rfl
 | succ n ih =>
   rw [List.replicate_succ]
   show zeroSec.map y8++flatY (List.replicate n zeroSec)=_
   rw [ih,show zeroSec.map y8=List.replicate 64 (Value.int .u8 0) from rfl,List.replicate_append_replicate]
   congr 1
   omega
def secsObj (l:List B8):Obj:=.cells (flatY l).toArray 114 (0,0)
theorem make_secs (w:World) (n:Nat) (hn:n≤512):(Instr.makeSlice 76 (.int .i64 (n:Int)) (.int .i64 (n:Int))).run Tryz.prog w=.ok (.slice (some ⟨w.heap.size,0,none⟩) n n) (w.alloc (secsObj (List.replicate n zeroSec))):=by
 obtain ⟨i0,hi0,hz0,hs0,hb0⟩:=info_parts (show (Tryz.prog.info? 114).map (fun i=>(i.zero,i.size,i.bytes))=some (some (.agg (List.replicate 64 (Value.int .u8 0)).toArray),64,64) by kernel_rfl)
 rw [run_make w 76 114 i0 _ Tryz.underlying76 hi0 hz0 .i64 .i64 n n (by omega) (Int.le_refl _) (by rw [hb0];omega) (by omega)]
 rw [Int.toNat_natCast,hs0]
 have e:madeCells (Value.agg (List.replicate 64 (Value.int .u8 0)).toArray).cells (n * 64)=(flatY (List.replicate n zeroSec)).toArray:=by
  rw [show (Value.agg (List.replicate 64 (Value.int .u8 0)).toArray).cells=(List.replicate 64 (Value.int .u8 0)).toArray from rfl,madeCells_rep _ _ _ (by decide),flatY_rep]
 rw [e]
 rfl
theorem dnew_any (n:Nat) (h1:1≤n) (h2:n≤512) (w:World) :
 Calls Tryz.prog 10 #[.int .i64 (n:Int)] w fun e w'=>e=.returned (.tuple #[.pointer (some ⟨w.heap.size+1,0,none⟩),.int .i64 0])∧DkM w' (w.heap.size+1) w.heap.size (newD n)∧Mod [] w w':=by
 have hfi:=fits_any (n:Int) w
 rw [show (decide (1≤(n:Int))&&decide ((n:Int)≤512))=true by simp;omega] at hfi
 have hmk:=make_secs w n h2
 have hok:=newD_ok h1 h2
 go_enter Tryz.func10,Tryz.ntmps10
 go_wp2_with (go_at_call 40;refine hfi.mono ?_;rintro e w1 ⟨rfl,rfl⟩)
 go_ret2
 have hbs:=heap_alloc_new w1 (secsObj (List.replicate n zeroSec))
 have hm1:Mod [] w1 (w1.alloc (secsObj (List.replicate n zeroSec))):=(Mod.refl _ _).alloc _
 have hpd:=heap_alloc_new (w1.alloc (secsObj (List.replicate n zeroSec))) (.cells (dkCells w1.heap.size n (newD n)) 78 (0,0))
 have e0:dkCells w1.heap.size n (newD n)=#[.slice (some ⟨w1.heap.size,0,none⟩) n n,.int .i64 0,.bool false,.int .i64 0,.bool false]:=by simp [dkCells,newD]
 rw [e0] at hpd
 have hsz:(w1.alloc (secsObj (List.replicate n zeroSec))).heap.size=w1.heap.size+1:=by simp
 rw [hsz] at hpd
 refine ⟨rfl,⟨⟨n,by rw [e0];exact hpd,?_⟩,hok,by omega⟩,hm1.alloc _⟩
 have hl:(newD n).secs.length=n:=by simp [newD]
 rw [hl]
 have hfl:(flatY (newD n).secs).length=n * 64:=by rw [flatY_len _ hok.all,hl]
 refine ⟨hfl,.inr ⟨w1.heap.size,n,_,rfl,Nat.le_refl _,((Gr.refl _).alloc _).heap (lt_of_block hbs) |>.trans hbs,Nat.le_refl _,by unfold maxLen;omega,?_,?_⟩⟩
 · rw [List.size_toArray];exact hfl
 · rw [List.toList_toArray];exact List.take_of_length_le (by rw [show (flatY (List.replicate n zeroSec)).length=n * 64 from hfl];exact Nat.le_refl _)
end Go.Proofs.YtpphoeimakjjdaaGreatDoor
/-
  WALKS: layer 9: a disk's image; a disk of an image.
-/
namespace Go.Proofs.YtpphoeimakjjdaaGreatDoor
set_option maxRecDepth 100000
set_option maxHeartbeats 4000000
open Go.RowKit

def ImgRel (w:World) (l:List B8) (u i:Value) (wr:World):Prop :=
 ∃ (k:Nat) (vs:List Value),i=.int .i64 (k:Int)∧k≤l.length∧RdsY wr w.heap.size u vs (l.take k)∧Mod [] w wr
theorem el_new {w w':World} {s:B8} (h:s.length=64) (m:Mod [] (w.alloc (.cells (s.map y8).toArray 114 (0,0))) w'):ElY w' w.heap.size (.slice (some ⟨w.heap.size,0,none⟩) 64 64) s:=by
 have hb:=heap_alloc_new w (.cells (s.map y8).toArray 114 (0,0))
 have hb2:=m.at_ hb (by simp)
 refine ⟨⟨by rw [h];decide,.inr ⟨w.heap.size,0,64,by rw [h],⟨by omega,by decide⟩,lt_of_block hb2,fun i hi=>?_⟩⟩,fun k hk=>?_⟩
 · rw [Nat.zero_add,blk_cell hb2]
   have:=map_y8_get s hi
   simpa using this
 · simp [ob,Value.ownBlock] at hk
   subst hk
   exact ⟨Nat.le_refl _,lt_of_block hb2⟩
theorem image_any {w:World} {pd bs:Nat} {d:Dk} (h:DkM w pd bs d) :
 Calls Tryz.prog 36 #[.pointer (some ⟨pd,0,none⟩)] w fun e w'=>∃ v vs,e=.returned v∧RdsY w' w.heap.size v vs d.secs∧Mod [] w w':=by
 have hle:=dlen_any h
 have hmost:=h.ok.most
 have HH:=hide h
 clear h
 go_enter Tryz.func36,Tryz.ntmps36
 go_wp2_with (go_at_call 41;refine hle.mono ?_;rintro e w1 ⟨rfl,rfl⟩)
 go_loopw [3,8] (fun u i wr=>ImgRel w1 d.secs u i wr) (fun _ i _=>d.secs.length - (intOf i).toNat)
 case atStart=>exact ⟨0,[],rfl,Nat.zero_le _,RdsY.nil _ _,Mod.refl _ _⟩
 case round =>
  obtain ⟨k,vs,rfl,hk,hrow,hm⟩:=hrel
  obtain ⟨qu,cu,rfl,hmx⟩:=hrow.shape
  have hlk:(d.secs.take k).length=k:=by simp;omega
  by_cases hlt:k<d.secs.length
  · have h:=HH.out.gr (Gr.refl _) |>.mod hm (by simp) (by simp)
    obtain ⟨c,hb,hr⟩:=h.blk
    obtain ⟨c0,-,-,-,-,-⟩:=cellsL_dk hb
    have hrg:=h.range hlt
    have hl64:=h.ok.all k hlt
    have htk:d.secs.take (k+1)=d.secs.take k++[d.secs.getD k []]:=by
     rw [List.take_add_one]
     simp [hlt]
    have HT:=hide htk
    rw [hlk] at hrow
    have HR:=hide hrow
    rw [hlk]
    generalize hs:d.secs.getD k []=s at hrg hl64
    have HS:=hide hs
    have hsz:(Tryz.prog.info? 114).map (·.size)=some (s.map y8).length:=by rw [List.length_map,hl64];kernel_rfl
    have hsz2:(Tryz.prog.info? 114).map (·.size)=some (s.map y8).toArray.size:=by rw [List.size_toArray];exact hsz
    have hs64:Hid (64=(s.map y8).toArray.size):=hide (by rw [List.size_toArray,List.length_map,hl64])
    have hall:=all_y8 s
    have HN:=hide hl64
    obtain ⟨S,hS⟩:∃ S,(s.map y8).toArray=S:=⟨_,rfl⟩
    rw [hS] at hsz2 hs64 hall
    have HSS:=hide hS
    clear hS hs htk hrow h hb hr hl64
    have hel:=el_new HN.out (Mod.refl [] (wr.alloc (.cells (s.map y8).toArray 114 (0,0))))
    have t1:=hide trivial
    have t2:=hide trivial
    have t3:=hide trivial
    go_wp2_with
     (first
       | (have tk:=t1;refine wpList_load_mid rfl 114 _ rfl bs (k * 64) rfl (s.map y8) _ hrg Tryz.underlying114 rfl hsz ?_;rw [HSS.out];clear t1 tk)
       | (have tk:=t2;refine wpList_store_new rfl 114 _ _ rfl _ S rfl rfl hsz2 hs64.out hall ?_;clear t2 tk)
       | (at_builtin;have tk:=t3;refine wpList_app_rs _ rfl _ _ rfl w1.heap.size (.slice qu k cu) vs (d.secs.take k) rfl ((HR.out.mod ((Mod.refl [] wr).alloc _) (by simp)).mod ((Mod.refl [] _).alloc _) (by simp)) (wr.heap.size+1) (.slice (some ⟨wr.heap.size,0,none⟩) 64 64) s rfl (alloc_here (by simp)) rfl (((by rw [HSS.out] at hel;exact hel:ElY (wr.alloc (.cells S 114 (0,0))) wr.heap.size (.slice (some ⟨wr.heap.size,0,none⟩) 64 64) s).base hm.size).gr ((Gr.refl _).alloc _)) (fun x hx e=>by have h1:=(HR.out.blk x e).2;simp [ob,Value.ownBlock] at hx;omega) (by rw [hlk];omega) (by have:=hm.size;simp;omega) ?_;intro g cap w7 hrow7 hm7 hg7 hg8;clear t3 tk)
       | fail)
    go_roundw
    case rel =>
     refine ⟨k+1,vs++[.slice (some ⟨wr.heap.size,0,none⟩) 64 64],by go_num,by omega,?_,?_⟩
     · rw [HT.out,HS.out]
       rw [hlk] at hrow7
       exact hrow7
     · exact ((hm.alloc _).alloc _).trans hm7 (fun _ x _=>x) (fun x hx hlt2=>by have:=(HR.out.blk x hx).1;omega)
    case measure=>simp [intOf];omega
  · obtain rfl:k=d.secs.length:=by omega
    rw [List.take_length] at hrow
    have HR:=hide hrow
    clear hrow
    go_wp2_with fail
    go_ret
    rw [List.take_length]
    exact ⟨_,_,rfl,HR.out,hm⟩
end Go.Proofs.YtpphoeimakjjdaaGreatDoor
