/-
  WALKS: layer 9: a disk of an image.
-/
import Derived.Test.YtpphoeimakjjdaaGreatDoorMDisk3
import Derived.Deep.RegionLaw
import Derived.Test.YtpphoeimakjjdaaGreatDoorMWpL
import Derived.Great.BuildSlice
namespace Go.Proofs.YtpphoeimakjjdaaGreatDoor
set_option maxRecDepth 100000
set_option maxHeartbeats 4000000
open Go.RowKit

def okImg (l:List B8):Prop:=∀ i,i<l.length→(l.getD i []).length=64
def imgD (l:List B8):Dk:=⟨l,0,false,0,false⟩
def FromTo (w:World) (l:List B8) (e:Ending) (w':World):Prop :=
 ((1≤l.length∧l.length≤512∧okImg l)∧∃ pd bs,e=.returned (.tuple #[.pointer (some ⟨pd,0,none⟩),.int .i64 0])∧DkM w' pd bs (imgD l)∧w.heap.size≤pd∧w.heap.size≤bs∧Mod [] w w') ∨
 (¬ (1≤l.length∧l.length≤512∧okImg l)∧e=.returned (.tuple #[.pointer none,.int .i64 2])∧Mod [] w w')
theorem row_rebase {w:World} {base g n c size:Nat} {T:TypeId} {xs:List Value} (h:w.ownsRow base T size (.slice (some ⟨g,0,none⟩) n c) n xs):w.ownsRow g T size (.slice (some ⟨g,0,none⟩) n c) n xs:=by
 refine ⟨h.1,?_⟩
 rcases h.2 with ⟨hv,_⟩ | ⟨g',cap,cur,hv,_,hg,hr⟩
 · cases hv
 · simp only [Value.slice.injEq,Option.some.injEq,Addr.mk.injEq,and_true,true_and] at hv
   obtain ⟨rfl,rfl⟩:=hv
   exact .inr ⟨g,c,cur,rfl,Nat.le_refl _,hg,hr⟩
theorem step_app_sec {ops:Array Oper} {o:Oper} {a:Act} {w:World} {K:Act→World→Prop} {Q:Exit→Act→World→Prop} {E:Prop} (hgd:o.guard=none) (s x:Operand)
 (ho:o.op=.call { callee:=.builtin .append,args:=#[s,x],argTypes:=#[76,76] })
 (base:Nat) (v:Value) (l:List B8) (n:Nat) (hs:a.eval s=v) (hown:w.ownsRow base 114 64 v n (flatY l)) (k:Nat) (b:B8) (T:TypeId) (hx:a.eval x=.slice (some ⟨k,0,none⟩) 1 1)
 (hc:w.heap[k]?=some (.cells (b.map y8).toArray T (0,0))) (hb:b.length=64) (hsz:n≤512) (hbase:base≤w.heap.size)
 (h:∀ g cap w',w'.ownsRow base 114 64 (.slice (some ⟨g,0,none⟩) (n+1) cap) (n+1) (flatY (l++[b]))→Mod (ob v) w w'→(g∈ob v∨g=w.heap.size)→g<w'.heap.size→K (a.put o.dst (.slice (some ⟨g,0,none⟩) (n+1) cap)) w') :
 if Region.wanted o (yielded ops a.tmps)=true then Oper.wp Tryz.prog o a w K Q else E:=by
 have hw:Region.wanted o (yielded ops a.tmps)=true:=by simp [Region.wanted,hgd]
 rw [if_pos hw]
 obtain ⟨i0,hi0,hz0,hs0,hb0⟩:=info_parts (show (Tryz.prog.info? 114).map (fun i=>(i.zero,i.size,i.bytes))=some (some (.agg (List.replicate 64 (Value.int .u8 0)).toArray),64,64) by kernel_rfl)
 refine wp_append_lies w s x 76 ho base 114 i0 _ 64 64 Tryz.underlying76 hi0 hz0 hs0 hb0 rfl (by decide) v n (flatY l) hs hown ⟨k,0,none⟩ 1 1 (b.map y8) hx (by rw [List.length_map,hb]) ?_ (by simp [Value.oneCell',y8]) (by decide) (by unfold maxLen;omega) (by omega) hbase _ rfl ?_
 · intro j u hu
   rw [Addr.add_lit,Nat.zero_add,blk_cell hc]
   simpa using hu
 · intro g cap' w' hr hg hat _
   have hr':w'.ownsRow base 114 64 (.slice (some ⟨g,0,none⟩) (n+1) cap') (n+1) (flatY (l++[b])):=by
    rw [flatY_app,flatY_one]
    exact hr
   exact h g cap' w' hr' ((Mod.refl (ob v) w).grown hg (fun k e _=>by simp [ob,e])) (hat.imp (fun e=>by simp [ob,e]) id) (World.ownsRow.lt hr' g rfl).2
theorem step_build_sec {ops:Array Oper} {o:Oper} {a:Act} {w:World} {K:Act→World→Prop} {Q:Exit→Act→World→Prop} {E:Prop} (hgd:o.guard=none) (x:Operand) (ho:o.op=.buildSlice 76 1 #[(0,x)])
 (S:Array Value) (hx:a.eval x=.agg S) (hS:S.size=64) (h:K (a.put o.dst (.slice (some ⟨w.heap.size,0,none⟩) 1 1)) (w.alloc (.cells S 114 (0,0)))) :
 if Region.wanted o (yielded ops a.tmps)=true then Oper.wp Tryz.prog o a w K Q else E:=by
 have hw:Region.wanted o (yielded ops a.tmps)=true:=by simp [Region.wanted,hgd]
 rw [if_pos hw]
 obtain ⟨i0,hi0,hz0,hs0,hb0⟩:=info_parts (show (Tryz.prog.info? 114).map (fun i=>(i.zero,i.size,i.bytes))=some (some (.agg (List.replicate 64 (Value.int .u8 0)).toArray),64,64) by kernel_rfl)
 refine wp_buildSlice 76 114 1 #[(0,x)] ho S i0 _ Tryz.underlying76 hi0 hz0 (by rw [hs0];decide) (by rw [hs0];decide) ?_ h
 rw [hs0]
 obtain ⟨r,h1,h2,h3⟩:=Great.fill_dense (s:=64) (by decide) [.agg S] 0 ((Array.range (1 * 64)).map ((Value.agg (List.replicate 64 (Value.int .u8 0)).toArray).cells[· % (Value.agg (List.replicate 64 (Value.int .u8 0)).toArray).cells.size]!)) (fun v hv=>by simp at hv;subst hv;exact hS) (by simp)
 have e:r=S:=by
  refine Array.ext_getElem? fun k=>?_
  rw [h3 k]
  by_cases hk:k<64
  · have e1:k / 64=0:=Nat.div_eq_of_lt hk
    have e2:k % 64=k:=Nat.mod_eq_of_lt hk
    rw [if_pos ⟨by omega,by simp;omega⟩,e1,e2]
    simp [Value.cells]
  · have h4:S[k]?=none:=by simp;omega
    rw [if_neg (by simp;omega),h4]
    simp;omega
 rw [e] at h1
 rw [← h1]
 simp [hx]
theorem rd64 {w:World} {v:Value} {b:B8} (hv:RdY w v b) (h64:b.length=64):∃ bb off cap,v=.slice (some ⟨bb,off,none⟩) 64 cap∧(64≤cap∧cap≤maxLen)∧bb<w.heap.size∧w.rangeAt bb off (b.map y8):=by
 rcases hv.2 with ⟨_,_,_,rfl⟩ | ⟨bb,off,cap,rfl,hcap,hbb,hcell⟩
 · simp at h64
 · rw [h64] at hcap
   refine ⟨bb,off,cap,by rw [h64],hcap,hbb,fun j v hj=>?_⟩
   have hjl:j<b.length:=by have:=(List.getElem?_eq_some_iff.1 hj).1;rw [List.length_map] at this;exact this
   rw [map_y8_get b hjl] at hj
   cases hj
   exact hcell j hjl
def TF (pd eb off:Nat) (u:Value) (b:B8) (w:World):Prop:=w.cell? ⟨pd,0,none⟩=some u∧w.rangeAt eb off (b.map y8)
def FromRel (w:World) (l:List B8) (i:Value) (wr:World):Prop :=
 ∃ (k:Nat) (u:Value),i=.int .i64 (k:Int)∧k≤l.length∧wr.heap[w.heap.size]?=some (.cells #[u,.int .i64 0,.bool false,.int .i64 0,.bool false] 78 (0,0)) ∧
   wr.ownsRow (w.heap.size+1) 114 64 u k (flatY (l.take k))∧(∀ j,j<k→(l.getD j []).length=64)∧Mod [] w wr∧w.heap.size+1≤wr.heap.size
set_option linter.unusedSimpArgs false in
theorem from_any {w:World} {base:Nat} {v:Value} {vs:List Value} {l:List B8} (hl:RdsY w base v vs l) :
 Calls Tryz.prog 38 #[v] w fun e w'=>FromTo w l e w':=by
 obtain ⟨q,c,rfl,hmx⟩:=hl.shape
 have hfi:=fits_any (l.length:Int) w
 by_cases hfit:1≤l.length∧l.length≤512
 · rw [show (decide (1≤(l.length:Int))&&decide ((l.length:Int)≤512))=true by simp;omega] at hfi
   obtain ⟨hf1,hf2⟩:=hfit
   have HL:=hide hl
   clear hl
   go_enter Tryz.func38,Tryz.ntmps38
   go_wp2_with (go_at_call 40;refine hfi.mono ?_;rintro e w1 ⟨rfl,rfl⟩)
   have hpd:=heap_alloc_new w1 (.cells #[.slice none 0 0,.int .i64 0,.bool false,.int .i64 0,.bool false] 78 (0,0))
   have hsz1:(w1.alloc (.cells #[.slice none 0 0,.int .i64 0,.bool false,.int .i64 0,.bool false] 78 (0,0))).heap.size=w1.heap.size+1:=by simp
   have HP:=Hj2 hpd hsz1
   clear hpd hsz1
   go_loopw [15] (fun i wr=>FromRel w1 l i wr) (fun i _=>l.length - (intOf i).toNat)
   case atStart =>
    exact ⟨0,.slice none 0 0,rfl,Nat.zero_le _,HP.out.1,World.ownsRow_nil _ _ _ _,fun j hj=>absurd hj (Nat.not_lt_zero _),(Mod.refl _ _).alloc _,by rw [HP.out.2];exact Nat.le_refl _⟩
   case round =>
    obtain ⟨k,u,rfl,hk,hbk,hrow,hall,hm,hsz⟩:=hrel
    have c0:wr.cell? ⟨w1.heap.size,0,none⟩=some u:=blk_cell hbk 0
    have cf:wr.frozen? ⟨w1.heap.size,0,none⟩=false:=blk_free hbk 0
    by_cases hlt:k<l.length
    · have hvb:=(HL.out.el k hlt).2
      obtain ⟨bb,rfl,hbb,cs,hel⟩:=(HL.out.mod hm (by simp)).at_ k hlt
      generalize hsv:vs.getD k nilS=sv at cs hel hvb
      clear hsv
      obtain ⟨hrd,-⟩:=hel
      obtain ⟨qs,cc,rfl⟩:=hrd.len
      by_cases h64:(l.getD k []).length=64
      · obtain ⟨eb,off,cap,hpe,hcap,heb,hce⟩:∃ eb off cap,Value.slice qs (l.getD k []).length cc=.slice (some ⟨eb,off,none⟩) 64 cap∧(64≤cap∧cap≤maxLen)∧eb<wr.heap.size∧wr.rangeAt eb off ((l.getD k []).map y8):=rd64 hrd h64
        rw [hpe] at cs hvb
        have heb1:eb<w1.heap.size:=(hvb eb (by simp [ob,Value.ownBlock])).2
        clear hvb
        generalize hb:l.getD k []=b at hce h64
        have HB:=Hj2 hb h64
        clear hb h64 hpe hrd
        go_upto_region 9 with fail
        have hT:TF w1.heap.size eb off u b wr.drew:=⟨((Gr.refl wr).drew).kept c0,(World.rangeAt_drew _ _ _ _).2 hce⟩
        have hszb:(Tryz.prog.info? 114).map (·.size)=some (b.map y8).length:=by rw [List.length_map,HB.out.2];kernel_rfl
        have hall8:=all_y8 b
        have har:∀ w,(Instr.arrayAt 114 (.slice (some ⟨eb,off,none⟩) 64 cap)).run Tryz.prog w=.ok (.pointer (some ⟨eb,off,none⟩)) w:=fun W=>by kernel_rfl
        clear hfi hmx hbb hcap heb cs
        refine wpL_start (s:=12) (T:=TF w1.heap.size eb off u b) (by kernel_rfl) (fun hc=>?_)
        refine wpL_pure (i:=0) (oi:={ dst:=some 22,op:=Op.move (Operand.tmp 4),type:=22,pos := "disk.go:38",after:=#[],guard:=none }) (v:=?_) rfl (by kernel_rfl) (by kernel_rfl) (by kernel_rfl) (fun _ _ _ h=>h) (by decide) hc (Or.inl ⟨by rfl,?_⟩) (fun _=>hT) (fun hc2=>?_)
        rotate_left
        · (intro w _;go_simp;try with_reducible rfl)
        clear hc;have hc:=hc2;clear hc2
        try simp only [Act.put,List.setIfInBounds_toArray,List.set_cons_zero,List.set_cons_succ]
        refine wpL_pure (i:=1) (oi:={ dst:=some 23,op:=Op.move (Operand.tmp 4),type:=22,pos := "disk.go:38",after:=#[],guard:=none }) (v:=?_) rfl (by kernel_rfl) (by kernel_rfl) (by kernel_rfl) (fun _ _ _ h=>h) (by decide) hc (Or.inl ⟨by rfl,?_⟩) (fun _=>hT) (fun hc2=>?_)
        rotate_left
        · (intro w _;go_simp;try with_reducible rfl)
        clear hc;have hc:=hc2;clear hc2
        try simp only [Act.put,List.setIfInBounds_toArray,List.set_cons_zero,List.set_cons_succ]
        refine wpL_pure (i:=2) (oi:={ dst:=some 24,op:=Op.nilCheck (Operand.tmp 23),type:=0,pos := "disk.go:38",after:=#[gD 1],guard:=none }) (v:=?_) rfl (by kernel_rfl) (by kernel_rfl) (by kernel_rfl) (fun _ _ _ h=>h) (by decide) hc (Or.inl ⟨by rfl,?_⟩) (fun _=>hT) (fun hc2=>?_)
        rotate_left
        · (intro w _;go_simp;try with_reducible rfl)
        clear hc;have hc:=hc2;clear hc2
        try simp only [Act.put,List.setIfInBounds_toArray,List.set_cons_zero,List.set_cons_succ]
        refine wpL_pure (i:=3) (oi:={ dst:=some 25,op:=Op.fieldAddr 78 (Operand.tmp 24) 0,type:=0,pos := "disk.go:38",after:=#[gD 2],guard:=none }) (v:=?_) rfl (by kernel_rfl) (by kernel_rfl) (by kernel_rfl) (fun _ _ _ h=>h) (by decide) hc (Or.inl ⟨by rfl,?_⟩) (fun _=>hT) (fun hc2=>?_)
        rotate_left
        · (intro w _;go_simp;try with_reducible rfl)
        clear hc;have hc:=hc2;clear hc2
        try simp only [Act.put,List.setIfInBounds_toArray,List.set_cons_zero,List.set_cons_succ]
        refine wpL_take (T':=TF w1.heap.size eb off u b) (i:=4) (oi:={ dst:=some 26,op:=Op.load 76 (Operand.tmp 25),type:=76,pos := "disk.go:38",after:=#[gD 3],guard:=none }) (v:=?_) rfl (by kernel_rfl) (by kernel_rfl) (by kernel_rfl) (fun _ _ _ h=>h) (by decide) (fun l2 w hc3 hu hs=>hs (by
         cases h12:l2.getD 12 false with
         | false=>exact getD_in (by rw [hc3.size];decide) h12
         | true =>
           have a0:=hc3.step (k:=9) (by kernel_rfl) h12
           have a1:=hc3.step (k:=4) (by kernel_rfl) a0
           rw [getD_tf hu] at a1
           cases a1)) hc (Or.inl ⟨by rfl,?_⟩) (fun _=>hT) (fun hc2=>?_)
        rotate_left
        · (intro w hSw;obtain ⟨hs1,-⟩:=hSw;go_simp;try with_reducible rfl)
        clear hc;have hc:=hc2;clear hc2
        try simp only [Act.put,List.setIfInBounds_toArray,List.set_cons_zero,List.set_cons_succ]
        refine wpL_pure (i:=5) (oi:={ dst:=some 27,op:=Op.move (Operand.tmp 6),type:=71,pos := "disk.go:38",after:=#[],guard:=none }) (v:=?_) rfl (by kernel_rfl) (by kernel_rfl) (by kernel_rfl) (fun _ _ _ h=>h) (by decide) hc (Or.inl ⟨by rfl,?_⟩) (fun _=>hT) (fun hc2=>?_)
        rotate_left
        · (intro w _;go_simp;try with_reducible rfl)
        clear hc;have hc:=hc2;clear hc2
        try simp only [Act.put,List.setIfInBounds_toArray,List.set_cons_zero,List.set_cons_succ]
        refine wpL_pure (i:=6) (oi:={ dst:=some 28,op:=Op.sliceToArrayPointer 114 (Operand.tmp 27),type:=0,pos := "disk.go:38",after:=#[gD 5],guard:=none }) (v:=?_) rfl (by kernel_rfl) (by kernel_rfl) (by kernel_rfl) (fun _ _ _ h=>h) (by decide) hc (Or.inl ⟨by rfl,?_⟩) (fun _=>hT) (fun hc2=>?_)
        rotate_left
        · (intro w _;go_simp;try with_reducible rfl)
        clear hc;have hc:=hc2;clear hc2
        try simp only [Act.put,List.setIfInBounds_toArray,List.set_cons_zero,List.set_cons_succ]
        refine wpL_take (T':=TF w1.heap.size eb off u b) (i:=7) (oi:={ dst:=some 29,op:=Op.load 114 (Operand.tmp 28),type:=114,pos := "disk.go:38",after:=#[gD 6],guard:=none }) (v:=_) rfl (by kernel_rfl) (by kernel_rfl) (by kernel_rfl) (fun _ _ _ h=>h) (by decide) (fun l2 w hc3 hu hs=>hs (by
         cases h12:l2.getD 12 false with
         | false=>exact getD_in (by rw [hc3.size];decide) h12
         | true =>
           have a0:=hc3.step (k:=9) (by kernel_rfl) h12
           have a1:=hc3.step (k:=8) (by kernel_rfl) a0
           have a2:=hc3.step (k:=7) (by kernel_rfl) a1
           rw [getD_tf hu] at a2
           cases a2)) hc (yieldsIf_load_mid (by rfl) 114 _ rfl eb off rfl (b.map y8) _ (fun w hw=>hw.2) Tryz.underlying114 rfl hszb) (fun _=>hT) (fun hc2=>?_)
        clear hc;have hc:=hc2;clear hc2
        try simp only [Act.put,List.setIfInBounds_toArray,List.set_cons_zero,List.set_cons_succ]
        refine wpL_ready (rs:=[8]) (by kernel_rfl) (by simp) ?_ hc
        intro i hi hc2
        simp only [List.mem_cons,List.mem_nil_iff,or_false] at hi
        subst hi
        clear hc;have hc:=hc2;clear hc2
        refine wpOp_step (o:={ dst:=some 30,op:=Op.buildSlice 76 1 #[(0,Operand.tmp 29)],type:=76,pos := "disk.go:38",after:=#[gD 7],guard:=none }) rfl (fun K hK=>?_)
        have HK:=hide hK
        clear hK
        refine step_build_sec rfl _ rfl (b.map y8).toArray rfl (by rw [List.size_toArray,List.length_map,HB.out.2]) ?_
        have hT2:TF w1.heap.size eb off u b (wr.drew.alloc (.cells (b.map y8).toArray 114 (0,0))):=⟨((Gr.refl wr.drew).alloc _).kept hT.1,World.rangeAt_alloc hT.2 _⟩
        refine HK.out _ _ ⟨fun _=>hT2,?_⟩
        clear HK K hT
        have hT:=hT2
        clear hT2
        try simp only [Act.put,List.setIfInBounds_toArray,List.set_cons_zero,List.set_cons_succ]
        refine wpL_ready (rs:=[9]) (by kernel_rfl) (by simp) ?_ hc
        intro i hi hc2
        simp only [List.mem_cons,List.mem_nil_iff,or_false] at hi
        subst hi
        clear hc;have hc:=hc2;clear hc2
        refine wpOp_step (o:={ dst:=some 31,op:=Op.call { callee:=Callee.builtin Builtin.append,args:=#[Operand.tmp 26,Operand.tmp 30],argTypes:=#[76,76] },type:=76,pos := "disk.go:38",after:=#[gD 4,gD 8],guard:=none }) rfl (fun K hK=>?_)
        have HK:=hide hK
        clear hK
        refine step_app_sec rfl _ _ rfl (w1.heap.size+1) u (l.take k) k rfl ((((Mod.refl [] wr).drew).alloc _).row hrow (fun _ _ e=>by cases e)) wr.heap.size b _ rfl (alloc_here rfl) HB.out.2 (by omega) (by simp;omega) ?_
        intro g cap2 w7 hrow7 hm7 hg7 hg8
        have hou:∀ x,x∈ob u→w1.heap.size+1≤x∧x<wr.heap.size:=fun x hx=>World.ownsRow.lt hrow x (by simpa [ob] using hx)
        have hT2:TF w1.heap.size eb off u b w7:=⟨hm7.kept hT.1 (fun e=>by have:=(hou _ e).1;simp at this;omega),fun j v hj=>hm7.kept (hT.2 j v hj) (fun e=>by have:=(hou _ e).1;simp at this;omega)⟩
        refine HK.out _ _ ⟨fun _=>hT2,?_⟩
        clear HK K hT
        have hT:=hT2
        clear hT2
        try simp only [Act.put,List.setIfInBounds_toArray,List.set_cons_zero,List.set_cons_succ]
        refine wpL_pure (i:=10) (oi:={ dst:=some 32,op:=Op.nilCheck (Operand.tmp 22),type:=0,pos := "disk.go:38",after:=#[gD 0,gP 0,gP 1,gP 2,gP 3,gP 4,gP 5,gP 6,gP 7,gP 8,gP 9],guard:=none }) (v:=?_) rfl (by kernel_rfl) (by kernel_rfl) (by kernel_rfl) (fun _ _ _ h=>h) (by decide) hc (Or.inl ⟨by rfl,?_⟩) (fun _=>hT) (fun hc2=>?_)
        rotate_left
        · (intro w _;go_simp;try with_reducible rfl)
        clear hc;have hc:=hc2;clear hc2
        try simp only [Act.put,List.setIfInBounds_toArray,List.set_cons_zero,List.set_cons_succ]
        refine wpL_pure (i:=11) (oi:={ dst:=some 33,op:=Op.fieldAddr 78 (Operand.tmp 32) 0,type:=0,pos := "disk.go:38",after:=#[gD 10,gP 0,gP 1,gP 2,gP 3,gP 4,gP 5,gP 6,gP 7,gP 8,gP 9],guard:=none }) (v:=?_) rfl (by kernel_rfl) (by kernel_rfl) (by kernel_rfl) (fun _ _ _ h=>h) (by decide) hc (Or.inl ⟨by rfl,?_⟩) (fun _=>hT) (fun hc2=>?_)
        rotate_left
        · (intro w _;go_simp;try with_reducible rfl)
        clear hc;have hc:=hc2;clear hc2
        try simp only [Act.put,List.setIfInBounds_toArray,List.set_cons_zero,List.set_cons_succ]
        refine wpL_ready (rs:=[12]) (by kernel_rfl) (by simp) ?_ hc
        intro i hi hc2
        simp only [List.mem_cons,List.mem_nil_iff,or_false] at hi
        subst hi
        clear hc;have hc:=hc2;clear hc2
        refine wpOp_step (o:={ dst:=none,op:=Op.store 76 (Operand.tmp 33) (Operand.tmp 31),type:=0,pos := "disk.go:38",after:=#[gD 11,gD 9,gC 9,gP 0,gP 1,gP 2,gP 3,gP 4,gP 5,gP 6,gP 7,gP 8,gP 9],guard:=none }) rfl (fun K hK=>?_)
        have HK:=hide hK
        clear hK
        have hb7:=hm7.at_ (blk_alloc (((Mod.refl [] wr).drew).at_ hbk (by simp)) (.cells (b.map y8).toArray 114 (0,0))) (fun e=>by have:=(hou _ e).1;omega)
        have d0:w7.cell? ⟨w1.heap.size,0,none⟩=some u:=blk_cell hb7 0
        have df:w7.frozen? ⟨w1.heap.size,0,none⟩=false:=blk_free hb7 0
        clear hc
        go_simp
        refine HK.out _ _ ⟨fun h=>by simp at h,?_⟩
        clear HK K
        refine wpL_done (by kernel_rfl) ?_
        have hsz7:=hm7.size
        have hsza:(wr.drew.alloc (.cells (b.map y8).toArray 114 (0,0))).heap.size=wr.heap.size+1:=by simp
        go_wp2_with fail
        go_roundw
        case rel =>
         have hm8:Mod [w1.heap.size] w7 (w7.setCell ⟨w1.heap.size,0,none⟩ (.slice (some ⟨g,0,none⟩) (k+1) cap2)):=(Mod.refl _ _).setCell (fun _=>by simp) _
         have htk:l.take (k+1)=l.take k++[b]:=by
          rw [← HB.out.1,List.take_add_one]
          simp [hlt]
         refine ⟨k+1,.slice (some ⟨g,0,none⟩) (k+1) cap2,by go_num,by omega,blk_set hb7 0 _,?_,fun j hj=>?_,?_,?_⟩
         · rw [htk]
           exact hm8.row hrow7 (fun x hx e=>by have:=(World.ownsRow.lt hrow7 x hx).1;simp at e;omega)
         · rcases Nat.lt_or_ge j k with h1 | h1
           · exact hall j h1
           · obtain rfl:j=k:=by omega
             rw [HB.out.1]
             exact HB.out.2
         · exact ((hm.drew.alloc _).trans (U:=[]) hm7 (fun _ x _=>x) (fun x hx hlt2=>by have:=(hou _ hx).1;omega)).trans hm8 (fun _ x _=>x) (fun x hx hlt2=>by simp at hx;omega)
         · have:=hm8.size
           omega
        case measure=>simp [intOf];omega
      · have hneq:decide ((((l.getD k []).length:Nat):Int)=64)=false:=by rw [decide_eq_false_iff_not];omega
        have hbl:=hrd.1
        have HH:=Hj2 h64 hm
        have hneq2:((((l.getD k []).length:Nat):Int) != 64)=true:=by rw [bne_iff_ne];omega
        generalize hn:(l.getD k []).length=n at cs hneq hbl hneq2
        clear hrd hvb h64 hm hrow hall hbk
        go_wp2_with fail
        go_ret2
        exact .inr ⟨fun x=>HH.out.1 (x.2.2 k hlt),rfl,HH.out.2⟩
    · obtain rfl:k=l.length:=by omega
      rw [List.take_length] at hrow
      have HH:=Hj4 hbk hrow hall hm
      clear hbk hrow hall hm
      go_wp2_with fail
      go_ret2
      obtain ⟨hbk,hrow,hall,hm⟩:=HH.out
      refine .inl ⟨⟨hf1,hf2,hall⟩,?_⟩
      rcases hrow.2 with ⟨_,h0⟩ | ⟨g,cap,cur,rfl,hg0,_⟩
      · omega
      · refine ⟨w1.heap.size,g,rfl,⟨⟨cap,hbk,row_rebase hrow⟩,⟨hall,hf1,hf2,fun e=>Bool.noConfusion e,by simp [imgD]⟩,by omega⟩,Nat.le_refl _,by omega,hm⟩
 · rw [show (decide (1≤(l.length:Int))&&decide ((l.length:Int)≤512))=false by simp;omega] at hfi
   have HF:=hide hfit
   clear hfit
   go_enter Tryz.func38,Tryz.ntmps38
   go_wp2_with (go_at_call 40;refine hfi.mono ?_;rintro e w1 ⟨rfl,rfl⟩)
   go_ret2
   exact .inr ⟨fun x=>HF.out ⟨x.1,x.2.1⟩,rfl,Mod.refl _ _⟩
end Go.Proofs.YtpphoeimakjjdaaGreatDoor
