/-
  Recrd Scan: see the remarks below.
-/
import Derived.Test.YtpphoeimakjjdaaGreatDoorMWpL
import Derived.Test.YtpphoeimakjjdaaGreatDoorMPart
import Derived.Test.YtpphoeimakjjdaaGreatDoorMStepC
import Derived.Deep.RegionLaw
import Derived.OrdersHeld
import Derived.Defers
import Derived.Recover
/-
  WALKS: layer 10: a scan's record.
-/
namespace Go.Proofs.YtpphoeimakjjdaaGreatDoor
set_option maxRecDepth 100000
set_option maxHeartbeats 4000000
open Go.RowKit Go.Shelf

def RecTo (w:World) (ps:Nat) (v:Value) (gen used:Nat) (o:Option (B8 × Nat)) (e:Ending) (w':World):Prop :=
 match o with
 | none=>e=.panicked [{ v:=brokenV,recovered:=false }]∧Mod [] w w'
 | some (d,n)=>∃ q c,e=.returned (.slice q d.length c)∧RowY w' w.heap.size (.slice q d.length c) d∧ScM w' ps v gen (used+n)∧Mod [ps] w w'
theorem rest_none {l:List B8} {gen at_ seq parts k i:Nat} (h:partS l gen (at_+i) seq i parts=none):restS l gen at_ seq parts (k+1) i=none:=by
 unfold restS;rw [h];rfl
theorem rest_some {l:List B8} {gen at_ seq parts k i:Nat} {p:Prt} (h:partS l gen (at_+i) seq i parts=some p):restS l gen at_ seq parts (k+1) i=(restS l gen at_ seq parts k (i+1)).bind fun d=>some (p.data++d):=by
 conv=>lhs;unfold restS
 rw [h];rfl
def RecRel (w:World) (ps b1:Nat) (o1:Obj) (v:Value) (ls:List B8) (gen used seq parts:Nat) (O:Option (B8 × Nat)) (u i:Value) (wr:World):Prop :=
 ∃ (k:Nat) (d:B8),i=.int .i64 (k:Int)∧1≤k∧k≤parts∧RowY wr w.heap.size u d∧b1 ∉ ob u∧d.length≤47 * k∧ScM wr ps v gen used∧Mod [] w wr∧wr.heap[b1]?=some o1∧Hid (O=(restS ls gen used seq parts (parts - k) k).bind fun r=>some (d++r,parts))
theorem record_any {w:World} {ps base:Nat} {v:Value} {vs:List Value} {ls:List B8} {gen used:Nat} (h:ScM w ps v gen used) (hl:RdsY w base v vs ls) (seq:Nat) (hus:used≤1000000) :
 Calls Tryz.prog 109 #[.pointer (some ⟨ps,0,none⟩),.int .i64 (seq:Int)] w fun e w'=>RecTo w ps v gen used (recS ls gen used seq) e w':=by
 have s2:w.cell? ⟨ps,2,none⟩=some (.int .i64 (used:Int)):=blk_cell h 2
 have hps:ps<w.heap.size:=lt_of_block h
 have hpt:=part_any h hl used seq 0 0
 obtain ⟨O,hO⟩:∃ O,recS ls gen used seq=O:=⟨_,rfl⟩
 rw [hO]
 cases hp:partS ls gen used seq 0 0 with
 | none =>
   have hn:O=none:=by rw [← hO];unfold recS;rw [hp];rfl
   rw [hp] at hpt
   have HN:=hide hn
   clear hn hO hp
   go_enter Tryz.func109,Tryz.ntmps109
   go_wp2_with (go_at_call 150;refine hpt.mono ?_;rintro e w1 ⟨rfl,hm1⟩)
   obtain rfl:=HN.out
   exact ⟨rfl,rfl,hm1⟩
 | some p =>
   have hn:O=(restS ls gen used seq p.parts (p.parts - 1) 1).bind fun d=>some (p.data++d,p.parts):=by rw [← hO];unfold recS;rw [hp];rfl
   rw [hp] at hpt
   obtain ⟨b0,-,hL,-,-,-,-⟩:=part_some hp
   obtain ⟨-,⟨hf1,hf2,hf3,hf4,hf5⟩,hf6,-⟩:=look_fits hL
   have HN:=hide hn
   clear hn hO hp hL
   obtain ⟨pg,pq,pi,pn,pd⟩:=p
   simp only at hf1 hf2 hf3 hf4 hf5 hf6 HN hpt
   go_enter Tryz.func109,Tryz.ntmps109
   go_wp2_with (go_at_call 150;refine hpt.mono ?_;rintro e w1 ⟨q1,c1,rfl,hr1,hm1⟩)
   obtain ⟨o1,ho1⟩:∃ o,o=(Obj.cells #[Value.int .i64 (pg:Int),.int .i64 (pq:Int),.int .i64 (pi:Int),.int .i64 (pn:Int),.slice q1 pd.length c1] 118 (0,0)):=⟨_,rfl⟩
   have hb1:=heap_alloc_new w1 o1
   have hap1:w1.heap.size ∉ ob (.slice q1 pd.length c1):=fun x=>by have:=(hr1.blk _ x).2;omega
   have hsz1:=hm1.size
   rw [← ho1]
   have HO:=hide ho1
   have HH:=Hj2 h hl
   clear ho1 hpt s2 h hl
   go_loopw [6,7] (fun u i wr=>RecRel w ps w1.heap.size o1 v ls gen used seq pn O u i wr) (fun _ i _=>pn - (intOf i).toNat)
   case atStart =>
    exact ⟨1,pd,rfl,Nat.le_refl _,by omega,hr1.gr ((Gr.refl w1).alloc _),hap1,by omega,(hm1.alloc o1).at_ HH.out.1 (by simp),hm1.alloc _,hb1,HN⟩
   case round =>
    clear hr1 hap1 hb1 HN
    obtain ⟨k,d,rfl,hk1,hk2,hrow,hap,hdl,hsc,hm,hblk,hrest⟩:=hrel
    rw [HO.out] at hblk
    have a2:wr.cell? ⟨ps,2,none⟩=some (.int .i64 (used:Int)):=blk_cell hsc 2
    have a3:wr.cell? ⟨w1.heap.size,3,none⟩=some (.int .i64 (pn:Int)):=blk_cell hblk 3
    have hlr:=HH.out.2.mod hm (by simp)
    obtain ⟨qu,cu,rfl⟩:=hrow.rd.len
    by_cases hlt:k<pn
    · have hpt:=fun {W:World} (g:Gr wr W)=>part_any (w:=W) ((g.mod []).at_ hsc (by simp)) (hlr.mod (g.mod []) (by simp)) (used+k) seq k pn
      have hcnt:pn - k=(pn - (k+1))+1:=by omega
      cases hpk:partS ls gen (used+k) seq k pn with
      | none =>
        have hO:O=none:=by rw [hrest.out,hcnt,rest_none hpk];rfl
        obtain rfl:=hO
        rw [hpk] at hpt
        have HR:=Hj4 hrow hsc hblk hpk
        have hw1:IntKind.i64.wrap ((used:Int)+(k:Int))=((used+k:Nat):Int):=by rw [IntWalk.i64_in _ (by omega)];omega
        clear hrow hsc hblk hpk hrest hlr hcnt
        go_wp2_with fail
        have hcast:(used:Int)+(k:Int)=((used+k:Nat):Int):=by omega
        have hp2:=(hpt (Gr.refl wr).drew)
        rw [← hcast] at hp2
        clear hcast hpt
        refine pB 999 (fun w'=>w'.cell? ⟨ps,2,none⟩=some (.int .i64 (used:Int))∧w'.cell? ⟨w1.heap.size,3,none⟩=some (.int .i64 (pn:Int))) (by exact ⟨((Gr.refl wr).drew).kept a2,((Gr.refl wr).drew).kept a3⟩) ?_
        refine pH 0 rfl (fun w hSw=>by (try dsimp only at hSw);go_simp;try with_reducible rfl) ?_
        refine pH 1 rfl (fun w hSw=>by (try dsimp only at hSw);go_simp;try with_reducible rfl) ?_
        refine pH 2 rfl (fun w hSw=>by (try dsimp only at hSw);go_simp;try with_reducible rfl) ?_
        refine pH 3 rfl (fun w hSw=>by (try dsimp only at hSw);go_simp;try with_reducible rfl) ?_
        refine pH 4 rfl (fun w hSw=>by (try dsimp only at hSw);go_simp;try with_reducible rfl) ?_
        refine pH 5 rfl (fun w hSw=>by (try dsimp only at hSw);go_simp;try with_reducible rfl) ?_
        refine pH 6 rfl (fun w hSw=>by (try dsimp only at hSw);go_simp;try with_reducible rfl) ?_
        refine pH 7 rfl (fun w hSw=>by (try dsimp only at hSw);go_simp;try with_reducible rfl) ?_
        refine pH 8 rfl (fun w hSw=>by (try dsimp only at hSw);go_simp;try with_reducible rfl) ?_
        refine pH 9 rfl (fun w hSw=>by (try dsimp only at hSw);go_simp;try with_reducible rfl) ?_
        refine pH 10 rfl (fun w hSw=>by (try dsimp only at hSw);go_simp;try with_reducible rfl) ?_
        refine pH 11 rfl (fun w hSw=>by (try dsimp only at hSw);go_simp;try with_reducible rfl) ?_
        refine pX 12 fun hHeld K hK=>?_
        go_simp
        refine hp2.mono ?_
        rintro e w2 ⟨rfl,hm2⟩
        exact ⟨rfl,rfl,(hm.then ((Mod.refl [] wr).drew)).then hm2⟩
      | some p2 =>
        obtain ⟨b2,-,hL2,-,-,hix,hpq⟩:=part_some hpk
        obtain ⟨-,-,hf6',hf7⟩:=look_fits hL2
        have hnn:O=(restS ls gen used seq pn (pn - (k+1)) (k+1)).bind fun r=>some ((d++p2.data)++r,pn):=by
         rw [hrest.out,hcnt,rest_some hpk]
         cases restS ls gen used seq pn (pn - (k+1)) (k+1) with
         | none=>rfl
         | some r=>simp
        have hpn:p2.parts=pn:=by
         rcases hpq with h | h
         · omega
         · exact h
        have hpos:0<p2.data.length:=by
         by_cases hlast:p2.index+1=p2.parts
         · rw [if_pos hlast] at hf7
           omega
         · rw [if_neg hlast] at hf7
           omega
        rw [hpk] at hpt
        have hcast:(used:Int)+(k:Int)=((used+k:Nat):Int):=by omega
        have hp2:=(hpt (Gr.refl wr).drew)
        rw [← hcast] at hp2
        have HR:=Hj5 hrow hsc hblk hnn hap
        clear hcast hpt hrow hsc hblk hpk hrest hlr hcnt hL2 hix hpq hf7 hnn hpn hap
        obtain ⟨g2,q2,i2,n2,D⟩:=p2
        simp only at hf6' hpos HR hp2
        go_wp2_with fail
        have hw2:IntKind.i64.wrap ((used:Int)+(k:Int))=(used:Int)+(k:Int):=IntWalk.i64_in _ (by omega)
        have hfd:∀ (a b c d:Value) (q:Option Addr) (n m:Nat) (w:World),(Instr.field 118 (.agg #[a,b,c,d,.slice q n m]) 4).run Tryz.prog w=.ok (.slice q n m) w:=fun _ _ _ _ _ _ _ _=>by kernel_rfl
        have t1:Hid True:=hide trivial
        have t2:Hid True:=hide trivial
        go_region_law (first
         | (have tk:=t1;refine step_call rfl 150 #[.tmp 24,.tmp 30,.tmp 31,.tmp 32,.tmp 34] #[162,3,3,3,3] rfl (enters_of Tryz.func150 (by kernel_rfl) rfl) #[.pointer (some ⟨ps,0,none⟩),.int .i64 ((used:Int)+(k:Int)),.int .i64 (seq:Int),.int .i64 (k:Int),.int .i64 (pn:Int)] (by first | (simp [Act.eval];done) | simp [Act.eval,Act.put]) ?_;refine hp2.mono ?_;rintro e w2 ⟨q3,c3,rfl,hr3,hm3⟩;refine ⟨_,rfl,?_⟩;clear t1 tk)
         | (have tk:=t2;refine step_app_y rfl (.tmp 23) (.tmp 36) rfl w.heap.size (.slice qu d.length cu) d (by first | (simp [Act.eval];done) | simp [Act.eval,Act.put]) ((HR.out.1.mod ((Mod.refl [] wr).drew) (by simp)).mod hm3 (by simp)) (.slice q3 D.length c3) D (by first | (simp [Act.eval];done) | simp [Act.eval,Act.put]) hr3.rd hpos (by omega) (by have h1:=hm3.size;have h2:=hm.size;exact Nat.le_trans h2 h1) ?_;intro g4 cap4 w4 hr4 hm4 hg4 hg4';clear t2 tk)
         | fail)
        all_goals
         have hsz3:=hm3.size
         have hm24:Mod (ob (.slice qu d.length cu)) wr w4:=(((Mod.refl (ob (.slice qu d.length cu)) wr).drew).then (hm3.mono (by simp))).then hm4
         have hro:=HR.out.1
         have hob:∀ x,x∈ob (.slice qu d.length cu)→w.heap.size≤x∧x<wr.heap.size:=fun x hx=>hro.blk x hx
         have hb1lt:w1.heap.size<wr.heap.size:=lt_of_block HR.out.2.2.1
         go_wp2_with fail
         go_roundw
         case rel =>
          refine ⟨k+1,d++D,by go_num,by omega,by omega,hr4,?_,by rw [List.length_append];omega,hm24.at_ HR.out.2.1 (fun x=>by have:=(hob _ x).1;omega),hm.trans hm24 (fun _ x _=>x) (fun x hx hlt2=>by have:=(hob _ hx).1;omega),?_,hide HR.out.2.2.2.1⟩
          · intro e
            have e2:w1.heap.size=g4:=by simpa [ob,Value.ownBlock] using e
            rcases hg4 with h5 | h5
            · exact HR.out.2.2.2.2 (e2 ▸ h5)
            · have h6:wr.drew.heap.size=wr.heap.size:=rfl
              omega
          · rw [HO.out]
            exact hm24.at_ HR.out.2.2.1 HR.out.2.2.2.2
         case measure=>simp [intOf];omega
    · obtain rfl:k=pn:=by omega
      have hO:O=some (d,k):=by rw [hrest.out,Nat.sub_self];simp [restS]
      obtain rfl:=hO
      have f2:=blk_free hsc 2
      have hus2:(used:Int)+(k:Int)≤2000000:=by omega
      have hw1:IntKind.i64.wrap ((used:Int)+(k:Int))=((used+k:Nat):Int):=by rw [IntWalk.i64_in _ (by omega)];omega
      have HR:=Hj2 hrow hsc
      clear hrow hsc hblk hrest hlr
      go_wp2_with fail
      go_region
      all_goals
       go_wp2_with fail
       go_ret
       have hm2:Mod [ps] wr ((wr.setCell ⟨ps,2,none⟩ (.int .i64 ((used:Int)+(k:Int)))).drew):=((Mod.refl [ps] wr).setCell (by simp) _).drew
       refine ⟨_,_,rfl,(HR.out.1.mod hm2 (fun x hx e=>?_)),?_,(hm.mono (by simp)).then hm2⟩
       · have:=(HR.out.1.blk x hx).1
         simp at e
         omega
       · have:=blk_set HR.out.2 2 (.int .i64 ((used:Int)+(k:Int)))
         unfold ScM
         rw [show ((used+k:Nat):Int)=(used:Int)+(k:Int) by omega]
         exact this
end Go.Proofs.YtpphoeimakjjdaaGreatDoor
/-
  WALKS: layer 10: Scan: records till one gives up; the panic is caught at the door.
-/
namespace Go.Proofs.YtpphoeimakjjdaaGreatDoor
set_option maxRecDepth 100000
set_option maxHeartbeats 4000000
open Go.RowKit Go.Shelf

theorem rest_fit {l:List B8} {gen at_ seq parts:Nat}:∀ (k i:Nat) {d:B8},restS l gen at_ seq parts k i=some d→0<k→at_+i+k≤l.length
 | 0,_,_,_,h=>absurd h (Nat.lt_irrefl 0)
 | k+1,i,d,h,_=>by
   cases hp:partS l gen (at_+i) seq i parts with
   | none=>rw [rest_none hp] at h;cases h
   | some p =>
     have hlt:=part_lt hp
     rw [rest_some hp] at h
     cases hr:restS l gen at_ seq parts k (i+1) with
     | none=>rw [hr] at h;cases h
     | some r =>
       rcases Nat.eq_zero_or_pos k with h0 | h0
       · omega
       · have:=rest_fit k (i+1) hr h0
         omega
theorem rec_fit {l:List B8} {gen at_ seq n:Nat} {d:B8} (h:recS l gen at_ seq=some (d,n)):at_+n≤l.length:=by
 have h1:=rec_pos h
 obtain ⟨p,d',hp,hr,_,rfl⟩:=rec_some h
 rcases Nat.eq_zero_or_pos (p.parts - 1) with h0 | h0
 · omega
 · have:=rest_fit _ _ hr h0
   omega
theorem scanF_none {l:List B8} {gen at_ seq:Nat} (h:recS l gen at_ seq=none):∀ f,scanF l gen f at_ seq=([],at_)
 | 0=>rfl
 | f+1=>by unfold scanF;rw [h]
theorem scanF_some {l:List B8} {gen at_ seq n:Nat} {d:B8} (h:recS l gen at_ seq=some (d,n)) (f:Nat):scanF l gen (f+1) at_ seq=(d::(scanF l gen f (at_+n) (seq+1)).1,(scanF l gen f (at_+n) (seq+1)).2):=by
 conv=>lhs;unfold scanF
 rw [h]
theorem brokenInfo (w:World):(Instr.typeAssert brokenV 20 166 true).run Tryz.prog w=.ok (.tuple #[.agg #[],.bool true]) w:=by kernel_rfl
theorem scan1_any {w:World} {bs bu ps used:Nat} {x:Value} (older:List PanicEntry) (h1:w.cell? ⟨bs,0,none⟩=some (.pointer (some ⟨ps,0,none⟩))) (h2:w.cell? ⟨ps,2,none⟩=some (.int .i64 (used:Int))) (h3:w.cell? ⟨bu,0,none⟩=some x) (h4:w.frozen? ⟨bu,0,none⟩=false) :
 CallsD Tryz.prog 108 #[.pointer (some ⟨bs,0,none⟩),.pointer (some ⟨bu,0,none⟩)] (.panicking ({ v:=brokenV,recovered:=false }::older)) w fun e u' w' =>
  e=.returned (.tuple #[])∧u'=.panicking ({ v:=brokenV,recovered:=true }::older)∧w'=(w.alloc (.cells #[] 166 (0,0))).setCell ⟨bu,0,none⟩ (.int .i64 (used:Int)):=by
 have l1:=((Gr.refl w).alloc (.cells #[] 166 (0,0))).kept h1
 have l2:=((Gr.refl w).alloc (.cells #[] 166 (0,0))).kept h2
 have l3:=((Gr.refl w).alloc (.cells #[] 166 (0,0))).kept h3
 have hlt:bu<w.heap.size:=World.block_lt_of_cell? w ⟨bu,0,none⟩ h3
 have l4:(w.alloc (.cells #[] 166 (0,0))).frozen? ⟨bu,0,none⟩=false:=by
  rw [← h4]
  exact World.frozen?_of_block (((Gr.refl w).alloc _).heap hlt)
 have hbr:=brokenInfo w
 generalize hB:brokenV=B at hbr ⊢
 refine callsD_of_wpS Tryz.func108 rfl fun c₀ cs hu=>?_
 apply wpS_seq
 apply wpS_region
 simp [wpOpsS,go_sem,recoverD,hu,Tryz.ntmps108,Exit.thenS,hbr]
 apply wpS_seq
 apply wpS_region
 simp [wpOpsS,go_sem,Exit.thenS]
 refine wpS_cond (t:=true) (by simp [Act.eval,Array.replicate]) ?_
 simp only [if_true]
 apply wpS_region
 simp [wpOpsS,go_sem,l1,l2,l3,l4,bodyPostS,results,Tryz.results108,Array.replicate]
def ScanTo (w:World) (r:List B8 × Nat) (e:Ending) (w':World):Prop :=
 ∃ q c vs,e=.returned (.tuple #[.slice q r.1.length c,.int .i64 (r.2:Int)])∧RowsY w' w.heap.size (.slice q r.1.length c) vs r.1∧r.1.length≤1000000∧r.2≤1000000∧Mod [] w w'
def ScanRel (w:World) (ps bs:Nat) (v:Value) (ls:List B8) (gen:Nat) (u:Value) (wr:World):Prop :=
 ∃ (vs:List Value) (recs:List B8) (at_:Nat),RowsY wr (w.heap.size+3) u vs recs∧ScM wr ps v gen at_∧at_≤ls.length∧recs.length≤at_∧wr.heap[bs]?=some (.cells #[.pointer (some ⟨ps,0,none⟩)] 162 (0,0)) ∧
   wr.heap[w.heap.size]?=some (.cells #[.int .i64 0] 3 (0,0))∧Mod [] w wr∧w.heap.size+3≤wr.heap.size ∧
   Hid (∀ f,ls.length<f+at_→(recs++(scanF ls gen f at_ recs.length).1,(scanF ls gen f at_ recs.length).2)=scanS ls gen)
theorem scan_any {w:World} {base:Nat} {v:Value} {vs:List Value} {ls:List B8} (hl:RdsY w base v vs ls) (hsz:ls.length≤1000000) (gen:Nat) :
 Calls Tryz.prog 77 #[v,.int .i64 (gen:Int)] w fun e w'=>ScanTo w (scanS ls gen) e w':=by
 obtain ⟨O,hO⟩:∃ O,scanS ls gen=O:=⟨_,rfl⟩
 rw [hO]
 have HO:=hide hO
 clear hO
 obtain ⟨q,c,rfl,hmx⟩:=hl.shape
 have HL:=Hj2 hl hsz
 clear hl hsz
 have hmf:∀ (fn:Fn) (first cap:Array Value) (w:World),(Instr.makeFunc fn first cap).run Tryz.prog w=.ok (.func fn first cap) w:=fun _ _ _ _=>rfl
 go_enter_defers Tryz.func77,Tryz.ntmps77
 go_wp2_with fail
 obtain ⟨W,hW⟩:∃ W,W=((w.alloc (.cells #[.int .i64 0] 3)).alloc (.cells #[.slice q ls.length c,.int .i64 (gen:Int),.int .i64 0] 164 (0,0))).alloc (.cells #[.pointer (some ⟨w.heap.size+1,0,none⟩)] 162 (0,0)):=⟨_,rfl⟩
 have hz:W.heap.size=w.heap.size+3:=by rw [hW];simp
 have hb0:W.heap[w.heap.size]?=some (.cells #[.int .i64 0] 3 (0,0)):=by
  rw [hW]
  exact ((((Mod.refl [] _).alloc _).alloc _).at_ (heap_alloc_new w _) (by simp))
 have hb1:ScM W (w.heap.size+1) (.slice q ls.length c) gen 0:=by
  rw [hW]
  have:=alloc_here (w:=w.alloc (.cells #[.int .i64 0] 3)) (n:=w.heap.size+1) (o:=.cells #[.slice q ls.length c,.int .i64 (gen:Int),.int .i64 0] 164 (0,0)) (by simp)
  exact (((Mod.refl [] _).alloc _).at_ this (by simp))
 have hb2:W.heap[w.heap.size+2]?=some (.cells #[.pointer (some ⟨w.heap.size+1,0,none⟩)] 162 (0,0)):=by
  rw [hW]
  exact alloc_here (by simp)
 have hmW:Mod [] w W:=by
  rw [hW]
  exact (((Mod.refl [] w).alloc _).alloc _).alloc _
 rw [← hW]
 rw [show w.heap.size+1+1=w.heap.size+2 from rfl]
 obtain ⟨hl,hsz⟩:=HL.out
 have hgW:w.heap.size≤W.heap.size:=by omega
 clear hW
 go_loopw [4] (fun u wr=>ScanRel w (w.heap.size+1) (w.heap.size+2) (.slice q ls.length c) ls gen u wr) (fun _ wr=>ls.length - (match wr.cell? ⟨w.heap.size+1,2,none⟩ with | some (.int _ i)=>i.toNat | _=>0))
 case atStart =>
  refine ⟨[],[],0,RowsY.nil _ _,hb1,Nat.zero_le _,Nat.le_refl _,hb2,hb0,hmW,by omega,hide (fun f hf=>?_)⟩
  rw [List.nil_append]
  exact scanF_fuel ls gen f (ls.length+1) 0 0 (by omega) (by omega)
 case round =>
  clear hb0 hb1 hb2 hmW hgW hz
  obtain ⟨ws,recs,at_,hrow,hsc,hat,hra,hb2,hb0,hm,hsz',hS⟩:=hrel
  have c0:wr.cell? ⟨w.heap.size+2,0,none⟩=some (.pointer (some ⟨w.heap.size+1,0,none⟩)):=blk_cell hb2 0
  have hlr:RdsY wr base (.slice q ls.length c) vs ls:=hl.mod hm (by simp)
  have hrc:=record_any hsc hlr recs.length (by omega)
  have a2:wr.cell? ⟨w.heap.size+1,2,none⟩=some (.int .i64 (at_:Int)):=blk_cell hsc 2
  have t1:Hid True:=trivial
  cases hr:recS ls gen at_ recs.length with
  | none =>
    have hO:O=(recs,at_):=by
     rw [← HO.out,← hS.out (ls.length+1) (by omega),scanF_none hr]
     simp
    rw [hr] at hrc
    obtain rfl:=hO
    have HH:=Hj4 hrow hsc hat hra
    clear hrow hsc hat hra hr hS HO hlr hl
    obtain ⟨q4,c4,rfl,hm4⟩:=HH.out.1.shape
    go_wp2_with (go_at_call 109;refine hrc.mono ?_;rintro e w2 ⟨rfl,hm2⟩)
    have k2:=hm2.at_ hb2 (by simp)
    have k0:=hm2.at_ hb0 (by simp)
    have k1:w2.cell? ⟨w.heap.size+1,2,none⟩=some (.int .i64 (at_:Int)):=blk_cell (hm2.at_ HH.out.2.1 (by simp)) 2
    refine leaves_cons (f:=108) (args:=#[.pointer (some ⟨w.heap.size+2,0,none⟩),.pointer (some ⟨w.heap.size,0,none⟩)]) (by simp) (by simp [go_sem]) ?_
    refine (scan1_any [] (blk_cell k2 0) k1 (blk_cell k0 0) (blk_free k0 0)).mono ?_
    rintro e u' w3 ⟨rfl,rfl,rfl⟩
    have k3:((w2.alloc (.cells #[] 166 (0,0))).setCell ⟨w.heap.size,0,none⟩ (.int .i64 (at_:Int))).cell? ⟨w.heap.size,0,none⟩=some (.int .i64 (at_:Int)):=blk_cell (blk_set (blk_alloc k0 _) 0 _) 0
    simp [Leaves,settle,results,Tryz.results77,go_sem,k3]
    refine ⟨q4,c4,ws,rfl,((HH.out.1.mod hm2 (by simp)).mod (S:=[w.heap.size]) (((Mod.refl _ w2).alloc _).setCell (fun _=>by simp) _) (fun k hk=>by simp at hk;omega)).base (by omega),by have:=HH.out.2.2.1;have:=HH.out.2.2.2;simp;omega,by have:=HH.out.2.2.1;simp;omega,?_⟩
    exact (((hm.then hm2).alloc _).setCell (fun h=>absurd h (Nat.lt_irrefl _)) _)
  | some dn =>
    obtain ⟨d,n⟩:=dn
    rw [hr] at hrc
    have hn:=rec_fit hr
    have hnp:=(rec_pos hr).2.2
    have hrec1:=(rec_pos hr).1
    obtain ⟨q4,c4,rfl,hm4⟩:=hrow.shape
    have HH:=Hj4 hrow hsc hat hra
    have hS2:Hid (∀ f,ls.length<f+(at_+n)→((recs++[d])++(scanF ls gen f (at_+n) (recs.length+1)).1,(scanF ls gen f (at_+n) (recs.length+1)).2)=scanS ls gen):=hide (fun f hf=>by
     rw [← hS.out (ls.length+1) (by omega),scanF_some hr ls.length,scanF_fuel ls gen ls.length f (at_+n) _ (by omega) (by omega)]
     simp)
    clear hS
    have HR:=hide hr
    have hm4':recs.length≤1000000:=by omega
    have hnat:at_+n≤ls.length∧recs.length+1≤at_+n:=⟨hn,by omega⟩
    clear hrow hsc hat hra hr hlr hl
    have t2:Hid True:=trivial
    go_wp2_with
     (first
       | (have tk:=t1;go_at_call 109;refine hrc.mono ?_;rintro e w2 ⟨q2,c2,rfl,hr2,hsc2,hm2⟩;clear t1 tk)
       | (at_builtin;have tk:=t2;refine wpList_app_ys _ rfl _ _ rfl (w.heap.size+3) (.slice q4 recs.length c4) ws recs rfl ((HH.out.1.mod hm2 (by simp)).mod ((Mod.refl [] w2).alloc _) (by simp)) w2.heap.size (.slice q2 d.length c2) d rfl (heap_alloc_new w2 _) rfl ((hr2.base hsz').gr ((Gr.refl w2).alloc _)) (fun k hk e=>by have h1:=hr2.blk k hk;have h2:=HH.out.1.blk k e;omega) hm4' (by have:=hm2.size;simp;omega) ?_;rintro g cap w4 hrow4 hm4 hg hglt;clear t2 tk)
       | fail)
    have hnb:∀ x,x<w.heap.size+3→x ∉ ob (.slice q4 recs.length c4):=fun x hx e=>by have:=(HH.out.1.blk x e).1;omega
    have hm24:Mod [w.heap.size+1] wr (w2.alloc (.cells #[.slice q2 d.length c2] 71 (0,0))):=hm2.alloc _
    go_roundw
    case rel =>
     refine ⟨_,recs++[d],at_+n,by simpa using hrow4,hm4.at_ (blk_alloc hsc2 _) (hnb _ (by omega)),hnat.1,by simp;exact hnat.2,hm4.at_ (hm24.at_ hb2 (by simp)) (hnb _ (by omega)),hm4.at_ (hm24.at_ hb0 (by simp)) (hnb _ (by omega)),?_,?_,by simpa using hS2⟩
     · exact (hm.trans (U:=[]) hm24 (fun _ x _=>x) (fun x hx hlt=>by simp at hx;omega)).trans hm4 (fun _ x _=>x) (fun x hx hlt=>by have:=(HH.out.1.blk x hx).1;omega)
     · have:=hm24.size
       have:=hm4.size
       omega
    case measure =>
     have e1:w4.cell? ⟨w.heap.size+1,2,none⟩=some (.int .i64 ((at_+n:Nat):Int)):=blk_cell (hm4.at_ (blk_alloc hsc2 _) (hnb _ (by omega))) 2
     rw [e1,a2]
     simp
     omega
end Go.Proofs.YtpphoeimakjjdaaGreatDoor
