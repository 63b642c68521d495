/-
  ARGUMENTS OPENED: records, calls on a ledger, slices of such. (Written by wip/gen_ledop.py.)
-/
import Derived.Test.YtpphoeimakjjdaaGreatDoorMCtr
import Derived.Test.YtpphoeimakjjdaaGreatDoorMLawEnd
import Derived.Deep.Slices
import Derived.ChangeSlices
import Derived.Lib.SmallJoins
namespace Go.Proofs.YtpphoeimakjjdaaGreatDoor
set_option maxRecDepth 100000
open Go.ChangeShapes Go.WideShapes Go.ChangeAt Go.RowKit Go.Deep Go.Joins

theorem cells_grt:Tryz.prog.cellsOf 40=6:=by kernel_rfl
theorem cells_rcd:Tryz.prog.cellsOf 42=12:=by kernel_rfl
theorem cells_int:Tryz.prog.cellsOf 3=1:=by kernel_rfl
theorem cells_str:Tryz.prog.cellsOf 9=1:=by kernel_rfl
theorem cells_mode:Tryz.prog.cellsOf 37=1:=by kernel_rfl
theorem cells_kind:Tryz.prog.cellsOf 36=1:=by kernel_rfl
theorem cells_ints:Tryz.prog.cellsOf 38=1:=by kernel_rfl
theorem bytes_int:Tryz.prog.bytesOf 3=8:=by kernel_rfl
def i64w (n:Int):Prop:=(Lit.int .i64 n).wf=true
theorem weightsAll_mem {H:Type} {P:Program} {e:TypeId} {d:DataW H} {l:List (DataW H)} (hd:d∈l) {n:Nat} (hn:n∈d.weights P e):n∈DataW.weightsAll P e l:=by
 induction l with
 | nil=>cases hd
 | cons x r ih =>
   simp only [DataW.weightsAll,List.mem_append]
   rcases List.mem_cons.1 hd with e | e
   · subst e;exact .inl hn
   · exact .inr (ih e)
theorem weights_cons {H:Type} {P:Program} {t:TypeId} {ts:List TypeId} {d:DataW H} {ds:List (DataW H)} (h:(DataW.weightsEach P (t::ts) (d::ds)).all (·≤reachBytes)=true) :
 (∀ n,n∈d.weights P t→n≤reachBytes)∧(DataW.weightsEach P ts ds).all (·≤reachBytes)=true:=by
 simp only [DataW.weightsEach,List.all_append,Bool.and_eq_true] at h
 exact ⟨fun n hn=>by have:=List.all_eq_true.1 h.1 n hn;simpa using this,h.2⟩
def inG (g:Grt):Prop:=(i64w g.id∧i64w g.holder∧i64w g.mode∧i64w g.term)∧g.path.size≤140737488355328∧g.stamp.length * 8≤140737488355328
def inR (r:Rcd):Prop:=inG r.grant∧(i64w r.kind∧i64w r.id∧i64w r.next∧i64w r.boots∧i64w r.longest)∧r.stamp.length * 8≤140737488355328
theorem trod_ints {H:Type} {enc:TypeId × Value→H} {W:World} {base:Nat} {held:Bool} {fuel:Nat} {cs:List Value} {x:DataW H × List MemPlace}
 (h:DataW.trod enc Tryz.prog W base (fun _=>true) held fuel 38 cs=some x) (hw:∀ n,n∈x.1.weights Tryz.prog 38→n≤reachBytes):∃ q c a,cs=[.slice q a.length c]∧RdN W (.slice q a.length c) a∧a.length * 8≤140737488355328:=by
 rcases open_ints Tryz.underlying38 Tryz.underlying3 cells_int h with ⟨rfl,rfl⟩ | ⟨ad,len,cap,zs,rfl,_,hl,hm,hz,rfl,hc,_⟩
 · exact ⟨none,0,[],rfl,⟨by simp,.inl ⟨none,0,rfl,rfl⟩⟩,by simp⟩
 · simp only [if_true] at hz
   have h1:((lits (H:=H) .i64 (zs.take len)).length+(lits (H:=H) .i64 (zs.drop len)).length) * Tryz.prog.bytesOf 3≤reachBytes:=by
    refine hw _ ?_
    simp only [DataW.weights,Tryz.underlying38]
    exact List.mem_cons_self
   rw [bytes_int] at h1
   simp only [lits,List.length_map,List.length_take,List.length_drop] at h1
   unfold reachBytes at h1
   have ht:(zs.take len).length=len:=by rw [List.length_take];omega
   by_cases h0:len=0
   · subst h0
     exact ⟨some ad,cap,[],rfl,⟨by simp,.inl ⟨_,_,rfl,rfl⟩⟩,by simp⟩
   · obtain ⟨b,off,spot⟩:=ad
     have hc0:=hc 0 (by omega)
     have hsp:spot=none:=by
      simp only [Addr.add] at hc0
      cases spot with
      | none=>rfl
      | some s =>
        exfalso
        revert hc0
        unfold World.cell?
        split <;> simp
     subst hsp
     refine ⟨some ⟨b,off,none⟩,cap,zs.take len,by rw [ht],⟨by rw [ht];omega,.inr ⟨b,off,cap,rfl,World.block_lt_of_cell? W _ hc0,fun i hi=>?_⟩⟩,by rw [ht];omega⟩
     rw [ht] at hi
     have q:=hc i (by omega)
     rw [Addr.add_lit] at q
     rw [q]
     simp [List.getD,hi]
theorem grt_fields:∃ f0 f1 f2 f3 f4 f5,Tryz.prog.underlying 40=some (.struct #[f0,f1,f2,f3,f4,f5])∧(f0.type=3∧f0.offset=0)∧(f1.type=3∧f1.offset=1)∧(f2.type=9∧f2.offset=2)∧(f3.type=37∧f3.offset=3)∧(f4.type=38∧f4.offset=4)∧(f5.type=3∧f5.offset=5) :=
 ⟨_,_,_,_,_,_,Tryz.underlying40,⟨rfl,rfl⟩,⟨rfl,rfl⟩,⟨rfl,rfl⟩,⟨rfl,rfl⟩,⟨rfl,rfl⟩,⟨rfl,rfl⟩⟩
set_option linter.unusedSimpArgs false in
theorem trod_grt {H:Type} {enc:TypeId × Value→H} {W:World} {base:Nat} {held:Bool} {fuel:Nat} {cs:List Value} {x:DataW H × List MemPlace}
 (h:DataW.trod enc Tryz.prog W base (fun _=>true) held fuel 40 cs=some x) (hw:∀ n,n∈x.1.weights Tryz.prog 40→n≤reachBytes) :
 ∃ (y:Grt) (q:Option Addr) (c:Nat),cs=cellsG y (.slice q y.stamp.length c)∧RdN W (.slice q y.stamp.length c) y.stamp∧inG y:=by
 obtain ⟨f0,f1,f2,f3,f4,f5,hs,⟨t0,o0⟩,⟨t1,o1⟩,⟨t2,o2⟩,⟨t3,o3⟩,⟨t4,o4⟩,⟨t5,o5⟩⟩:=grt_fields
 obtain ⟨xs,n,_,rfl,hl,hxl,hf⟩:=DataW.trod_struct hs h
 rw [cells_grt] at hl
 match cs,hl,xs,hxl with
 | [v0,v1,v2,v3,v4,v5],_,[y0,y1,y2,y3,y4,y5],_ =>
   have g0:=hf 0 f0 rfl
   have g1:=hf 1 f1 rfl
   have g2:=hf 2 f2 rfl
   have g3:=hf 3 f3 rfl
   have g4:=hf 4 f4 rfl
   have g5:=hf 5 f5 rfl
   simp [t0,t1,t2,t3,t4,t5,o0,o1,o2,o3,o4,o5,cells_int,cells_str,cells_mode,cells_kind,cells_ints,cells_grt,cells_rcd] at g0 g1 g2 g3 g4 g5
   obtain ⟨a0,ha0,_,w0⟩:=DataW.trod_int Tryz.underlying3 g0
   obtain ⟨a1,ha1,_,w1⟩:=DataW.trod_int Tryz.underlying3 g1
   obtain ⟨a2,ha2,hx2,_⟩:=DataW.trod_string Tryz.underlying9 g2
   have w2:a2.size≤140737488355328:=by
    have:=hw a2.data.toList.length (by
     simp only [DataW.weights,hs,List.map_cons,List.map_nil,DataW.weightsEach,List.mem_append]
     have e:y2.1=.lit (.string a2.data.toList):=congrArg Prod.fst hx2
     rw [e,t2]
     exact .inr (.inr (.inl (by simp [DataW.weights]))))
    unfold reachBytes at this
    simp only [Array.length_toList] at this
    show a2.data.size≤_
    omega
   clear hx2
   obtain ⟨a3,ha3,_,w3⟩:=DataW.trod_int Tryz.underlying37 g3
   obtain ⟨q4,c4,a4,ha4,hr4,w4⟩:=trod_ints g4 (fun n hn=>hw n (by
    simp only [DataW.weights,hs,List.map_cons,List.map_nil,DataW.weightsEach,t4,List.mem_append]
    exact .inr (.inr (.inr (.inr ((.inl hn)))))))
   obtain ⟨a5,ha5,_,w5⟩:=DataW.trod_int Tryz.underlying3 g5
   simp at ha0 ha1 ha2 ha3 ha4 ha5
   exact ⟨⟨a0,a1,a2,a3,a4,a5⟩,q4,c4,by rw [ha0,ha1,ha2,ha3,ha4,ha5];rfl,hr4,⟨w0,w1,w3,w5⟩,w2,w4⟩
theorem rcd_fields:∃ f0 f1 f2 f3 f4 f5 f6,Tryz.prog.underlying 42=some (.struct #[f0,f1,f2,f3,f4,f5,f6])∧(f0.type=36∧f0.offset=0)∧(f1.type=40∧f1.offset=1)∧(f2.type=3∧f2.offset=7)∧(f3.type=38∧f3.offset=8)∧(f4.type=3∧f4.offset=9)∧(f5.type=3∧f5.offset=10)∧(f6.type=3∧f6.offset=11) :=
 ⟨_,_,_,_,_,_,_,Tryz.underlying42,⟨rfl,rfl⟩,⟨rfl,rfl⟩,⟨rfl,rfl⟩,⟨rfl,rfl⟩,⟨rfl,rfl⟩,⟨rfl,rfl⟩,⟨rfl,rfl⟩⟩
set_option linter.unusedSimpArgs false in
theorem trod_rcd {H:Type} {enc:TypeId × Value→H} {W:World} {base:Nat} {held:Bool} {fuel:Nat} {cs:List Value} {x:DataW H × List MemPlace}
 (h:DataW.trod enc Tryz.prog W base (fun _=>true) held fuel 42 cs=some x) (hw:∀ n,n∈x.1.weights Tryz.prog 42→n≤reachBytes) :
 ∃ (y:Rcd) (q:Option Addr) (c:Nat) (q':Option Addr) (c':Nat),cs=cellsR y (.slice q y.grant.stamp.length c) (.slice q' y.stamp.length c')∧RdN W (.slice q y.grant.stamp.length c) y.grant.stamp∧RdN W (.slice q' y.stamp.length c') y.stamp∧inR y:=by
 obtain ⟨f0,f1,f2,f3,f4,f5,f6,hs,⟨t0,o0⟩,⟨t1,o1⟩,⟨t2,o2⟩,⟨t3,o3⟩,⟨t4,o4⟩,⟨t5,o5⟩,⟨t6,o6⟩⟩:=rcd_fields
 obtain ⟨xs,n,_,rfl,hl,hxl,hf⟩:=DataW.trod_struct hs h
 rw [cells_rcd] at hl
 match cs,hl,xs,hxl with
 | [v0,v1,v2,v3,v4,v5,v6,v7,v8,v9,v10,v11],_,[y0,y1,y2,y3,y4,y5,y6],_ =>
   have g0:=hf 0 f0 rfl
   have g1:=hf 1 f1 rfl
   have g2:=hf 2 f2 rfl
   have g3:=hf 3 f3 rfl
   have g4:=hf 4 f4 rfl
   have g5:=hf 5 f5 rfl
   have g6:=hf 6 f6 rfl
   simp [t0,t1,t2,t3,t4,t5,t6,o0,o1,o2,o3,o4,o5,o6,cells_int,cells_str,cells_mode,cells_kind,cells_ints,cells_grt,cells_rcd] at g0 g1 g2 g3 g4 g5 g6
   obtain ⟨a0,ha0,_,w0⟩:=DataW.trod_int Tryz.underlying36 g0
   obtain ⟨a1,q1,c1,ha1,hr1,w1⟩:=trod_grt g1 (fun n hn=>hw n (by
    simp only [DataW.weights,hs,List.map_cons,List.map_nil,DataW.weightsEach,t1,List.mem_append]
    exact .inr ((.inl hn))))
   obtain ⟨a2,ha2,_,w2⟩:=DataW.trod_int Tryz.underlying3 g2
   obtain ⟨q3,c3,a3,ha3,hr3,w3⟩:=trod_ints g3 (fun n hn=>hw n (by
    simp only [DataW.weights,hs,List.map_cons,List.map_nil,DataW.weightsEach,t3,List.mem_append]
    exact .inr (.inr (.inr ((.inl hn))))))
   obtain ⟨a4,ha4,_,w4⟩:=DataW.trod_int Tryz.underlying3 g4
   obtain ⟨a5,ha5,_,w5⟩:=DataW.trod_int Tryz.underlying3 g5
   obtain ⟨a6,ha6,_,w6⟩:=DataW.trod_int Tryz.underlying3 g6
   simp at ha0 ha2 ha3 ha4 ha5 ha6
   simp only [cellsG,List.cons.injEq,and_true] at ha1
   obtain ⟨e0,e1,e2,e3,e4,e5⟩:=ha1
   exact ⟨⟨a0,a1,a2,a3,a4,a5,a6⟩,q1,c1,q3,c3,by rw [ha0,e0,e1,e2,e3,e4,e5,ha2,ha3,ha4,ha5,ha6];rfl,hr1,hr3,w1,⟨w0,w2,w4,w5,w6⟩,w3⟩
structure OpD where
 kind:Int
 k:Int
 r:Rcd
instance:Inhabited OpD:=⟨⟨0,0,Rcd.zero⟩⟩
def cellsO (o:OpD) (sv tv:Value):List Value:=.int .i64 o.kind::.int .i64 o.k::cellsR o.r sv tv
def inOp (o:OpD):Prop:=i64w o.kind∧i64w o.k∧inR o.r
def RdOp (w:World) (v:Value) (l:List OpD):Prop :=
 l.length≤maxLen∧((∃ p c,v=.slice p 0 c∧l=[])∨∃ b off cap,v=.slice (some ⟨b,off,none⟩) l.length cap∧b<w.heap.size ∧
  ∀ i,i<l.length→∃ q c q' c',(∀ j,j<14→w.cell? ⟨b,off+i * 14+j,none⟩=(cellsO (l.getD i default) (.slice q (l.getD i default).r.grant.stamp.length c) (.slice q' (l.getD i default).r.stamp.length c'))[j]?)∧RdN w (.slice q (l.getD i default).r.grant.stamp.length c) (l.getD i default).r.grant.stamp∧RdN w (.slice q' (l.getD i default).r.stamp.length c') (l.getD i default).r.stamp∧inOp (l.getD i default))
theorem RdOp.same {w w':World} {v:Value} {l:List OpD} (h:RdOp w v l) (m:Mod [] w w'):RdOp w' v l:=by
 refine ⟨h.1,h.2.imp id ?_⟩
 rintro ⟨b,off,cap,rfl,hb,hc⟩
 refine ⟨b,off,cap,rfl,Nat.lt_of_lt_of_le hb m.size,fun i hi=>?_⟩
 obtain ⟨q,c,q',c',h1,h2,h3,h4⟩:=hc i hi
 exact ⟨q,c,q',c',fun j hj=>(m.cell (x:=⟨b,off+i * 14+j,none⟩) hb (by simp)).trans (h1 j hj),h2.mod m (by simp),h3.mod m (by simp),h4⟩
theorem RdOp.len {w:World} {v:Value} {l:List OpD} (h:RdOp w v l):∃ p c,v=.slice p l.length c:=by
 rcases h.2 with ⟨p,c,rfl,rfl⟩ | ⟨b,off,cap,rfl,_⟩
 · exact ⟨p,c,rfl⟩
 · exact ⟨_,cap,rfl⟩
theorem RdOp.at_ {w:World} {p:Option Addr} {n c:Nat} {l:List OpD} (h:RdOp w (.slice p n c) l) (i:Nat) (hi:i<l.length) :
 ∃ b off q c q' c',p=some ⟨b,off,none⟩∧b<w.heap.size∧(∀ j,j<14→w.cell? ⟨b,off+i * 14+j,none⟩=(cellsO (l.getD i default) (.slice q (l.getD i default).r.grant.stamp.length c) (.slice q' (l.getD i default).r.stamp.length c'))[j]?)∧RdN w (.slice q (l.getD i default).r.grant.stamp.length c) (l.getD i default).r.grant.stamp∧RdN w (.slice q' (l.getD i default).r.stamp.length c') (l.getD i default).r.stamp∧inOp (l.getD i default):=by
 rcases h.2 with ⟨_,c,_,rfl⟩ | ⟨b,off,cap,hv,hb,hc⟩
 · simp at hi
 · simp only [Value.slice.injEq] at hv
   obtain ⟨q,c',q2,c2,h1,h2,h3,h4⟩:=hc i hi
   exact ⟨b,off,q,c',q2,c2,hv.1,hb,h1,h2,h3,h4⟩
def RdRc (w:World) (v:Value) (l:List Rcd):Prop :=
 l.length≤maxLen∧((∃ p c,v=.slice p 0 c∧l=[])∨∃ b off cap,v=.slice (some ⟨b,off,none⟩) l.length cap∧b<w.heap.size ∧
  ∀ i,i<l.length→∃ q c q' c',(∀ j,j<12→w.cell? ⟨b,off+i * 12+j,none⟩=(cellsR (l.getD i default) (.slice q (l.getD i default).grant.stamp.length c) (.slice q' (l.getD i default).stamp.length c'))[j]?)∧RdN w (.slice q (l.getD i default).grant.stamp.length c) (l.getD i default).grant.stamp∧RdN w (.slice q' (l.getD i default).stamp.length c') (l.getD i default).stamp∧inR (l.getD i default))
theorem RdRc.same {w w':World} {v:Value} {l:List Rcd} (h:RdRc w v l) (m:Mod [] w w'):RdRc w' v l:=by
 refine ⟨h.1,h.2.imp id ?_⟩
 rintro ⟨b,off,cap,rfl,hb,hc⟩
 refine ⟨b,off,cap,rfl,Nat.lt_of_lt_of_le hb m.size,fun i hi=>?_⟩
 obtain ⟨q,c,q',c',h1,h2,h3,h4⟩:=hc i hi
 exact ⟨q,c,q',c',fun j hj=>(m.cell (x:=⟨b,off+i * 12+j,none⟩) hb (by simp)).trans (h1 j hj),h2.mod m (by simp),h3.mod m (by simp),h4⟩
theorem RdRc.len {w:World} {v:Value} {l:List Rcd} (h:RdRc w v l):∃ p c,v=.slice p l.length c:=by
 rcases h.2 with ⟨p,c,rfl,rfl⟩ | ⟨b,off,cap,rfl,_⟩
 · exact ⟨p,c,rfl⟩
 · exact ⟨_,cap,rfl⟩
theorem RdRc.at_ {w:World} {p:Option Addr} {n c:Nat} {l:List Rcd} (h:RdRc w (.slice p n c) l) (i:Nat) (hi:i<l.length) :
 ∃ b off q c q' c',p=some ⟨b,off,none⟩∧b<w.heap.size∧(∀ j,j<12→w.cell? ⟨b,off+i * 12+j,none⟩=(cellsR (l.getD i default) (.slice q (l.getD i default).grant.stamp.length c) (.slice q' (l.getD i default).stamp.length c'))[j]?)∧RdN w (.slice q (l.getD i default).grant.stamp.length c) (l.getD i default).grant.stamp∧RdN w (.slice q' (l.getD i default).stamp.length c') (l.getD i default).stamp∧inR (l.getD i default):=by
 rcases h.2 with ⟨_,c,_,rfl⟩ | ⟨b,off,cap,hv,hb,hc⟩
 · simp at hi
 · simp only [Value.slice.injEq] at hv
   obtain ⟨q,c',q2,c2,h1,h2,h3,h4⟩:=hc i hi
   exact ⟨b,off,q,c',q2,c2,hv.1,hb,h1,h2,h3,h4⟩
end Go.Proofs.YtpphoeimakjjdaaGreatDoor
