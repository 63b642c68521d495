/-
  GtOl GtPl GtAp GtRs: see the remarks below.
-/
import Derived.Test.YtllljngpgjkdiaaGreatDoorMGtAk
import Derived.Test.YtllljngpgjkdiaaGreatDoorMGtRq
import Derived.Test.YtllljngpgjkdiaaGreatDoorMLawEnd
import Derived.Deep.Slices
import Derived.ChangeSlices
import Derived.Lib.SmallJoins
import Derived.Test.YtllljngpgjkdiaaGreatDoorMWc
import Derived.Deep.CutBlock
import Derived.Deep.DeepCutAuto
import Derived.Test.YtllljngpgjkdiaaGreatDoorMDisk2
import Derived.Deep.MidRow
import Derived.Deep.WholeRow
import Derived.Test.YtllljngpgjkdiaaGreatDoorMGtSh
import Derived.OpenShut
/-
  ARGUMENTS OPENED: leases, calls on a grantor, slices of such.
-/
namespace Go.Proofs.YtllljngpgjkdiaaGreatDoor
set_option maxRecDepth 100000
open Go.ChangeShapes Go.WideShapes Go.ChangeAt Go.RowKit Go.Deep Go.Joins

theorem cells_lease:Tryz.prog.cellsOf 25=9:=by kernel_rfl
theorem cells_int:Tryz.prog.cellsOf 3=1:=by kernel_rfl
theorem cells_str:Tryz.prog.cellsOf 9=1:=by kernel_rfl
theorem cells_mode:Tryz.prog.cellsOf 22=1:=by kernel_rfl
theorem cells_ints:Tryz.prog.cellsOf 23=1:=by kernel_rfl
theorem cells_bool:Tryz.prog.cellsOf 4=1:=by kernel_rfl
theorem bytes_int:Tryz.prog.bytesOf 3=8:=by kernel_rfl
def i64w (n:Int):Prop:=(Lit.int .i64 n).wf=true
theorem i64w_iff {n:Int}:i64w n ↔ -9223372036854775808≤n∧n≤9223372036854775807:=by
 unfold i64w
 have e1:IntKind.i64.min = -9223372036854775808:=rfl
 have e2:IntKind.i64.max=9223372036854775807:=rfl
 simp [Lit.wf,e1,e2]
def inW (x:Lease):Prop:=(i64w x.frm∧i64w x.id∧i64w x.mode∧i64w x.term∧i64w x.sent∧i64w x.expiry)∧x.path.size≤9223372036854775806∧x.stamp.length * 8≤140737488355328
theorem trod_ints {H:Type} {enc:TypeId × Value→H} {W:World} {base:Nat} {held:Bool} {fuel:Nat} {cs:List Value} {x:DataW H × List MemPlace}
 (h:DataW.trod enc Tryz.prog W base (fun _=>true) held fuel 23 cs=some x) (hw:∀ n,n∈x.1.weights Tryz.prog 23→n≤reachBytes):∃ q c a,cs=[.slice q a.length c]∧RdN W (.slice q a.length c) a∧a.length * 8≤140737488355328:=by
 rcases open_ints Tryz.underlying23 Tryz.underlying3 cells_int h with ⟨rfl,rfl⟩ | ⟨ad,len,cap,zs,rfl,_,hl,hm,hz,rfl,hc,_⟩
 · exact ⟨none,0,[],rfl,⟨by simp,.inl ⟨none,0,rfl,rfl⟩⟩,by simp⟩
 · simp only [if_true] at hz
   have h1:((lits (H:=H) .i64 (zs.take len)).length+(lits (H:=H) .i64 (zs.drop len)).length) * Tryz.prog.bytesOf 3≤reachBytes:=by
    refine hw _ ?_
    simp only [DataW.weights,Tryz.underlying23]
    exact List.mem_cons_self
   rw [bytes_int] at h1
   simp only [lits,List.length_map,List.length_take,List.length_drop] at h1
   unfold reachBytes at h1
   have ht:(zs.take len).length=len:=by rw [List.length_take];omega
   by_cases h0:len=0
   · subst h0
     exact ⟨some ad,cap,[],rfl,⟨by simp,.inl ⟨_,_,rfl,rfl⟩⟩,by simp⟩
   · obtain ⟨b,off,spot⟩:=ad
     have hc0:=hc 0 (by omega)
     have hsp:spot=none:=by
      simp only [Addr.add] at hc0
      cases spot with
      | none=>rfl
      | some s =>
        exfalso
        revert hc0
        unfold World.cell?
        split <;> simp
     subst hsp
     refine ⟨some ⟨b,off,none⟩,cap,zs.take len,by rw [ht],⟨by rw [ht];omega,.inr ⟨b,off,cap,rfl,World.block_lt_of_cell? W _ hc0,fun i hi=>?_⟩⟩,by rw [ht];omega⟩
     rw [ht] at hi
     have q:=hc i (by omega)
     rw [Addr.add_lit] at q
     rw [q]
     simp [List.getD,hi]
theorem lease_fields:∃ f0 f1 f2 f3 f4 f5 f6 f7 f8,Tryz.prog.underlying 25=some (.struct #[f0,f1,f2,f3,f4,f5,f6,f7,f8])∧(f0.type=3∧f0.offset=0)∧(f1.type=3∧f1.offset=1)∧(f2.type=9∧f2.offset=2) ∧
 (f3.type=22∧f3.offset=3)∧(f4.type=23∧f4.offset=4)∧(f5.type=3∧f5.offset=5)∧(f6.type=3∧f6.offset=6)∧(f7.type=3∧f7.offset=7)∧(f8.type=4∧f8.offset=8) :=
 ⟨_,_,_,_,_,_,_,_,_,Tryz.underlying25,⟨rfl,rfl⟩,⟨rfl,rfl⟩,⟨rfl,rfl⟩,⟨rfl,rfl⟩,⟨rfl,rfl⟩,⟨rfl,rfl⟩,⟨rfl,rfl⟩,⟨rfl,rfl⟩,⟨rfl,rfl⟩⟩
theorem trod_lease {H:Type} {enc:TypeId × Value→H} {W:World} {base:Nat} {held:Bool} {fuel:Nat} {cs:List Value} {x:DataW H × List MemPlace}
 (h:DataW.trod enc Tryz.prog W base (fun _=>true) held fuel 25 cs=some x) (hw:∀ n,n∈x.1.weights Tryz.prog 25→n≤reachBytes) :
 ∃ (y:Lease) (q:Option Addr) (c:Nat),cs=(cellsL y (.slice q y.stamp.length c)).toList∧RdN W (.slice q y.stamp.length c) y.stamp∧inW y:=by
 obtain ⟨f0,f1,f2,f3,f4,f5,f6,f7,f8,hs,⟨t0,o0⟩,⟨t1,o1⟩,⟨t2,o2⟩,⟨t3,o3⟩,⟨t4,o4⟩,⟨t5,o5⟩,⟨t6,o6⟩,⟨t7,o7⟩,⟨t8,o8⟩⟩:=lease_fields
 obtain ⟨xs,n,_,rfl,hl,hxl,hf⟩:=DataW.trod_struct hs h
 rw [cells_lease] at hl
 match cs,hl,xs,hxl with
 | [v0,v1,v2,v3,v4,v5,v6,v7,v8],_,[y0,y1,y2,y3,y4,y5,y6,y7,y8],_ =>
   have g0:=hf 0 f0 rfl
   have g1:=hf 1 f1 rfl
   have g2:=hf 2 f2 rfl
   have g3:=hf 3 f3 rfl
   have g4:=hf 4 f4 rfl
   have g5:=hf 5 f5 rfl
   have g6:=hf 6 f6 rfl
   have g7:=hf 7 f7 rfl
   have g8:=hf 8 f8 rfl
   simp [t0,t1,t2,t3,t4,t5,t6,t7,t8,o0,o1,o2,o3,o4,o5,o6,o7,o8,cells_int,cells_str,cells_mode,cells_ints,cells_bool] at g0 g1 g2 g3 g4 g5 g6 g7 g8
   obtain ⟨a0,ha0,_,w0⟩:=DataW.trod_int Tryz.underlying3 g0
   obtain ⟨a1,ha1,_,w1⟩:=DataW.trod_int Tryz.underlying3 g1
   obtain ⟨a2,ha2,hx2,w2⟩:=DataW.trod_string Tryz.underlying9 g2
   have hlen2:a2.size≤reachBytes:=by
    have:=hw a2.data.toList.length (by
     simp only [DataW.weights,hs,List.map_cons,List.map_nil,DataW.weightsEach,List.mem_append]
     have e:y2.1=.lit (.string a2.data.toList):=congrArg Prod.fst hx2
     rw [e,t2]
     exact .inr (.inr (.inl (by simp [DataW.weights]))))
    simpa using this
   obtain ⟨a3,ha3,_,w3⟩:=DataW.trod_int Tryz.underlying22 g3
   obtain ⟨a5,ha5,_,w5⟩:=DataW.trod_int Tryz.underlying3 g5
   obtain ⟨a6,ha6,_,w6⟩:=DataW.trod_int Tryz.underlying3 g6
   obtain ⟨a7,ha7,_,w7⟩:=DataW.trod_int Tryz.underlying3 g7
   obtain ⟨a8,ha8,_⟩:=DataW.trod_bool Tryz.underlying4 g8
   obtain ⟨q,c,a,ha4,hr,hb⟩:=trod_ints g4 (fun n hn=>hw n (by
    simp only [DataW.weights,hs,List.map_cons,List.map_nil,DataW.weightsEach,t4,List.mem_append]
    exact .inr (.inr (.inr (.inr (.inl hn))))))
   simp at ha0 ha1 ha2 ha3 ha4 ha5 ha6 ha7 ha8
   unfold reachBytes at hlen2
   clear w2 hx2
   exact ⟨⟨a0,a1,a2,a3,a,a5,a6,a7,a8⟩,q,c,by rw [ha0,ha1,ha2,ha3,ha4,ha5,ha6,ha7,ha8];rfl,hr,⟨w0,w1,w3,w5,w6,w7⟩,by simp only;omega,hb⟩
theorem weightsAll_mem {H:Type} {P:Program} {e:TypeId} {d:DataW H} {l:List (DataW H)} (hd:d∈l) {n:Nat} (hn:n∈d.weights P e):n∈DataW.weightsAll P e l:=by
 induction l with
 | nil=>cases hd
 | cons x r ih =>
   simp only [DataW.weightsAll,List.mem_append]
   rcases List.mem_cons.1 hd with e | e
   · subst e;exact .inl hn
   · exact .inr (ih e)
instance:Inhabited OpG:=⟨⟨0,0,⟨0,0,⟨#[]⟩,0,[],0,0,0,false⟩,0,0,⟨#[]⟩,0,0,0,false,0,0⟩⟩
def opCells (o:OpG) (v:Value):List Value:=[.int .i64 o.kind,.int .i64 o.now,.int .i64 o.own.frm,.int .i64 o.own.id,.string o.own.path,.int .i64 o.own.mode,v,.int .i64 o.own.term,.int .i64 o.own.sent,.int .i64 o.own.expiry,.bool o.own.recd,.int .i64 o.id,.int .i64 o.holder,.string o.path,.int .i64 o.mode,.int .i64 o.t,.int .i64 o.k,.bool o.fresh,.int .i64 o.origin,.int .i64 o.number]
def inO (o:OpG):Prop:=(i64w o.kind∧i64w o.now∧i64w o.id∧i64w o.holder∧i64w o.mode∧i64w o.t∧i64w o.k∧i64w o.origin∧i64w o.number)∧inW o.own∧o.path.size≤9223372036854775806
theorem cells_op:Tryz.prog.cellsOf 33=20:=by kernel_rfl
theorem op_fields:∃ f0 f1 f2 f3 f4 f5 f6 f7 f8 f9 f10 f11,Tryz.prog.underlying 33=some (.struct #[f0,f1,f2,f3,f4,f5,f6,f7,f8,f9,f10,f11])∧(f0.type=3∧f0.offset=0)∧(f1.type=3∧f1.offset=1)∧(f2.type=25∧f2.offset=2)∧(f3.type=3∧f3.offset=11)∧(f4.type=3∧f4.offset=12)∧(f5.type=9∧f5.offset=13)∧(f6.type=22∧f6.offset=14)∧(f7.type=3∧f7.offset=15)∧(f8.type=3∧f8.offset=16)∧(f9.type=4∧f9.offset=17)∧(f10.type=3∧f10.offset=18)∧(f11.type=3∧f11.offset=19) :=
 ⟨_,_,_,_,_,_,_,_,_,_,_,_,Tryz.underlying33,⟨rfl,rfl⟩,⟨rfl,rfl⟩,⟨rfl,rfl⟩,⟨rfl,rfl⟩,⟨rfl,rfl⟩,⟨rfl,rfl⟩,⟨rfl,rfl⟩,⟨rfl,rfl⟩,⟨rfl,rfl⟩,⟨rfl,rfl⟩,⟨rfl,rfl⟩,⟨rfl,rfl⟩⟩
theorem trod_op {H:Type} {enc:TypeId × Value→H} {W:World} {base:Nat} {held:Bool} {fuel:Nat} {cs:List Value} {x:DataW H × List MemPlace}
 (h:DataW.trod enc Tryz.prog W base (fun _=>true) held fuel 33 cs=some x) (hw:∀ n,n∈x.1.weights Tryz.prog 33→n≤reachBytes) :
 ∃ (o:OpG) (q:Option Addr) (c:Nat),cs=opCells o (.slice q o.own.stamp.length c)∧RdN W (.slice q o.own.stamp.length c) o.own.stamp∧inO o:=by
 obtain ⟨f0,f1,f2,f3,f4,f5,f6,f7,f8,f9,f10,f11,hs,⟨t0,o0⟩,⟨t1,o1⟩,⟨t2,o2⟩,⟨t3,o3⟩,⟨t4,o4⟩,⟨t5,o5⟩,⟨t6,o6⟩,⟨t7,o7⟩,⟨t8,o8⟩,⟨t9,o9⟩,⟨t10,o10⟩,⟨t11,o11⟩⟩:=op_fields
 obtain ⟨xs,n,_,rfl,hl,hxl,hf⟩:=DataW.trod_struct hs h
 rw [cells_op] at hl
 match cs,hl,xs,hxl with
 | [v0,v1,v2,v3,v4,v5,v6,v7,v8,v9,v10,v11,v12,v13,v14,v15,v16,v17,v18,v19],_,[y0,y1,y2,y3,y4,y5,y6,y7,y8,y9,y10,y11],_ =>
   have g0:=hf 0 f0 rfl
   have g1:=hf 1 f1 rfl
   have g2:=hf 2 f2 rfl
   have g3:=hf 3 f3 rfl
   have g4:=hf 4 f4 rfl
   have g5:=hf 5 f5 rfl
   have g6:=hf 6 f6 rfl
   have g7:=hf 7 f7 rfl
   have g8:=hf 8 f8 rfl
   have g9:=hf 9 f9 rfl
   have g10:=hf 10 f10 rfl
   have g11:=hf 11 f11 rfl
   simp [t0,o0,t1,o1,t2,o2,t3,o3,t4,o4,t5,o5,t6,o6,t7,o7,t8,o8,t9,o9,t10,o10,t11,o11,cells_int,cells_str,cells_mode,cells_bool,cells_lease] at g0 g1 g2 g3 g4 g5 g6 g7 g8 g9 g10 g11
   obtain ⟨a0,ha0,_,w0⟩:=DataW.trod_int Tryz.underlying3 g0
   obtain ⟨a1,ha1,_,w1⟩:=DataW.trod_int Tryz.underlying3 g1
   obtain ⟨a3,ha3,_,w3⟩:=DataW.trod_int Tryz.underlying3 g3
   obtain ⟨a4,ha4,_,w4⟩:=DataW.trod_int Tryz.underlying3 g4
   obtain ⟨a5,ha5,hx5,w5⟩:=DataW.trod_string Tryz.underlying9 g5
   have hlen5:a5.size≤reachBytes:=by
    have:=hw a5.data.toList.length (by
     simp only [DataW.weights,hs,List.map_cons,List.map_nil,DataW.weightsEach,List.mem_append]
     have e:y5.1=.lit (.string a5.data.toList):=congrArg Prod.fst hx5
     rw [e,t5]
     exact .inr (.inr (.inr (.inr (.inr (.inl (by simp [DataW.weights])))))))
    simpa using this
   obtain ⟨a6,ha6,_,w6⟩:=DataW.trod_int Tryz.underlying22 g6
   obtain ⟨a7,ha7,_,w7⟩:=DataW.trod_int Tryz.underlying3 g7
   obtain ⟨a8,ha8,_,w8⟩:=DataW.trod_int Tryz.underlying3 g8
   obtain ⟨a9,ha9,_⟩:=DataW.trod_bool Tryz.underlying4 g9
   obtain ⟨a10,ha10,_,w10⟩:=DataW.trod_int Tryz.underlying3 g10
   obtain ⟨a11,ha11,_,w11⟩:=DataW.trod_int Tryz.underlying3 g11
   obtain ⟨y,q,c,hy,hr,hi⟩:=trod_lease g2 (fun n hn=>hw n (by
    simp only [DataW.weights,hs,List.map_cons,List.map_nil,DataW.weightsEach,t2,List.mem_append]
    exact .inr (.inr (.inl hn))))
   simp at ha0 ha1 ha3 ha4 ha5 ha6 ha7 ha8 ha9 ha10 ha11
   simp only [cellsL,List.cons.injEq,and_true] at hy
   obtain ⟨e0,e1,e2,e3,e4,e5,e6,e7,e8⟩:=hy
   unfold reachBytes at hlen5
   clear w5 hx5
   exact ⟨⟨a0,a1,y,a3,a4,a5,a6,a7,a8,a9,a10,a11⟩,q,c,by rw [ha0,ha1,ha3,ha4,ha5,ha6,ha7,ha8,ha9,ha10,ha11,e0,e1,e2,e3,e4,e5,e6,e7,e8];rfl,hr,⟨w0,w1,w3,w4,w6,w7,w8,w10,w11⟩,hi,by simp only;omega⟩
def RdOp (w:World) (v:Value) (l:List OpG):Prop :=
 l.length≤maxLen∧((∃ p c,v=.slice p 0 c∧l=[])∨∃ b off cap,v=.slice (some ⟨b,off,none⟩) l.length cap∧b<w.heap.size ∧
  ∀ i,i<l.length→∃ q c,(∀ j,j<20→w.cell? ⟨b,off+i * 20+j,none⟩=(opCells (l.getD i default) (.slice q (l.getD i default).own.stamp.length c))[j]?)∧RdN w (.slice q (l.getD i default).own.stamp.length c) (l.getD i default).own.stamp∧inO (l.getD i default))
theorem RdOp.same {w w':World} {v:Value} {l:List OpG} (h:RdOp w v l) (m:Mod [] w w'):RdOp w' v l:=by
 refine ⟨h.1,h.2.imp id ?_⟩
 rintro ⟨b,off,cap,rfl,hb,hc⟩
 refine ⟨b,off,cap,rfl,Nat.lt_of_lt_of_le hb m.size,fun i hi=>?_⟩
 obtain ⟨q,c,h1,h2,h3⟩:=hc i hi
 exact ⟨q,c,fun j hj=>(m.cell (x:=⟨b,off+i * 20+j,none⟩) hb (by simp)).trans (h1 j hj),h2.mod m (by simp),h3⟩
theorem RdOp.len {w:World} {v:Value} {l:List OpG} (h:RdOp w v l):∃ p c,v=.slice p l.length c:=by
 rcases h.2 with ⟨p,c,rfl,rfl⟩ | ⟨b,off,cap,rfl,_⟩
 · exact ⟨p,c,rfl⟩
 · exact ⟨_,cap,rfl⟩
theorem RdOp.at_ {w:World} {p:Option Addr} {n c:Nat} {l:List OpG} (h:RdOp w (.slice p n c) l) (i:Nat) (hi:i<l.length) :
 ∃ b off q c',p=some ⟨b,off,none⟩∧b<w.heap.size∧(∀ j,j<20→w.cell? ⟨b,off+i * 20+j,none⟩=(opCells (l.getD i default) (.slice q (l.getD i default).own.stamp.length c'))[j]?)∧RdN w (.slice q (l.getD i default).own.stamp.length c') (l.getD i default).own.stamp∧inO (l.getD i default):=by
 rcases h.2 with ⟨_,c,_,rfl⟩ | ⟨b,off,cap,hv,hb,hc⟩
 · simp at hi
 · simp only [Value.slice.injEq] at hv
   obtain ⟨q,c',h1,h2,h3⟩:=hc i hi
   exact ⟨b,off,q,c',hv.1,hb,h1,h2,h3⟩
theorem trod_ops {H:Type} {enc:TypeId × Value→H} {W:World} {base:Nat} {held:Bool} {fuel:Nat} {cs:List Value} {x:DataW H × List MemPlace}
 (h:DataW.trod enc Tryz.prog W base (fun _=>true) held fuel 58 cs=some x) (hw:∀ n,n∈x.1.weights Tryz.prog 58→n≤reachBytes):∃ p n c l,cs=[.slice p n c]∧RdOp W (.slice p n c) l:=by
 rcases open_slice Tryz.underlying58 h with ⟨rfl,_⟩ | ⟨a,len,cap,m,n,D,Pl,rfl,_,hl,hm,hmm,rfl,hx⟩
 · exact ⟨none,0,0,[],rfl,by simp,.inl ⟨none,0,rfl,rfl⟩⟩
 · simp only [if_true] at hmm
   subst hmm
   by_cases h0:len=0
   · subst h0
     exact ⟨_,_,_,[],rfl,by simp,.inl ⟨_,_,rfl,rfl⟩⟩
   · have each:∀ i,i<len→∃ y:OpG × Option Addr × Nat,(∀ j,j<20→W.cell? (a.add (i * 20+j))=(opCells y.1 (.slice y.2.1 y.1.own.stamp.length y.2.2))[j]?)∧RdN W (.slice y.2.1 y.1.own.stamp.length y.2.2) y.1.own.stamp∧inO y.1:=by
      intro i hi
      obtain ⟨cs',h1,h2⟩:=hx i (by omega)
      rw [cells_op] at h1
      obtain ⟨_,hlen,hcell⟩:=World.cells?_some h1
      obtain ⟨y,q,c,rfl,hr,hi'⟩:=trod_op h2 (fun n' hn'=>hw n' (by
       simp only [DataW.weights,Tryz.underlying58]
       refine List.mem_cons_of_mem _ (List.mem_append_left _ ?_)
       exact weightsAll_mem (List.mem_map.2 ⟨i,List.mem_range.2 hi,rfl⟩) hn'))
      refine ⟨(y,q,c),fun j hj=>?_,hr,hi'⟩
      have e0:=hcell j (by simpa [opCells] using hj)
      rw [add_add] at e0
      rw [e0]
     obtain ⟨f,hf'⟩:=choose_lt each
     obtain ⟨b,off,spot⟩:=a
     have hc00:W.cell? ((⟨b,off,spot⟩:Addr).add 0)=some (.int .i64 (f 0).1.kind):=by
      have:=(hf' 0 (by omega)).1 0 (by omega)
      simpa [opCells] using this
     have hsp:spot=none:=by
      cases spot with
      | none=>rfl
      | some s =>
        exfalso
        revert hc00
        simp only [Addr.add]
        unfold World.cell?
        split <;> simp
     subst hsp
     have hlenr:((List.range len).map fun i=>(f i).1).length=len:=by simp
     refine ⟨_,_,_,(List.range len).map fun i=>(f i).1,rfl,by rw [hlenr];omega,.inr ⟨b,off,_,by rw [hlenr],?_,fun i hi=>?_⟩⟩
     · rw [Addr.add_lit] at hc00
       exact World.block_lt_of_cell? W _ hc00
     · rw [hlenr] at hi
       obtain ⟨q0,q1,q2⟩:=hf' i hi
       have eg:((List.range len).map fun i=>(f i).1).getD i default=(f i).1:=by simp [hi]
       rw [eg]
       refine ⟨(f i).2.1,(f i).2.2,fun j hj=>?_,q1,q2⟩
       have:=q0 j hj
       rw [Addr.add_lit,← Nat.add_assoc] at this
       exact this
theorem weights_cons {H:Type} {P:Program} {t:TypeId} {ts:List TypeId} {d:DataW H} {ds:List (DataW H)} (h:(DataW.weightsEach P (t::ts) (d::ds)).all (·≤reachBytes)=true) :
 (∀ n,n∈d.weights P t→n≤reachBytes)∧(DataW.weightsEach P ts ds).all (·≤reachBytes)=true:=by
 simp only [DataW.weightsEach,List.all_append,Bool.and_eq_true] at h
 exact ⟨fun n hn=>by have:=List.all_eq_true.1 h.1 n hn;simpa using this,h.2⟩
theorem open_ops {H:Type} {enc:TypeId × Value→H} {W:World} {v:Value} {d:DataW H} {p:List MemPlace} {base:Nat}
 (hv:Value.okWide Tryz.prog W .any base 58 v) (h:DataW.Trod enc Tryz.prog W 0 (fun _=>true) true 58 v d p) (hw:∀ n,n∈d.weights Tryz.prog 58→n≤reachBytes):∃ l,RdOp W v l:=by
 obtain ⟨a0,len,cap,rfl⟩:=okWide_slice Tryz.underlying58 hv
 obtain ⟨fuel,hf⟩:=h
 obtain ⟨p',n',c',l,hcs,hl⟩:=trod_ops hf hw
 simp [Value.cells] at hcs
 obtain ⟨rfl,rfl,rfl⟩:=hcs
 exact ⟨l,hl⟩
theorem open_op {H:Type} {enc:TypeId × Value→H} {W:World} {v:Value} {d:DataW H} {p:List MemPlace} {base:Nat}
 (hv:Value.okWide Tryz.prog W .any base 33 v) (h:DataW.Trod enc Tryz.prog W 0 (fun _=>true) true 33 v d p) (hw:∀ n,n∈d.weights Tryz.prog 33→n≤reachBytes) :
 ∃ o q c,v=.agg (opCells o (.slice q o.own.stamp.length c)).toArray∧RdN W (.slice q o.own.stamp.length c) o.own.stamp∧inO o:=by
 obtain ⟨f0,f1,f2,f3,f4,f5,f6,f7,f8,f9,f10,f11,hs,_⟩:=op_fields
 obtain ⟨cs,rfl,hsz⟩:=okWide_struct hs hv
 obtain ⟨fuel,hf⟩:=h
 obtain ⟨o,q,c,hcs,hr,hi⟩:=trod_op hf hw
 simp only [Value.cells] at hcs
 refine ⟨o,q,c,?_,hr,hi⟩
 congr 1
 exact Array.toList_inj.1 hcs
end Go.Proofs.YtllljngpgjkdiaaGreatDoor
/-
  WALKS: the laws of layer 16: played.
-/
namespace Go.Proofs.YtllljngpgjkdiaaGreatDoor
set_option maxRecDepth 100000
set_option maxHeartbeats 4000000
open Go.RowKit Go.Maps

theorem res_tct {P:Program} {fn:Func} {p q u:Tmp} {ty:TypeId} (h:fn.results=#[.tmp p,.cell q ty,.tmp u]) (tmps:Array Value) (w:World) {r:Nat} {cs:Array Value} {T:TypeId} (hp:tmps.getD q undef=.pointer (some ⟨r,0,none⟩))
 (hb:w.heap[r]?=some (.cells cs T (0,0))) (aE:∀ w,(isAgg ty).run P w=.ok true w) (zE:∀ w,(Go.sizeOf ty).run P w=.ok cs.size w) {e:Value} (he:e=.tuple #[tmps.getD p undef,.agg cs,tmps.getD u undef]):(results fn tmps).run P w=.ok e w:=by
 subst he
 have e1:(asAddr (.pointer (some ⟨r,0,none⟩))).run P w=.ok ⟨r,0,none⟩ w:=rfl
 have e2:(loadVar ty ⟨r,0,none⟩).run P w=.ok (.agg cs) w:=by
  have e3:=run_loadCells_list (P:=P) (w:=w) ⟨r,0,none⟩ cs.toList (fun i v hi=>by
   rw [Addr.add_lit,Nat.zero_add,blk_cell hb];simpa using hi)
  rw [Array.length_toList] at e3
  unfold loadVar
  simp only [Sem.run_bind,aE,Result.andThen,if_true,zE]
  simp [e3]
 have e0:(results fn tmps).run P w=((asAddr (tmps.getD q undef)).run P w).andThen fun a w₁=>((loadVar ty a).run P w₁).andThen fun v w₂=>.ok (.tuple #[tmps.getD p undef,v,tmps.getD u undef]) w₂:=by
  simp only [results,h]
  simp [Sem.run_bind,Result.andThen]
 rw [e0,hp,e1]
 simp only [Result.andThen]
 rw [e2]
section
variable {d d':Dk} {g g':Gtr} {o:OpG} {x:Grt} {e:Int}
theorem pl_renew (h:o.kind=1) (hp:renewG d g o.now o.own o.id o.holder o.t o.fresh=(x,e,d',g')):playG d g o=(d',g',x,e):=by unfold playG;rw [if_pos h,hp]
theorem pl_end (h:o.kind=2) {t:Bool} (hp:endG d g o.id o.holder=(t,e,d',g')):playG d g o=(d',g',Grt.zero,e):=by unfold playG;rw [if_neg (by rw [h];decide),if_pos h,hp]
theorem pl_mark (h:o.kind=3) {t:Bool} (hp:markG g o.id o.origin o.number=(t,g')):playG d g o=(d,g',Grt.zero,0):=by unfold playG;rw [if_neg (by rw [h];decide),if_neg (by rw [h];decide),if_pos h,hp]
theorem pl_done (h:o.kind=4) {t:Bool} (hp:doneG d g o.id o.holder o.origin o.number=(t,e,d',g')):playG d g o=(d',g',Grt.zero,e):=by unfold playG;rw [if_neg (by rw [h];decide),if_neg (by rw [h];decide),if_neg (by rw [h];decide),if_pos h,hp]
theorem pl_arm (h:o.kind=7):playG d g o=(armD d o.k,g,Grt.zero,0):=by unfold playG;rw [if_neg (by rw [h];decide),if_neg (by rw [h];decide),if_neg (by rw [h];decide),if_neg (by rw [h];decide),if_pos h]
theorem pl_on (h:o.kind=8) (hp:reopG d g o.now=(d',g')):playG d g o=(d',g',Grt.zero,0):=by unfold playG;rw [if_neg (by rw [h];decide),if_neg (by rw [h];decide),if_neg (by rw [h];decide),if_neg (by rw [h];decide),if_neg (by rw [h];decide),if_pos h,hp]
theorem pl_grant (h:o.kind≠1∧o.kind≠2∧o.kind≠3∧o.kind≠4∧o.kind≠7∧o.kind≠8) (hp:grantG d g o.req=(x,e,d',g')):playG d g o=(d',g',x,e):=by
 obtain ⟨h1,h2,h3,h4,h5,h6⟩:=h
 unfold playG
 rw [if_neg h1,if_neg h2,if_neg h3,if_neg h4,if_neg h5,if_neg h6,hp]
end
theorem GS.box {w0 w w':World} {pg:Nat} {b:GB} {d:Dk} {g:Gtr} (s:GS w0 w pg b d g) {S:List Nat} (m:Mod S w w') (hS:∀ k,k∈S→w0.heap.size≤k∧k ∉ b.all pg):GS w0 w' pg b d g :=
 ⟨s.gm.other m (fun k hk e=>(hS k e).2 hk),s.lo,mod_fresh s.md m (fun k hk=>(hS k hk).1),s.gi,s.n49⟩
def PlTo (w0 w:World) (pg:Nat) (b:GB) (R:Dk × Gtr × Grt × Int) (e:Ending) (w':World):Prop :=
 ∃ pg' b' q c,e=.returned (.tuple #[.pointer (some ⟨pg',0,none⟩),aggG R.2.2.1 (.slice q R.2.2.1.stamp.length c),.int .i64 R.2.2.2])∧GS w0 w' pg' b' R.1 R.2.1∧GTx w pg b w' pg' b'∧RdN w' (.slice q R.2.2.1.stamp.length c) R.2.2.1.stamp∧R.2.2.1.stamp.length≤c
def PlMid (w0 w:World) (pg:Nat) (b:GB) (b7 b9:Nat) (R:Dk × Gtr × Grt × Int) (s1 s10:Value) (wx:World):Prop :=
 ∃ pg' b' q c,s1=.pointer (some ⟨pg',0,none⟩)∧s10=.int .i64 R.2.2.2∧GS w0 wx pg' b' R.1 R.2.1∧GTx w pg b wx pg' b'∧Asd wx pg' b' b7∧wx.heap[b7]?=some (.cells #[.int .i64 0,.int .i64 0,.string ⟨#[]⟩,.int .i64 0,.slice none 0 0,.int .i64 0] 35 (0,0)) ∧
   wx.heap[b9]?=some (.cells #[.int .i64 R.2.2.1.id,.int .i64 R.2.2.1.holder,.string R.2.2.1.path,.int .i64 R.2.2.1.mode,.slice q R.2.2.1.stamp.length c,.int .i64 R.2.2.1.term] 35 (0,0))∧RdN wx (.slice q R.2.2.1.stamp.length c) R.2.2.1.stamp∧(∀ k,k∈ob (.slice q R.2.2.1.stamp.length c)→k≠b7)∧R.2.2.1.stamp.length≤c
theorem row_cap {w:World} {base sz n c:Nat} {T:TypeId} {q:Option Addr} {vs:List Value} (h:w.ownsRow base T sz (.slice q n c) n vs):n≤c:=by
 rcases h.2 with ⟨hv,hn⟩ | ⟨_,_,_,hv,_,_,hh1,hh2,_⟩
 · omega
 · simp only [Value.slice.injEq] at hv
   omega
theorem pl_box {w0 w W3 w5 w7 W8:World} {pg:Nat} {b b':GB} {b7 b9:Nat} {x:Grt} {e:Int} {d':Dk} {g':Gtr} {q:Option Addr} {c:Nat} (m3:Mod [] w W3) (h7:W3.heap[b7]?=some (.cells #[.int .i64 0,.int .i64 0,.string ⟨#[]⟩,.int .i64 0,.slice none 0 0,.int .i64 0] 35 (0,0)))
 (h9:W3.heap[b9]?=some (.cells #[.int .i64 0,.int .i64 0,.string ⟨#[]⟩,.int .i64 0,.slice none 0 0,.int .i64 0] 35 (0,0))) (hw0:w0.heap.size≤b9) (hw9:w.heap.size≤b9) (a7:Asd W3 pg b b7) (a9:Asd W3 pg b b9) (h79:b7≠b9) (m35:Mod [] W3 w5)
 (s:GS w0 w7 pg b' d' g') (t:GTo w5 pg b w7 b') (ho:w7.ownsRow w5.heap.size 3 1 (.slice q x.stamp.length c) x.stamp.length (x.stamp.map (Value.int .i64))) (hW:W8=stL w7 b9 0 [.int .i64 x.id,.int .i64 x.holder,.string x.path,.int .i64 x.mode,.slice q x.stamp.length c,.int .i64 x.term]) :
 PlMid w0 w pg b b7 b9 (d',g',x,e) (.pointer (some ⟨pg,0,none⟩)) (.int .i64 e) W8:=by
 have t3:GTo W3 pg b w7 b':=(GTo.quiet m35).trans t
 have k9:=t3.mod.at_ h9 a9.2
 have k7:=t3.mod.at_ h7 a7.2
 have n9:=(Asd.to a9 t3).2
 have m8:Mod [b9] w7 W8:=by rw [hW];exact stL_mod (fun _=>by simp) _ 0 w7 (Mod.refl _ _)
 have z:=stL_all k9 [.int .i64 x.id,.int .i64 x.holder,.string x.path,.int .i64 x.mode,.slice q x.stamp.length c,.int .i64 x.term] rfl
 rw [← hW] at z
 have s8:=s.box m8 (fun k hk=>by simp at hk;rw [hk];exact ⟨hw0,n9⟩)
 have a7':=Asd.to a7 t3
 refine ⟨pg,b',q,c,rfl,rfl,s8,⟨(m3.mono (by simp)).trans (t3.mod.trans m8 (T:=[b9]) (U:=b9::b.all pg) (fun _ h _=>List.mem_cons_of_mem _ h) (fun k hk _=>by simp at hk;rw [hk];simp)) (fun _ h _=>h) (fun k hk hlt=>?_),fun k hk=>?_,t3.dk.1⟩,⟨Nat.lt_of_lt_of_le a7'.1 m8.size,a7'.2⟩,m8.at_ k7 (by simpa using h79),z,(rdN_of_row ho).mod m8 (fun k hk e=>?_),fun k hk=>?_,row_cap ho⟩
 · rcases List.mem_cons.1 hk with e | e
   · omega
   · exact e
 · rcases t3.own k hk with e | e
   · exact .inl e
   · have:=m3.size;exact .inr (by omega)
 · have h1:=(ob_of_row ho k hk).1
   have h2:=a9.1
   have h3:=m35.size
   simp at e
   omega
 · have h1:=(ob_of_row ho k hk).1
   have h2:=a7.1
   have h3:=m35.size
   omega
theorem pl_none {w0 w W3 wx:World} {pg pg':Nat} {b b':GB} {b7 b9:Nat} {e:Int} {d':Dk} {g':Gtr} (m3:Mod [] w W3) (h7:W3.heap[b7]?=some (.cells #[.int .i64 0,.int .i64 0,.string ⟨#[]⟩,.int .i64 0,.slice none 0 0,.int .i64 0] 35 (0,0)))
 (h9:W3.heap[b9]?=some (.cells #[.int .i64 0,.int .i64 0,.string ⟨#[]⟩,.int .i64 0,.slice none 0 0,.int .i64 0] 35 (0,0))) (a7:Asd W3 pg b b7) (a9:Asd W3 pg b b9) (s:GS w0 wx pg' b' d' g') (t:GTx W3 pg b wx pg' b') :
 PlMid w0 w pg b b7 b9 (d',g',Grt.zero,e) (.pointer (some ⟨pg',0,none⟩)) (.int .i64 e) wx :=
 ⟨pg',b',none,0,rfl,rfl,s,(GTx.quiet m3).trans t,t.asd a7,t.blk a7 h7,t.blk a9 h9,rdN_nil _,by simp [ob,Value.ownBlock],Nat.le_refl _⟩
theorem played_any {w0 w:World} {pg k:Nat} {b:GB} {d:Dk} {g:Gtr} {o:OpG} {q:Option Addr} {c:Nat} (s:GS w0 w pg b d g) (hn:Rn k d g) (hr:RdN w (.slice q o.own.stamp.length c) o.own.stamp) (hi:inO o) :
 Calls Tryz.prog 26 #[.pointer (some ⟨b.pd,0,none⟩),.pointer (some ⟨pg,0,none⟩),.agg (opCells o (.slice q o.own.stamp.length c)).toArray] w fun e w'=>PlTo w0 w pg b (playG d g o) e w':=by
 obtain ⟨R,hR⟩:∃ R,playG d g o=R:=⟨_,rfl⟩
 rw [hR]
 obtain ⟨⟨-,-,-,-,-,-,hk7,-,-⟩,⟨-,hlp,hls⟩,hop⟩:=hi
 have hk7':=(i64w_iff.1 hk7).2
 obtain ⟨kd,nw,⟨lf,li,lp,lm,la,lt,ls,le,lr⟩,oi,oh,op,om,ot,ok,ofr,oo,on⟩:=o
 simp only at hlp hls hop hr hk7'
 obtain ⟨n,hna⟩:∃ n,la.length=n:=⟨_,rfl⟩
 have how:=fun {W:World} (h:RdN W (.slice q la.length c) la)=>own_any (w:=W) (l:=⟨lf,li,lp,lm,la,lt,ls,le,lr⟩) (q:=q) (c:=c) h hls
 unfold opCells aggL cellsL at *
 unfold OwnTo aggL cellsL at how
 simp only at how ⊢
 rw [hna] at how hr ⊢
 obtain ⟨W3,hW3⟩:∃ W3,W3=((w.alloc (.cells #[.int .i64 kd,.int .i64 nw,.int .i64 lf,.int .i64 li,.string lp,.int .i64 lm,.slice q n c,.int .i64 lt,.int .i64 ls,.int .i64 le,.bool lr,.int .i64 oi,.int .i64 oh,.string op,.int .i64 om,.int .i64 ot,.int .i64 ok,.bool ofr,.int .i64 oo,.int .i64 on] 33 (0,0))).alloc (.cells #[.int .i64 0,.int .i64 0,.string ⟨#[]⟩,.int .i64 0,.slice none 0 0,.int .i64 0] 35 (0,0))).alloc (.cells #[.int .i64 0,.int .i64 0,.string ⟨#[]⟩,.int .i64 0,.slice none 0 0,.int .i64 0] 35 (0,0)):=⟨_,rfl⟩
 have m3:Mod [] w W3:=by rw [hW3];exact (((Mod.refl _ _).alloc _).alloc _).alloc _
 have h5:W3.heap[w.heap.size]?=some (.cells #[.int .i64 kd,.int .i64 nw,.int .i64 lf,.int .i64 li,.string lp,.int .i64 lm,.slice q n c,.int .i64 lt,.int .i64 ls,.int .i64 le,.bool lr,.int .i64 oi,.int .i64 oh,.string op,.int .i64 om,.int .i64 ot,.int .i64 ok,.bool ofr,.int .i64 oo,.int .i64 on] 33 (0,0)):=by rw [hW3];exact blk_alloc (blk_alloc (heap_alloc_new w _) _) _
 have h7:W3.heap[w.heap.size+1]?=some (.cells #[.int .i64 0,.int .i64 0,.string ⟨#[]⟩,.int .i64 0,.slice none 0 0,.int .i64 0] 35 (0,0)):=by
  rw [hW3,← World.size_alloc w (.cells #[.int .i64 kd,.int .i64 nw,.int .i64 lf,.int .i64 li,.string lp,.int .i64 lm,.slice q n c,.int .i64 lt,.int .i64 ls,.int .i64 le,.bool lr,.int .i64 oi,.int .i64 oh,.string op,.int .i64 om,.int .i64 ot,.int .i64 ok,.bool ofr,.int .i64 oo,.int .i64 on] 33 (0,0))]
  exact blk_alloc (heap_alloc_new _ _) _
 have h9:W3.heap[w.heap.size+1+1]?=some (.cells #[.int .i64 0,.int .i64 0,.string ⟨#[]⟩,.int .i64 0,.slice none 0 0,.int .i64 0] 35 (0,0)):=by
  rw [hW3,← World.size_alloc w (.cells #[.int .i64 kd,.int .i64 nw,.int .i64 lf,.int .i64 li,.string lp,.int .i64 lm,.slice q n c,.int .i64 lt,.int .i64 ls,.int .i64 le,.bool lr,.int .i64 oi,.int .i64 oh,.string op,.int .i64 om,.int .i64 ot,.int .i64 ok,.bool ofr,.int .i64 oo,.int .i64 on] 33 (0,0)),← World.size_alloc (w.alloc _) (.cells #[.int .i64 0,.int .i64 0,.string ⟨#[]⟩,.int .i64 0,.slice none 0 0,.int .i64 0] 35 (0,0))]
  exact heap_alloc_new _ _
 have a5:=s.asd m3 (Nat.le_refl _) (lt_of_block h5)
 have a7:=s.asd m3 (by omega) (lt_of_block h7)
 have a9:=s.asd m3 (by omega) (lt_of_block h9)
 have hz0:=s.md.size
 have s3:=s.quiet m3
 have hr3:=hr.mod m3 (by simp)
 have HB:=hd7 m3 h5 h7 h9 a5 a7 a9
 have HS:=hd4 s3 hr3 hn hR
 have hC5:∀ W,Mod (b.all pg) W3 W→∀ i,W.cell? ⟨w.heap.size,i,none⟩=_:=fun W m=>blk_cell (m.at_ h5 a5.2)
 have HC:=hide hC5
 have C5:=blk_cell h5
 have L5:=lt_of_block h5
 clear s hr hk7 m3 h5 h7 h9 a5 a7 a9 s3 hr3 hn hR hC5
 go_enter Tryz.func26,Tryz.ntmps26
 go_upto_block 0 with fail
 rw [← hW3]
 clear hW3
 go_cut [1,10] (fun s1 s10 wx=>PlMid w0 w pg b (w.heap.size+1) (w.heap.size+1+1) R s1 s10 wx)
 case first =>
  by_cases k1:kd=1
  · subst k1
    obtain ⟨P,hP⟩:∃ P,renewG d g nw ⟨lf,li,lp,lm,la,lt,ls,le,lr⟩ oi oh ot ofr=P:=⟨_,rfl⟩
    obtain ⟨⟨xi,xh,xp,xm,xs,xt⟩,xe,d',g'⟩:=P
    obtain rfl:R=(d',g',⟨xi,xh,xp,xm,xs,xt⟩,xe):=HS.out.2.2.2.symm.trans (pl_renew rfl hP)
    have hcall:=fun {W:World} {q':Option Addr} {c':Nat} (s:GS w0 W pg b d g) h1 h2=>renew_eq (now:=nw) (id:=oi) (holder:=oh) (t:=ot) (own:=⟨lf,li,lp,lm,la,lt,ls,le,lr⟩) (fresh:=ofr) (q:=q') (c:=c') s h1 h2 (by simp only;omega)
    unfold aggL cellsL at hcall
    rw [hP] at hcall
    simp only at hcall
    rw [hna] at hcall
    clear hP
    go_upto_region 6 with fail
    refine pB 18 (fun w'=>Mod (b.all pg) W3 w') ((Mod.refl _ _).drew) ?_
    refine pP 0 ?_;refine pP 1 ?_;refine pP 3 ?_;refine pP 6 ?_;refine pP 8 ?_;refine pP 10 ?_;refine pP 12 ?_
    refine pT 2 rfl [14,15,16,18] (fun w' h=>by have D:=HC.out _ h;go_simp;try with_reducible rfl) ?_
    refine pT 4 rfl [5,14,15,16,18] (fun w' h=>by have D:=HC.out _ h;go_simp;try with_reducible rfl) ?_
    refine pT 7 rfl [14,15,16,18] (fun w' h=>by have D:=HC.out _ h;go_simp;try with_reducible rfl) ?_
    refine pT 9 rfl [14,15,16,18] (fun w' h=>by have D:=HC.out _ h;go_simp;try with_reducible rfl) ?_
    refine pT 11 rfl [14,15,16,18] (fun w' h=>by have D:=HC.out _ h;go_simp;try with_reducible rfl) ?_
    refine pT 13 rfl [14,15,16,18] (fun w' h=>by have D:=HC.out _ h;go_simp;try with_reducible rfl) ?_
    refine pX 5 fun hT K HK=>?_
    go_simp
    refine (how (HS.out.2.1.mod ((Mod.refl [] W3).drew) (by simp))).mono ?_
    rintro e w5 ⟨q5,c5,rfl,hr5,ho5,m5⟩
    have hap:∀ k,k∈ob (.slice q5 n c5)→k ∉ b.all pg:=fun k hk e=>by have h1:=HS.out.1.gm.lt k e;have h2:=(ho5 k hk).1;simp at h2;omega
    have m35:Mod [] W3 w5:=((Mod.refl [] W3).drew).then m5
    have H5:=hd4 (HS.out.1.quiet m35) hr5 hap m35
    refine HK.out _ _ _ (m35.mono (by simp)) ?_
    clear HK K hT hr5 ho5 m5 hap m35 how
    refine pX 14 fun hT K HK=>?_
    go_simp
    refine (hcall H5.out.1 H5.out.2.1 H5.out.2.2.1).mono ?_
    rintro e w7 ⟨q7,c7,b7,rfl,s7,t7,ro7,-⟩
    unfold aggG cellsG
    dsimp only
    have m37:Mod (b.all pg) W3 w7:=hT.then t7.mod
    have H7:=hd3 s7 t7 ro7
    refine HK.out _ _ _ m37 ?_
    clear HK K hT s7 t7 ro7 m37 hcall
    refine pP 15 ?_;refine pP 16 ?_;refine pP 17 ?_
    refine pY 18 fun hT K HK=>?_
    have k9:=hT.at_ HB.out.2.2.2.1 HB.out.2.2.2.2.2.2.2
    have D9:=blk_cell k9
    have F9:=blk_free k9
    have L9:=lt_of_block k9
    clear k9 hT C5 L5
    go_simp
    obtain ⟨W8,hW8⟩:∃ W8,W8=stL w7 (w.heap.size+1+1) 0 [.int .i64 xi,.int .i64 xh,.string xp,.int .i64 xm,.slice q7 xs.length c7,.int .i64 xt]:=⟨_,rfl⟩
    have HW8:=hide hW8
    unfold stL stL stL stL stL stL stL at hW8
    rw [← hW8]
    refine HK.out _ _ _ ?_
    clear HK K D9 F9 L9 hW8
    refine pP 19 ?_
    refine pD ?_
    go_wp2_with fail
    go_meet
    case rel=>exact pl_box (x:=⟨xi,xh,xp,xm,xs,xt⟩) HB.out.1 HB.out.2.2.1 HB.out.2.2.2.1 (by omega) (by omega) HB.out.2.2.2.2.2.1 HB.out.2.2.2.2.2.2 (by omega) H5.out.2.2.2 H7.out.1 H7.out.2.1 H7.out.2.2 HW8.out
  have k1b:(kd==1)=false:=by simpa using k1
  by_cases k2:kd=2
  · subst k2
    clear how
    obtain ⟨⟨xb,xe,d',g'⟩,hP⟩:∃ P,endG d g oi oh=P:=⟨_,rfl⟩
    obtain rfl:R=(d',g',Grt.zero,xe):=HS.out.2.2.2.symm.trans (pl_end rfl hP)
    have hcall:=end_eq HS.out.1 oi oh
    unfold BvS at hcall
    rw [hP] at hcall
    go_wp2_with (go_at_call 16;refine hcall.mono ?_;rintro e w4 ⟨rfl,b4,s4,t4⟩;have H4:=hd2 s4 t4;clear s4 t4 C5 L5 hcall)
    go_meet
    case rel=>exact pl_none HB.out.1 HB.out.2.2.1 HB.out.2.2.2.1 HB.out.2.2.2.2.2.1 HB.out.2.2.2.2.2.2 H4.out.1 H4.out.2.x
  have k2b:(kd==2)=false:=by simpa using k2
  by_cases k3:kd=3
  · subst k3
    clear how k2b
    obtain ⟨⟨xb,g'⟩,hP⟩:∃ P,markG g oi oo on=P:=⟨_,rfl⟩
    obtain rfl:R=(d,g',Grt.zero,0):=HS.out.2.2.2.symm.trans (pl_mark rfl hP)
    have hcall:=mark_eq HS.out.1 oi oo on hP
    go_wp2_with (go_at_call 19;refine hcall.mono ?_;rintro e w4 ⟨rfl,b4,s4,t4⟩;have H4:=hd2 s4 t4;clear s4 t4 C5 L5 hcall)
    go_meet
    case rel=>exact pl_none HB.out.1 HB.out.2.2.1 HB.out.2.2.2.1 HB.out.2.2.2.2.2.1 HB.out.2.2.2.2.2.2 H4.out.1 H4.out.2.x
  have k3b:(kd==3)=false:=by simpa using k3
  by_cases k4:kd=4
  · subst k4
    clear how k2b k3b
    obtain ⟨⟨xb,xe,d',g'⟩,hP⟩:∃ P,doneG d g oi oh oo on=P:=⟨_,rfl⟩
    obtain rfl:R=(d',g',Grt.zero,xe):=HS.out.2.2.2.symm.trans (pl_done rfl hP)
    have hcall:=done_eq HS.out.1 oi oh oo on
    unfold BvS at hcall
    rw [hP] at hcall
    go_wp2_with (go_at_call 17;refine hcall.mono ?_;rintro e w4 ⟨rfl,b4,s4,t4⟩;have H4:=hd2 s4 t4;clear s4 t4 C5 L5 hcall)
    go_meet
    case rel=>exact pl_none HB.out.1 HB.out.2.2.1 HB.out.2.2.2.1 HB.out.2.2.2.2.2.1 HB.out.2.2.2.2.2.2 H4.out.1 H4.out.2.x
  have k4b:(kd==4)=false:=by simpa using k4
  by_cases k7:kd=7
  · subst k7
    clear how k2b k3b k4b
    obtain rfl:R=(armD d ok,g,Grt.zero,0):=HS.out.2.2.2.symm.trans (pl_arm rfl)
    have hcall:=arm_eq HS.out.1 ok hk7'
    go_wp2_with (go_at_call 30;refine hcall.mono ?_;rintro e w4 ⟨rfl,s4,t4⟩;have H4:=hd2 s4 t4;clear s4 t4 C5 L5 hcall)
    go_meet
    case rel=>exact pl_none HB.out.1 HB.out.2.2.1 HB.out.2.2.2.1 HB.out.2.2.2.2.2.1 HB.out.2.2.2.2.2.2 H4.out.1 H4.out.2.x
  have k7b:(kd==7)=false:=by simpa using k7
  by_cases k8:kd=8
  · subst k8
    clear how k2b k3b k4b k7b
    obtain ⟨l',o1,o2,o3,o4⟩:=reop_st HS.out.2.2.1.lg nw
    obtain rfl:R=(onD d,openG l' (clampN nw),Grt.zero,0):=HS.out.2.2.2.symm.trans (pl_on rfl o4)
    have htm:timeOk (clampN nw):=by unfold timeOk clampN;omega
    have hcl:min (max nw 0) 1152921504606846976=clampN nw:=rfl
    have HO:=hd3 o1 o3 htm
    have hcall:=on_eq HS.out.1
    clear o1 o2 o3 o4 htm
    go_wp2_with (first
     | (go_at_call 29;refine hcall.mono ?_;rintro e w4 ⟨rfl,s4,t4⟩;have H4:=hd2 s4 t4.x;have D5:=HC.out _ t4.mod;clear s4 t4 C5 L5 hcall)
     | (go_at_call 31;refine (ledopen_eq H4.out.1 HO.out.1).mono ?_;rintro e w5 ⟨pl,gv,lv,rfl,s5⟩;have H5:=hide s5;have C5:=HC.out _ (H4.out.2.mod.then s5.tw);clear s5)
     | (go_at_call 11;refine (gopen_eq H5.out HO.out.2.1.lok HO.out.2.1.n49 HO.out.2.2).mono ?_;rintro e w6 ⟨pg',b',rfl,s6,t6⟩;have H6:=hd2 s6 (H4.out.2.trans t6);clear s6 t6 C5)
     | fail)
    go_meet
    case rel=>exact pl_none HB.out.1 HB.out.2.2.1 HB.out.2.2.2.1 HB.out.2.2.2.2.2.1 HB.out.2.2.2.2.2.2 H6.out.1 H6.out.2
  have k8b:(kd==8)=false:=by simpa using k8
  · obtain ⟨P,hP⟩:∃ P,grantG d g ⟨nw,oh,ot,⟨lf,li,lp,lm,la,lt,ls,le,lr⟩,op,om⟩=P:=⟨_,rfl⟩
    obtain ⟨⟨xi,xh,xp,xm,xs,xt⟩,xe,d',g'⟩:=P
    obtain rfl:R=(d',g',⟨xi,xh,xp,xm,xs,xt⟩,xe):=HS.out.2.2.2.symm.trans (pl_grant ⟨k1,k2,k3,k4,k7,k8⟩ hP)
    have hcall:=fun {W:World} {q':Option Addr} {c':Nat} (s:GS w0 W pg b d g) h1 h2=>grant_eq (r:=⟨nw,oh,ot,⟨lf,li,lp,lm,la,lt,ls,le,lr⟩,op,om⟩) (q:=q') (c:=c') s h1 h2 (by simp only;omega) (by simp only;omega)
    unfold aggL cellsL at hcall
    rw [hP] at hcall
    simp only at hcall
    rw [hna] at hcall
    clear hP k1 k2 k3 k4 k7 k8
    go_upto_region 4 with fail
    refine pB 18 (fun w'=>Mod (b.all pg) W3 w') ((Mod.refl _ _).drew) ?_
    refine pP 0 ?_;refine pP 1 ?_;refine pP 3 ?_;refine pP 6 ?_;refine pP 8 ?_;refine pP 10 ?_;refine pP 12 ?_
    refine pT 2 rfl [14,15,16,18] (fun w' h=>by have D:=HC.out _ h;go_simp;try with_reducible rfl) ?_
    refine pT 4 rfl [5,14,15,16,18] (fun w' h=>by have D:=HC.out _ h;go_simp;try with_reducible rfl) ?_
    refine pT 7 rfl [14,15,16,18] (fun w' h=>by have D:=HC.out _ h;go_simp;try with_reducible rfl) ?_
    refine pT 9 rfl [14,15,16,18] (fun w' h=>by have D:=HC.out _ h;go_simp;try with_reducible rfl) ?_
    refine pT 11 rfl [14,15,16,18] (fun w' h=>by have D:=HC.out _ h;go_simp;try with_reducible rfl) ?_
    refine pT 13 rfl [14,15,16,18] (fun w' h=>by have D:=HC.out _ h;go_simp;try with_reducible rfl) ?_
    refine pX 5 fun hT K HK=>?_
    go_simp
    refine (how (HS.out.2.1.mod ((Mod.refl [] W3).drew) (by simp))).mono ?_
    rintro e w5 ⟨q5,c5,rfl,hr5,ho5,m5⟩
    have hap:∀ k,k∈ob (.slice q5 n c5)→k ∉ b.all pg:=fun k hk e=>by have h1:=HS.out.1.gm.lt k e;have h2:=(ho5 k hk).1;simp at h2;omega
    have m35:Mod [] W3 w5:=((Mod.refl [] W3).drew).then m5
    have H5:=hd4 (HS.out.1.quiet m35) hr5 hap m35
    refine HK.out _ _ _ (m35.mono (by simp)) ?_
    clear HK K hT hr5 ho5 m5 hap m35 how
    refine pX 14 fun hT K HK=>?_
    go_simp
    refine (hcall H5.out.1 H5.out.2.1 H5.out.2.2.1).mono ?_
    rintro e w7 ⟨q7,c7,b7,rfl,s7,t7,ro7,-⟩
    unfold aggG cellsG
    dsimp only
    have m37:Mod (b.all pg) W3 w7:=hT.then t7.mod
    have H7:=hd3 s7 t7 ro7
    refine HK.out _ _ _ m37 ?_
    clear HK K hT s7 t7 ro7 m37 hcall
    refine pP 15 ?_;refine pP 16 ?_;refine pP 17 ?_
    refine pY 18 fun hT K HK=>?_
    have k9:=hT.at_ HB.out.2.2.2.1 HB.out.2.2.2.2.2.2.2
    have D9:=blk_cell k9
    have F9:=blk_free k9
    have L9:=lt_of_block k9
    clear k9 hT C5 L5
    go_simp
    obtain ⟨W8,hW8⟩:∃ W8,W8=stL w7 (w.heap.size+1+1) 0 [.int .i64 xi,.int .i64 xh,.string xp,.int .i64 xm,.slice q7 xs.length c7,.int .i64 xt]:=⟨_,rfl⟩
    have HW8:=hide hW8
    unfold stL stL stL stL stL stL stL at hW8
    rw [← hW8]
    refine HK.out _ _ _ ?_
    clear HK K D9 F9 L9 hW8
    refine pP 19 ?_
    refine pD ?_
    go_wp2_with fail
    go_meet
    case rel=>exact pl_box (x:=⟨xi,xh,xp,xm,xs,xt⟩) HB.out.1 HB.out.2.2.1 HB.out.2.2.2.1 (by omega) (by omega) HB.out.2.2.2.2.2.1 HB.out.2.2.2.2.2.2 (by omega) H5.out.2.2.2 H7.out.1 H7.out.2.1 H7.out.2.2 HW8.out
 case rest =>
  obtain ⟨pg',b',q',c',rfl,rfl,s8,t8,a7,k7,k9,hrd,hne,hcp⟩:=hcut
  obtain ⟨X,rfl⟩:∃ x:World,x=wc:=⟨_,rfl⟩
  obtain ⟨d',g',⟨xi,xh,xp,xm,xs,xt⟩,xe⟩:=R
  dsimp only at s8 k9 hrd hcp ⊢
  obtain ⟨nx,hnx⟩:∃ n,xs.length=n:=⟨_,rfl⟩
  have HZ:=hd6 s8 t8 a7 k7 k9 hrd
  rw [hnx] at k9
  have HK9:=hide k9
  clear s8 t8 a7 k7 k9 how C5 L5
  go_upto_region 21 with fail
  refine pB 4 (fun w'=>Mod [] X w') ((Mod.refl _ _).drew) ?_
  obtain ⟨Y,hY⟩:∃ Y,Y=X.drew:=⟨_,rfl⟩
  rw [← hY]
  clear hY
  refine pP 0 ?_
  refine pT 1 rfl [4] (fun w' h=>by have D:=blk_cell (h.at_ HK9.out (by simp));go_simp;try with_reducible rfl) ?_
  refine pP 2 ?_;refine pP 3 ?_
  refine pY 4 fun hT K HK=>?_
  have k7:=hT.at_ HZ.out.2.2.2.1 (by simp)
  have D7:=blk_cell k7
  have F7:=blk_free k7
  have L7:=lt_of_block k7
  have HT:=hd2 hT k7
  clear hT k7
  go_simp
  obtain ⟨W8,hW8⟩:∃ W8,W8=stL Y (w.heap.size+1) 0 [.int .i64 xi,.int .i64 xh,.string xp,.int .i64 xm,.slice q' nx c',.int .i64 xt]:=⟨_,rfl⟩
  have HW8:=hide hW8
  unfold stL stL stL stL stL stL stL at hW8
  rw [← hW8]
  refine HK.out _ _ _ ?_
  clear HK K D7 F7 L7 hW8
  refine pP 5 ?_
  refine pD ?_
  go_wp2_with fail
  have z:=stL_all HT.out.2 [.int .i64 xi,.int .i64 xh,.string xp,.int .i64 xm,.slice q' nx c',.int .i64 xt] rfl
  have m8:Mod [w.heap.size+1] X W8:=by rw [HW8.out];exact stL_mod (fun _=>by simp) _ 0 Y (HT.out.1.mono (by simp))
  rw [← HW8.out] at z
  refine bodyPost_ret (res_tct Tryz.results26 _ _ rfl z Tryz.isAgg35 Tryz.sizeOf35 rfl) rfl ?_
  have h2:=HZ.out
  rw [hnx] at h2
  refine ⟨pg',b',q',c',by rw [hnx];rfl,h2.1.box m8 (fun k hk=>by simp at hk;rw [hk];exact ⟨by omega,h2.2.2.1.2⟩),⟨h2.2.1.mod.trans m8 (fun _ x _=>x) (fun k hk hlt=>by simp at hk;omega),h2.2.1.own,h2.2.1.pd⟩,?_,hcp⟩
  exact hrd.mod m8 (fun k hk e=>by simp at e;exact hne k hk e)
end Go.Proofs.YtllljngpgjkdiaaGreatDoor
/-
  THE LAW GrantorApart: its walk.
-/
namespace Go.Proofs.YtllljngpgjkdiaaGreatDoor
open Go.RowKit Go.Maps

theorem lst_grants {g:Gtr} {lh:List (Hld × Value)} (h:lh.map Prod.fst=listG g):lh.map (fun p=>p.1.gr)=g.l.book.grants:=by
 have:lh.map (fun p=>p.1.gr)=(lh.map Prod.fst).map Hld.gr:=by rw [List.map_map];rfl
 rw [this,h]
 unfold listG
 rw [List.map_map]
 exact List.map_id' _
theorem op_range {w:World} {b off:Nat} {o:OpG} {v:Value} (h:∀ j,j<20→w.cell? ⟨b,off+j,none⟩=(opCells o v)[j]?):w.rangeAt b off (opCells o v):=fun j _ hj=>(h j (List.getElem?_eq_some_iff.1 hj).1).trans hj
theorem op_size (o:OpG) (v:Value):(Tryz.prog.info? 33).map (·.size)=some (opCells o v).length:=by
 show _=some 20
 kernel_rfl
theorem op_one (o:OpG) (q:Option Addr) (n c:Nat):(opCells o (.slice q n c)).toArray.all (·.oneCell')=true:=all_oneCell_toArray (fun v hv=>by
 simp only [opCells,List.mem_cons,List.not_mem_nil,or_false] at hv
 rcases hv with rfl | rfl | rfl | rfl | rfl | rfl | rfl | rfl | rfl | rfl | rfl | rfl | rfl | rfl | rfl | rfl | rfl | rfl | rfl | rfl <;> rfl)
end Go.Proofs.YtllljngpgjkdiaaGreatDoor
/-
  THE LAW GrantorRests: its walk. (Written by wip/gen_gtrs.py.)
-/
namespace Go.Proofs.YtllljngpgjkdiaaGreatDoor
set_option maxRecDepth 100000
set_option maxHeartbeats 8000000
open Go.RowKit Go.Maps

theorem open_i {H:Type} {enc:TypeId × Value→H} {W:World} {v:Value} {d:DataW H} {p:List MemPlace} {base:Nat}
 (hv:Value.okWide Tryz.prog W .any base 3 v) (h:DataW.Trod enc Tryz.prog W 0 (fun _=>true) true 3 v d p) (_:∀ n,n∈d.weights Tryz.prog 3→n≤reachBytes):∃ x:Int,v=.int .i64 x:=by
 obtain ⟨x,rfl,_⟩:=Go.ChangeShapes.open_int Tryz.underlying3 hv h
 exact ⟨x,rfl⟩
def RsRel (W:World) (pd N:Nat) (s8 s9 s40:Value) (wr:World):Prop :=
 ∃ (j pg:Nat) (b:GB) (d:Dk) (g:Gtr) (now:Int),s40=.int .i64 (j:Int)∧s8=.pointer (some ⟨pg,0,none⟩)∧s9=.int .i64 now∧j≤N∧b.pd=pd∧GS W wr pg b d g∧Rn j d g∧Ex now g∧(0≤now∧now≤1125899906842624)∧j≤101
theorem rests_any {W:World} {q0 qa:Option Addr} {c0 ca:Nat} {l0:List OpG} {o:OpG} {gap:Int} (hl:RdOp W (.slice q0 l0.length c0) l0) :
 Calls Tryz.prog 6 #[.slice q0 l0.length c0,.int .i64 gap,.agg (opCells o (.slice qa o.own.stamp.length ca)).toArray] W fun e w'=>e=.returned (.bool true)∧Mod [] W w':=by
 obtain ⟨d1,f1,f2,f3,f4⟩:=fresh_law
 have hfr:=fun (W:World)=>fresh_any f1 f2 f4 W
 have HF:=hide (Rn.begin f2 f3)
 have hll:l0.length≤9223372036854775807:=hl.1
 obtain ⟨C3,hC3⟩:∃ C3,(opCells o (.slice qa o.own.stamp.length ca)).toArray=C3:=⟨_,rfl⟩
 rw [hC3]
 have m0:Mod [] W (W.alloc (.cells C3 33 (0,0))):=(Mod.refl _ _).alloc _
 have HL:=hd2 hl m0
 clear hl f1 f2 f3 f4 m0 hC3
 go_enter Tryz.func6,Tryz.ntmps6
 go_upto_block 0 with (first
  | (go_at_call 12;refine (awake_any _).mono ?_;rintro e w1 ⟨rfl,m⟩;have H1:=hide (HL.out.2.then m);clear m)
  | (go_at_call 24
     refine (hfr _).mono ?_
     rintro e w2 ⟨pd,pg,b,rfl,hpd,s⟩
     have H2:=hd2 hpd (show GS W w2 pg b d1 gF from ⟨s.gm,fun k hk=>Nat.le_trans H1.out.size (s.lo k hk),H1.out.then s.md,s.gi,s.n49⟩)
     clear s hpd hfr)
  | fail)
 go_cut [8,9] (fun s8 s9 wx=>∃ s40,RsRel W pd l0.length s8 s9 s40 wx)
 case first =>
  go_wp2_with fail
  go_loopw [8,9,40] (fun s8 s9 s40 wr=>RsRel W pd l0.length s8 s9 s40 wr) (fun _ _ i _=>l0.length - (intOf i).toNat)
  case atStart=>exact ⟨0,pg,b,d1,gF,0,rfl,rfl,rfl,Nat.zero_le _,H2.out.1,H2.out.2,HF.out,fun x hx=>(by cases hx),(by omega),by omega⟩
  case round =>
   as_aux_lemma =>
   obtain ⟨wo,rfl⟩:∃ x:World,x=wr:=⟨_,rfl⟩
   obtain ⟨j,pg1,b1,d,g,now,rfl,rfl,rfl,hj,hpd,hs,hn,hex,hnow,hj1⟩:=hrel
   by_cases hlt:j<l0.length
   · have hji:(j:Int)<(l0.length:Int):=by omega
     obtain ⟨ob0,off,q,c,rfl,hobw,hcsW,hraW,hin⟩:=HL.out.1.at_ j hlt
     have hcs:=fun i hi=>(hs.md.cell (x:=⟨ob0,off+j * 20+i,none⟩) hobw (by simp)).trans (hcsW i hi)
     generalize l0.getD j default=oj at hcs hraW hin
     clear hcsW
     obtain ⟨N,hN⟩:∃ N,min (max oj.now now) 1125899906842624=N:=⟨_,rfl⟩
     have hNb:now≤N∧N≤1125899906842624:=by omega
     obtain ⟨o2,ho2⟩:∃ o2,o2=({ oj with now:=N }:OpG):=⟨_,rfl⟩
     have hin2:inO o2:=by
      rw [ho2]
      obtain ⟨⟨i1,i2,i3,i4,i5,i6,i7,i8,i9⟩,i10,i11⟩:=hin
      exact ⟨⟨i1,i64w_iff.2 (show -9223372036854775808≤N∧N≤9223372036854775807 by omega),i3,i4,i5,i6,i7,i8,i9⟩,i10,i11⟩
     have hst2:o2.own.stamp=oj.own.stamp:=by rw [ho2]
     have hrg:=op_range hcs
     have hsz:=op_size oj (.slice q oj.own.stamp.length c)
     have hone:=op_one oj q oj.own.stamp.length c
     obtain ⟨R,hR⟩:∃ R,playG d g o2=R:=⟨_,rfl⟩
     have hpl:=fun {w:World} (s:GS W w pg1 b1 d g) h=>played_any (q:=q) (c:=c) s hn h hin2
     have hrn:=fun (h:j≤1000)=>And.intro (rn_play hn h o2 (i64w_iff.1 hin2.1.2.2.2.2.2.2.1).2) (ex_play hn h o2 hex (by rw [ho2];exact hNb.1) (by rw [ho2];show 0≤N;omega) (by rw [ho2];show N≤_;omega))
     rw [hR] at hrn hpl
     rw [show o2.now=N by rw [ho2]] at hrn
     have HRN:=hide hrn
     have hs20:20=(opCells oj (.slice q oj.own.stamp.length c)).toArray.size:=rfl
     obtain ⟨C8,hC8⟩:∃ C8,(opCells oj (.slice q oj.own.stamp.length c)).toArray=C8:=⟨_,rfl⟩
     obtain ⟨C9,hC9⟩:∃ C9,C8.setIfInBounds 1 (.int .i64 N)=C9:=⟨_,rfl⟩
     have hC92:(opCells o2 (.slice q o2.own.stamp.length c)).toArray=C9:=by rw [← hC9,← hC8,ho2];rfl
     have hsz2:(Tryz.prog.info? 33).map (·.size)=some C8.size:=by rw [← hC8];exact hsz
     rw [hC8] at hone hs20
     rw [hC92] at hpl
     have HS:=hd6 hs hraW hn hC8 hC92 hst2
     have hc1:C8[1]?=some (.int .i64 oj.now):=by rw [← hC8];rfl
     have hc91:C9[1]?=some (.int .i64 N):=by rw [← hC92,ho2];rfl
     obtain ⟨W1,hW1⟩:∃ W1,W1=wo.alloc (.cells C8 33 (0,0)):=⟨_,rfl⟩
     have hb1:W1.heap[wo.heap.size]?=some (.cells C8 33 (0,0)):=by rw [hW1];exact heap_alloc_new wo _
     have hma:Mod [] wo W1:=by rw [hW1];exact (Mod.refl _ _).alloc _
     have HB:=hd4 hb1 hma (hs.quiet hma) hex
     have B1:W1.cell? ⟨wo.heap.size,1,none⟩=some (.int .i64 oj.now):=(blk_cell hb1 1).trans hc1
     have F1:=blk_free hb1
     have L1:=lt_of_block hb1
     have hst:=run_storeCells_new (P:=Tryz.prog) wo 33 #[.int .i64 0,.int .i64 0,.int .i64 0,.int .i64 0,.string ⟨#[]⟩,.int .i64 0,.slice none 0 0,.int .i64 0,.int .i64 0,.int .i64 0,.bool false,.int .i64 0,.int .i64 0,.string ⟨#[]⟩,.int .i64 0,.int .i64 0,.int .i64 0,.bool false,.int .i64 0,.int .i64 0] C8 hsz2 hs20 hone
     rw [← hW1] at hst
     have hs20':=hs20.symm
     clear hR hrn hcs hs hraW hn hin hin2 hC8 hC92 hst2 ho2 hb1 hma hW1 hs20 hone hsz2 hex hc1
     by_cases h100:(100:Int)<(j:Int)
     · clear hpl
       go_wp2_with (first
        | (refine wpList_load_mid rfl 33 _ rfl ob0 (off+j * 20) rfl _ _ hrg Tryz.underlying33 rfl hsz ?_;rw [HS.out.2.2.2.1])
        | fail)
       go_meet
       case rel=>exact ⟨_,j,pg1,b1,d,g,now,rfl,rfl,rfl,hj,hpd,HB.out.2.2.1,HS.out.2.2.1,HB.out.2.2.2,hnow,hj1⟩
     go_upto_region 9 with (first
      | (refine wpList_load_mid rfl 33 _ rfl ob0 (off+j * 20) rfl _ _ hrg Tryz.underlying33 rfl hsz ?_;rw [HS.out.2.2.2.1])
      | fail)
     clear hst hrg hsz hs20'
     go_upto_region 10 with fail
     obtain ⟨W2,hW2⟩:∃ W2,W2=W1.setCell ⟨wo.heap.size,1,none⟩ (.int .i64 N):=⟨_,rfl⟩
     rw [← hW2]
     have hb2:W2.heap[wo.heap.size]?=some (.cells C9 33 (0,0)):=by rw [hW2,← hC9];exact blk_set HB.out.1 1 _
     have m12:Mod [wo.heap.size] W1 W2:=by rw [hW2];exact (Mod.refl _ _).setCell (fun _=>by simp) _
     have hmdz:=HS.out.1.md.size
     have s2:=HB.out.2.2.1.box m12 (fun k hk=>by simp at hk;rw [hk];exact ⟨hmdz,fun e=>by have:=HS.out.1.gm.lt _ e;omega⟩)
     clear B1 F1 L1
     have B1:W2.cell? ⟨wo.heap.size,1,none⟩=some (.int .i64 N):=(blk_cell hb2 1).trans hc91
     have L1:=lt_of_block hb2
     have H3:=hd2 s2 hb2
     clear hW2 hb2 m12 s2 hC9 hc91 hN
     go_upto_region 12 with (go_at_call 22
                             refine (list_eq H3.out.1 rfl).mono ?_
                             rintro e X1 ⟨q4,c4,lh,rfl,hmap,hH,m4⟩
                             have H4:=hd3 hmap hH m4
                             clear hmap hH m4 B1 L1)
     obtain ⟨n4,hn4⟩:∃ n,lh.length=n:=⟨_,rfl⟩
     have h6:n4≤6:=by
      have:=congrArg List.length (lst_grants H4.out.1)
      rw [List.length_map,hn4] at this
      have:=HS.out.2.2.1.gi.six
      omega
     rw [hn4]
     have s4:=H3.out.1.quiet H4.out.2.2
     have hpl2:=hpl s4 (by rw [HS.out.2.2.2.2.2];exact HS.out.2.1.mod s4.md (by simp))
     rw [hpd] at hpl2
     have hbX:=H4.out.2.2.at_ H3.out.2 (by simp)
     have hrb:X1.rangeAt wo.heap.size 0 C9.toList:=fun i _ hi=>by rw [Nat.zero_add,blk_cell hbX,← hi];simp
     have hszb:(Tryz.prog.info? 33).map (·.size)=some C9.toList.length:=by
      rw [← HS.out.2.2.2.2.1]
      exact op_size o2 _
     have HN4:=hd2 hn4 s4
     clear hn4 s4 hbX
     go_upto_region 13 with (first
      | (refine wpList_load_mid rfl 33 _ rfl wo.heap.size 0 rfl _ _ hrb Tryz.underlying33 rfl hszb ?_)
      | (go_at_call 26
         refine hpl2.mono ?_
         rintro e w4 ⟨pg3,b3,q3,c3,rfl,s3,t3,-⟩
         have H5:=hd2 s3 t3
         clear s3 t3 hpl2 hpl hrb hszb)
      | fail)
     have hr3:=HRN.out (by omega)
     have HUP:=hide (fun (k:Nat) (hk:k<n4) (y:Hld) (hh:heldG R.2.1 (lh.getD k default).1.gr.id=some y)=>(up_held hr3.1.gi hr3.2.2 H4.out.1 (by rw [HN4.out.1];exact hk) hh).1)
     have H6:=hide (H4.out.2.1.mod H5.out.2.mod (fun k hk=>.inl (H3.out.1.gm.lt k hk)))
     have HR3:=hide hr3
     clear hr3
     go_wp2_with fail
     go_loopw [67] (fun i wr=>∃ k:Nat,i=.int .i64 (k:Int)∧k≤n4∧Mod [] w4 wr) (fun i _=>n4 - (intOf i).toNat)
     case atStart=>exact ⟨0,rfl,Nat.zero_le _,Mod.refl _ _⟩
     case round =>
      as_aux_lemma =>
      obtain ⟨wk,rfl⟩:∃ x:World,x=wr:=⟨_,rfl⟩
      obtain ⟨k,rfl,hk,hmk⟩:=hrel
      have HMK:=hide hmk
      clear hmk
      by_cases hkn:k<n4
      · have hki:(k:Int)<(n4:Int):=by omega
        have e4:=HN4.out.1
        obtain ⟨lb,rfl,pl⟩:=H6.out.place (i:=k) (by omega)
        have hup:=fun (y:Hld) (hh:heldG R.2.1 (lh.getD k default).1.gr.id=some y)=>HUP.out k (by omega) y hh
        generalize lh.getD k default=pk at pl hup
        obtain ⟨⟨⟨ji,jh,jp,jm,js,jt⟩,je,jo,jn⟩,jv⟩:=pk
        obtain ⟨qv,cv,hjv⟩:=(pl.st w4 (Mod.refl _ _)).len
        simp only at hjv hup
        obtain ⟨nv,hnv⟩:∃ n,js.length=n:=⟨_,rfl⟩
        rw [hnv] at hjv
        subst hjv
        have y0:=pl.c wk HMK.out 0 (by decide)
        have y1:=pl.c wk HMK.out 1 (by decide)
        have y2:=pl.c wk HMK.out 2 (by decide)
        have y3:=pl.c wk HMK.out 3 (by decide)
        have y4:=pl.c wk HMK.out 4 (by decide)
        have y5:=pl.c wk HMK.out 5 (by decide)
        have y6:=pl.c wk HMK.out 6 (by decide)
        have y7:=pl.c wk HMK.out 7 (by decide)
        have y8:=pl.c wk HMK.out 8 (by decide)
        simp [encH] at y0 y1 y2 y3 y4 y5 y6 y7 y8
        obtain ⟨V1,hV1⟩:∃ W1,W1=wk.alloc (.cells #[.int .i64 ji,.int .i64 jh,.string jp,.int .i64 jm,.slice qv nv cv,.int .i64 jt,.int .i64 je,.int .i64 jo,.int .i64 jn] 44 (0,0)):=⟨_,rfl⟩
        have hb1:V1.heap[wk.heap.size]?=some (.cells #[.int .i64 ji,.int .i64 jh,.string jp,.int .i64 jm,.slice qv nv cv,.int .i64 jt,.int .i64 je,.int .i64 jo,.int .i64 jn] 44 (0,0)):=by rw [hV1];exact heap_alloc_new wk _
        have hma:Mod [] wk V1:=by rw [hV1];exact (Mod.refl _ _).alloc _
        have HUy:=hide hup
        clear pl hnv hup
        have B1:=blk_cell hb1
        have L1:=lt_of_block hb1
        have HV1:=hd2 hb1 (HMK.out.then hma)
        clear hb1 hma e4
        go_upto_region 16 with fail
        rw [← hV1]
        clear hV1 y0 y1 y2 y3 y4 y5 y6 y7 y8
        obtain ⟨oh,hoh⟩:∃ o,heldG R.2.1 ji=o:=⟨_,rfl⟩
        have hhd:=held_eq (H5.out.1.quiet HV1.out.2) ji hoh
        have HO:=hide hoh
        obtain ⟨y,hy⟩:∃ y,oh.getD Hld.zero=y:=⟨_,rfl⟩
        obtain ⟨t,ht⟩:∃ t,oh.isSome=t:=⟨_,rfl⟩
        have hle:t=true→je≤y.exp:=fun h=>by
         rw [← ht] at h
         obtain ⟨z,hz⟩:=Option.isSome_iff_exists.1 h
         rw [← hy,hz]
         exact HUy.out z (HO.out.trans hz)
        unfold HeldTo aggH encH at hhd
        rw [hy,ht] at hhd
        obtain ⟨⟨ei,eh,ep,em,es,et⟩,ee,eo,en⟩:=y
        obtain ⟨ne,hne⟩:∃ n,es.length=n:=⟨_,rfl⟩
        simp only at hhd hle
        rw [hne] at hhd
        clear hoh hy ht hne
        go_upto_region 17 with (go_at_call 18
                                refine hhd.mono ?_
                                rintro e w5 ⟨q5,c5,rfl,-,m5⟩
                                have M5:=hide m5
                                clear m5 hhd B1 L1)
        obtain ⟨V2,hV2⟩:∃ V,V=w5.alloc (.cells #[.int .i64 ei,.int .i64 eh,.string ep,.int .i64 em,.slice q5 ne c5,.int .i64 et,.int .i64 ee,.int .i64 eo,.int .i64 en] 44 (0,0)):=⟨_,rfl⟩
        have h2:V2.heap[w5.heap.size]?=some (.cells #[.int .i64 ei,.int .i64 eh,.string ep,.int .i64 em,.slice q5 ne c5,.int .i64 et,.int .i64 ee,.int .i64 eo,.int .i64 en] 44 (0,0)):=by rw [hV2];exact heap_alloc_new w5 _
        have m2:Mod [] w5 V2:=by rw [hV2];exact (Mod.refl _ _).alloc _
        rw [← hV2]
        have h1:=(M5.out.then m2).at_ HV1.out.1 (by simp)
        have B1:=blk_cell h1
        have L1:=lt_of_block h1
        have B2:=blk_cell h2
        have L2:=lt_of_block h2
        have HM2:=hide (HV1.out.2.then (M5.out.then m2))
        clear hV2 h2 m2 h1
        cases t
        · clear hle
          go_wp2_with fail
          go_roundw
          case rel=>exact ⟨k+1,by go_num,by omega,HM2.out⟩
          case measure=>simp [intOf];omega
        · have g1:decide (ee<je)=false:=decide_eq_false (by have:=hle rfl;omega)
          clear hle
          go_wp2_with fail
          go_roundw
          case rel=>exact ⟨k+1,by go_num,by omega,HM2.out⟩
          case measure=>simp [intOf];omega
      · obtain rfl:k=n4:=by omega
        go_wp2_with fail
        go_roundw
        case rel=>exact ⟨j+1,pg3,b3,R.1,R.2.1,N,by go_num,rfl,rfl,by omega,H5.out.2.pd.trans hpd,H5.out.1.quiet HMK.out,HR3.out.1,HR3.out.2.1,by omega,by omega⟩
        case measure=>simp [intOf];omega
   · have HS:=hd3 hs hn hex
     clear hs hn hex
     go_wp2_with fail
     go_meet
     case rel=>exact ⟨_,j,pg1,b1,d,g,now,rfl,rfl,rfl,hj,hpd,HS.out.1,HS.out.2.1,HS.out.2.2,hnow,hj1⟩
 case rest =>
  as_aux_lemma =>
  obtain ⟨s40,j,pg1,b1,d,g,now,-,rfl,rfl,-,hpd,hs,hn,hex,hnow,hj1⟩:=hcut
  obtain ⟨X0,rfl⟩:∃ x:World,x=wc:=⟨_,rfl⟩
  obtain ⟨NW,hNW⟩:∃ N,now+min (max gap 0) 1125899906842624=N:=⟨_,rfl⟩
  have hNb:now≤NW∧NW≤2251799813685248:=by omega
  have hwr:IntKind.i64.wrap (now+min (max gap 0) 1125899906842624)=NW:=by rw [hNW,IntKind.wrap_i64];omega
  obtain ⟨l',g1,n1,n2,n3,n4,n5,n6,n7,n8,n9⟩:=anew_facts hn NW
  have hup:Up g g1:=fun x hx y hy e=>by
   rw [n5 y hy]
   have:=hex x hx
   show _≤g1.ends
   omega
  have HA:=hd3 n1 n2 n3
  obtain ⟨E,hE⟩:∃ E,g1.ends=E:=⟨_,rfl⟩
  have hEb:NW≤E∧E≤NW+1048576:=by omega
  have HA2:=hd5 n4 n5 hE n8 hup
  have H3:=hd2 hs hn
  clear hs hn hex hNW n1 n2 n3 n4 n5 n6 n7 n8 n9 hup hE
  go_upto_region 27 with (first
   | (go_at_call 22
      refine (list_eq H3.out.1 rfl).mono ?_
      rintro e X1 ⟨q4,c4,lh,rfl,hmap,hH,m4⟩
      have H4:=hd3 hmap hH m4
      have hoc:=on_eq (H3.out.1.quiet m4)
      rw [hpd] at hoc
      clear hmap hH m4)
   | (go_at_call 29
      refine hoc.mono ?_
      rintro e w1 ⟨rfl,s1,t1⟩
      have H5:=hide t1.x
      have har:=arm_eq s1 (-1) (by decide)
      rw [hpd] at har
      clear s1 t1 hoc)
   | (go_at_call 30
      refine har.mono ?_
      rintro e w2 ⟨rfl,s2,t2⟩
      have H6:=hide (H5.out.trans t2.x)
      have hlo:=ledopen_eq s2 (show openD (armD (onD d) (-1))=_ from HA.out.1)
      rw [hpd] at hlo
      clear s2 t2 har)
   | (go_at_call 31
      refine hlo.mono ?_
      rintro e w3 ⟨pl,gv,lv,rfl,s3⟩
      have H7x:=hide s3
      clear s3 hlo)
   | (go_at_call 11
      refine (gopen_eq H7x.out HA.out.2.1 HA2.out.1.n49 (now:=NW) (show timeOk NW by unfold timeOk;omega)).mono ?_
      rintro e X2 ⟨pg4,b4,rfl,s4,t4⟩
      rw [HA.out.2.2] at s4
      have H7:=hd2 s4 (H6.out.trans t4)
      clear s4 t4)
   | fail)
  obtain ⟨n4,hn4⟩:∃ n,lh.length=n:=⟨_,rfl⟩
  have h6:n4≤6:=by
   have:=congrArg List.length (lst_grants H4.out.1)
   rw [List.length_map,hn4] at this
   have:=H3.out.2.gi.six
   omega
  rw [hn4]
  have HUP:=hide (fun (k:Nat) (hk:k<n4) (y:Hld) (hh:heldG g1 (lh.getD k default).1.gr.id=some y)=>show (lh.getD k default).1.exp≤y.exp∧y.exp=E∧y.num=0 by
   obtain ⟨u1,u2,u3⟩:=up_held HA2.out.1.gi HA2.out.2.2.2.2 H4.out.1 (by rw [hn4];exact hk) hh
   refine ⟨u1,?_,?_⟩
   · rw [u3];show (ntAt g1.nt y.gr.id).exp=E;rw [HA2.out.2.1 y.gr u2];exact HA2.out.2.2.1
   · rw [u3];show (ntAt g1.nt y.gr.id).num=0;rw [HA2.out.2.1 y.gr u2])
  have H8:=hd2 (H4.out.2.1.mod H7.out.2.mod (fun k hk=>.inl (H3.out.1.gm.lt k hk))) hn4
  have hq:=fun (w:World) (m:Mod [] X2 w)=>quar_eq (H7.out.1.quiet m) HA2.out.2.2.1
  have hqq:=hq _ (Mod.refl [] X2)
  have g1':decide (E<NW)=false:=decide_eq_false (by omega)
  clear hn4 hwr
  go_upto_region 29 with (go_at_call 23;refine hqq.mono ?_;rintro e wx ⟨rfl,hx⟩;rw [hx];clear hx hqq)
  clear g1'
  go_wp2_with fail
  go_loopw [129] (fun i wr=>∃ k:Nat,i=.int .i64 (k:Int)∧k≤n4∧Mod [] X2 wr) (fun i _=>n4 - (intOf i).toNat)
  case atStart=>exact ⟨0,rfl,Nat.zero_le _,Mod.refl _ _⟩
  case round =>
   as_aux_lemma =>
   obtain ⟨wk,rfl⟩:∃ x:World,x=wr:=⟨_,rfl⟩
   obtain ⟨k,rfl,hk,hmk⟩:=hrel
   have HMK:=hide hmk
   clear hmk
   by_cases hkn:k<n4
   · have hki:(k:Int)<(n4:Int):=by omega
     have e4:=H8.out.2
     obtain ⟨lb,rfl,pl⟩:=H8.out.1.place (i:=k) (by omega)
     have hup:=fun (y:Hld) (hh:heldG g1 (lh.getD k default).1.gr.id=some y)=>HUP.out k (by omega) y hh
     generalize lh.getD k default=pk at pl hup
     obtain ⟨⟨⟨ji,jh,jp,jm,js,jt⟩,je,jo,jn⟩,jv⟩:=pk
     obtain ⟨qv,cv,hjv⟩:=(pl.st X2 (Mod.refl _ _)).len
     simp only at hjv hup
     obtain ⟨nv,hnv⟩:∃ n,js.length=n:=⟨_,rfl⟩
     rw [hnv] at hjv
     subst hjv
     have y0:=pl.c wk HMK.out 0 (by decide)
     have y1:=pl.c wk HMK.out 1 (by decide)
     have y2:=pl.c wk HMK.out 2 (by decide)
     have y3:=pl.c wk HMK.out 3 (by decide)
     have y4:=pl.c wk HMK.out 4 (by decide)
     have y5:=pl.c wk HMK.out 5 (by decide)
     have y6:=pl.c wk HMK.out 6 (by decide)
     have y7:=pl.c wk HMK.out 7 (by decide)
     have y8:=pl.c wk HMK.out 8 (by decide)
     simp [encH] at y0 y1 y2 y3 y4 y5 y6 y7 y8
     obtain ⟨V1,hV1⟩:∃ W1,W1=wk.alloc (.cells #[.int .i64 ji,.int .i64 jh,.string jp,.int .i64 jm,.slice qv nv cv,.int .i64 jt,.int .i64 je,.int .i64 jo,.int .i64 jn] 44 (0,0)):=⟨_,rfl⟩
     have hb1:V1.heap[wk.heap.size]?=some (.cells #[.int .i64 ji,.int .i64 jh,.string jp,.int .i64 jm,.slice qv nv cv,.int .i64 jt,.int .i64 je,.int .i64 jo,.int .i64 jn] 44 (0,0)):=by rw [hV1];exact heap_alloc_new wk _
     have hma:Mod [] wk V1:=by rw [hV1];exact (Mod.refl _ _).alloc _
     have HUy:=hide hup
     clear pl hnv hup
     have B1:=blk_cell hb1
     have L1:=lt_of_block hb1
     have HV1:=hd2 hb1 (HMK.out.then hma)
     clear hb1 hma e4
     go_upto_region 32 with fail
     rw [← hV1]
     clear hV1 y0 y1 y2 y3 y4 y5 y6 y7 y8
     obtain ⟨oh,hoh⟩:∃ o,heldG g1 ji=o:=⟨_,rfl⟩
     have hhd:=held_eq (H7.out.1.quiet HV1.out.2) ji hoh
     have HO:=hide hoh
     obtain ⟨y,hy⟩:∃ y,oh.getD Hld.zero=y:=⟨_,rfl⟩
     obtain ⟨t,ht⟩:∃ t,oh.isSome=t:=⟨_,rfl⟩
     have hle:t=true→je≤y.exp∧y.exp=E∧y.num=0:=fun h=>by
      rw [← ht] at h
      obtain ⟨z,hz⟩:=Option.isSome_iff_exists.1 h
      rw [← hy,hz]
      exact HUy.out z (HO.out.trans hz)
     unfold HeldTo aggH encH at hhd
     rw [hy,ht] at hhd
     obtain ⟨⟨ei,eh,ep,em,es,et⟩,ee,eo,en⟩:=y
     obtain ⟨ne,hne⟩:∃ n,es.length=n:=⟨_,rfl⟩
     simp only at hhd hle
     rw [hne] at hhd
     clear hoh hy ht hne
     go_upto_region 33 with (go_at_call 18
                             refine hhd.mono ?_
                             rintro e w5 ⟨q5,c5,rfl,-,m5⟩
                             have M5:=hide m5
                             clear m5 hhd B1 L1)
     obtain ⟨V2,hV2⟩:∃ V,V=w5.alloc (.cells #[.int .i64 ei,.int .i64 eh,.string ep,.int .i64 em,.slice q5 ne c5,.int .i64 et,.int .i64 ee,.int .i64 eo,.int .i64 en] 44 (0,0)):=⟨_,rfl⟩
     have h2:V2.heap[w5.heap.size]?=some (.cells #[.int .i64 ei,.int .i64 eh,.string ep,.int .i64 em,.slice q5 ne c5,.int .i64 et,.int .i64 ee,.int .i64 eo,.int .i64 en] 44 (0,0)):=by rw [hV2];exact heap_alloc_new w5 _
     have m2:Mod [] w5 V2:=by rw [hV2];exact (Mod.refl _ _).alloc _
     rw [← hV2]
     have h1:=(M5.out.then m2).at_ HV1.out.1 (by simp)
     have HC:Hid (∀ w,Mod [] V2 w→(∀ i,w.cell? ⟨wk.heap.size,i,none⟩=_)∧∀ i,w.cell? ⟨w5.heap.size,i,none⟩=_):=hide (fun w m=>⟨blk_cell (m.at_ h1 (by simp)),blk_cell (m.at_ h2 (by simp))⟩)
     have HM2:=hide (HV1.out.2.then (M5.out.then m2))
     clear hV2 h2 m2 h1
     cases t
     · clear hle
       refine pB 999 (Mod [] V2) ((Mod.refl [] V2).drew) ?_
       refine pP 0 ?_;refine pP 1 ?_;refine pN 2 ?_;refine pN 3 ?_;refine pN 4 ?_;refine pN 5 ?_;refine pN 6 ?_;refine pN 7 ?_
       refine pN 8 ?_;refine pN 9 ?_;refine pN 10 ?_;refine pN 11 ?_;refine pN 12 ?_;refine pN 13 ?_;refine pN 14 ?_;refine pN 15 ?_
       refine pN 16 ?_;refine pN 17 ?_;refine pN 18 ?_;refine pP 19 ?_
       refine pE fun hT=>?_
       have HT:=hide (HM2.out.then hT)
       clear hT
       go_wp2_with fail
       go_roundw
       case rel=>exact ⟨k+1,by go_num,by omega,HT.out⟩
       case measure=>simp [intOf];omega
     · obtain ⟨u1,rfl,rfl⟩:=hle rfl
       have g1':decide (ee<je)=false:=decide_eq_false (by omega)
       refine pB 999 (Mod [] V2) ((Mod.refl [] V2).drew) ?_
       refine pP 0 ?_;refine pP 1 ?_;refine pP 2 ?_
       refine pH 3 rfl (fun w' h=>by obtain ⟨D1,D2⟩:=HC.out _ h;go_simp;try with_reducible rfl) ?_
       refine pP 4 ?_
       refine pH 5 rfl (fun w' h=>by obtain ⟨D1,D2⟩:=HC.out _ h;go_simp;try with_reducible rfl) ?_
       refine pP 6 ?_;refine pP 7 ?_;refine pP 8 ?_
       refine pH 9 rfl (fun w' h=>by obtain ⟨D1,D2⟩:=HC.out _ h;go_simp;try with_reducible rfl) ?_
       refine pP 10 ?_
       refine pX 11 fun hT K HK=>?_
       go_simp
       refine (hq _ (HM2.out.then hT)).mono ?_;rintro e x1 ⟨rfl,hx⟩;rw [hx]
       refine HK.out _ _ _ hT ?_
       clear HK K hT hx x1
       refine pP 12 ?_;refine pP 13 ?_;refine pP 14 ?_;refine pP 15 ?_
       refine pH 16 rfl (fun w' h=>by obtain ⟨D1,D2⟩:=HC.out _ h;go_simp;try with_reducible rfl) ?_
       refine pP 17 ?_;refine pP 18 ?_;refine pP 19 ?_
       refine pE fun hT=>?_
       have HT:=hide (HM2.out.then hT)
       clear hT
       go_wp2_with fail
       go_roundw
       case rel=>exact ⟨k+1,by go_num,by omega,HT.out⟩
       case measure=>simp [intOf];omega
   · obtain rfl:k=n4:=by omega
     have hqq:=hq _ HMK.out
     have hroot:=fun (W:World)=>root_any W
     unfold aggL cellsL rootL at hroot
     dsimp only at hroot
     have hcall:=fun {w:World} {b':GB} {r:Req} {R:Grt × Int × Dk × Gtr} (hR:grantG (newD2 d) g1 r=R) (s:GS W w pg4 b' (newD2 d) g1) h1 h2 h3 h4=>by
      have:=grant_eq (r:=r) (q:=none) (c:=0) s h1 h2 h3 h4
      rw [hR] at this
      exact this
     have hcl:GS W wk pg4 b4 (newD2 d) g1:=H7.out.1.quiet HMK.out
     have H9:=hide hcl
     clear hcl
     go_upto_if 165 with (go_at_call 23;refine hqq.mono ?_;rintro e wx ⟨rfl,hx⟩;rw [hx];clear hx hqq)
     obtain ⟨bq,hbq⟩:∃ b,decide (NW<E)=b:=⟨_,rfl⟩
     rw [hbq]
     have HBQ:=hide hbq
     clear hbq
     go_cut [] (fun wx=>∃ b',GS W wx pg4 b' (newD2 d) g1)
     case first =>
      as_aux_lemma =>
      cases bq
      case true =>
       have hgt:NW<E:=of_decide_eq_true HBQ.out
       have r1:=rests_no (d:=newD2 d) (g:=g1) (t:=NW) (show timeOk NW by unfold timeOk;omega) (by rw [HA2.out.2.2.1];exact hgt)
       have r2:=rests_no (d:=newD2 d) (g:=g1) (t:=E - 1) (show timeOk (E - 1) by unfold timeOk;omega) (by rw [HA2.out.2.2.1];omega)
       have c1:=fun {w:World} {b':GB} (s:GS W w pg4 b' (newD2 d) g1)=>hcall (r:=⟨NW,1,10,rootL,⟨#[113]⟩,1⟩) r1 s (rdN_nil _) (no_ob _ _) (show (1:Nat)≤9223372036854775807 by decide) (show (0:Nat)≤9223372036854775807 by decide)
       have c2:=fun {w:World} {b':GB} (s:GS W w pg4 b' (newD2 d) g1)=>hcall (r:=⟨E - 1,1,10,rootL,⟨#[113]⟩,1⟩) r2 s (rdN_nil _) (no_ob _ _) (show (1:Nat)≤9223372036854775807 by decide) (show (0:Nat)≤9223372036854775807 by decide)
       unfold aggL cellsL rootL at c1 c2
       dsimp only at c1 c2
       have w1:IntKind.i64.wrap (E - 1)=E - 1:=by rw [IntKind.wrap_i64];omega
       have t1:Hid True:=hide trivial
       clear hcall r1 r2 hgt
       go_wp2_with (first
        | (go_at_call 10;refine (hroot _).mono ?_;rintro e w2 ⟨rfl,m2⟩;have M2:=hide m2;clear m2)
        | (have tk:=t1
           go_at_call 13
           refine (c1 (H9.out.quiet M2.out)).mono ?_
           intro e w3 h3
           obtain ⟨q3,c3,b3,rfl,s3,-,-,-⟩:=h3.out (x:=⟨0,0,⟨#[]⟩,0,[],0⟩) rfl rfl
           unfold aggG cellsG
           dsimp only
           have S3:=hide s3
           clear s3 h3 c1 t1 tk M2)
        | (go_at_call 23
           refine (quar_eq (S3.out.quiet ((Mod.refl _ _).alloc _)) HA2.out.2.2.1).mono ?_
           rintro e wx ⟨rfl,hx⟩
           rw [hx]
           clear hx)
        | (go_at_call 13
           refine (c2 ((S3.out.quiet ((Mod.refl _ _).alloc _)).quiet M2.out)).mono ?_
           intro e w4 h4
           obtain ⟨q4',c4',b4',rfl,s4,-,-,-⟩:=h4.out (x:=⟨0,0,⟨#[]⟩,0,[],0⟩) rfl rfl
           unfold aggG cellsG
           dsimp only
           have S4:=hide s4
           clear s4 h4 c2 M2)
        | fail)
       go_meet
       case rel=>exact ⟨_,S4.out.quiet ((Mod.refl _ _).alloc _)⟩
      case false =>
       clear hcall
       go_wp2_with fail
       go_meet
       case rel=>exact ⟨b4,H9.out⟩
     case rest =>
     as_aux_lemma =>
     obtain ⟨b5,sb⟩:=hcut
     obtain ⟨X3,rfl⟩:∃ x:World,x=wc:=⟨_,rfl⟩
     obtain ⟨R,hR⟩:∃ R,grantG (newD2 d) g1 ⟨E,1,10,rootL,⟨#[113]⟩,1⟩=R:=⟨_,rfl⟩
     have ry:=rests_yes HA2.out.1 (by omega) HA2.out.2.1 (by rw [HA2.out.2.2.1];unfold timeOk;omega) (by have:=HA2.out.2.2.2.1;omega) R (by rw [HA2.out.2.2.1];exact hR)
     have HY:=hide ry
     have c3:=fun {w:World} {b':GB} (s:GS W w pg4 b' (newD2 d) g1)=>hcall (r:=⟨E,1,10,rootL,⟨#[113]⟩,1⟩) hR s (rdN_nil _) (no_ob _ _) (show (1:Nat)≤9223372036854775807 by decide) (show (0:Nat)≤9223372036854775807 by decide)
     unfold aggL cellsL rootL at c3
     dsimp only at c3
     have H10:=hide sb
     clear hcall ry hR sb
     go_upto_region 42 with (first
      | (go_at_call 10;refine (hroot _).mono ?_;rintro e w2 ⟨rfl,m2⟩;have M2:=hide m2;clear m2)
      | (go_at_call 23
         refine (quar_eq H10.out HA2.out.2.2.1).mono ?_
         rintro e wx ⟨rfl,hx⟩
         rw [hx]
         clear hx)
      | (go_at_call 13
         refine (c3 (H10.out.quiet M2.out)).mono ?_
         intro e w3 h3
         obtain ⟨q3,c3',b3,rfl,s3,-,-,-⟩:=h3.out HY.out.2.1 HY.out.1
         unfold aggG cellsG
         dsimp only
         have S3:=hide s3
         clear s3 h3 c3 M2)
      | fail)
     obtain ⟨W9,hW9⟩:∃ W9,W9=w3.alloc (.cells #[.int .i64 g1.l.book.next,.int .i64 1,.string ⟨#[113]⟩,.int .i64 1,.slice q3 1 c3',.int .i64 10] 35 (0,0)):=⟨_,rfl⟩
     have h9:W9.heap[w3.heap.size]?=some (.cells #[.int .i64 g1.l.book.next,.int .i64 1,.string ⟨#[113]⟩,.int .i64 1,.slice q3 1 c3',.int .i64 10] 35 (0,0)):=by rw [hW9];exact heap_alloc_new w3 _
     have m9:Mod [] w3 W9:=by rw [hW9];exact (Mod.refl _ _).alloc _
     rw [← hW9]
     have S9:=hide (S3.out.quiet m9)
     have B9:=blk_cell h9
     have L9:=lt_of_block h9
     clear hW9 h9 m9
     go_wp2_with (
      go_at_call 22
      refine (list_eq S9.out rfl).mono ?_
      rintro e w10 ⟨q5,c5,lh2,rfl,hmap,-,m10⟩
      have hl:lh2.length=1:=by have:=congrArg List.length hmap;rw [List.length_map] at this;rw [this];exact HY.out.2.2
      have M10:=hide m10
      rw [hl]
      clear hmap m10 hl B9 L9)
     go_ret
     exact ⟨rfl,S9.out.md.then M10.out⟩
end Go.Proofs.YtllljngpgjkdiaaGreatDoor
