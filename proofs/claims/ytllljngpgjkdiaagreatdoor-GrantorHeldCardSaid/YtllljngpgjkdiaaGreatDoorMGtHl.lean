/-
  GtOl GtPl GtAp GtHl: see the remarks below.
-/
import Derived.Test.YtllljngpgjkdiaaGreatDoorMGtSh
import Derived.Test.YtllljngpgjkdiaaGreatDoorMGtHd
import Derived.Test.YtllljngpgjkdiaaGreatDoorMLawEnd
import Derived.Deep.Slices
import Derived.ChangeSlices
import Derived.Lib.SmallJoins
import Derived.Test.YtllljngpgjkdiaaGreatDoorMWc
import Derived.Deep.CutBlock
import Derived.Deep.DeepCutAuto
import Derived.Test.YtllljngpgjkdiaaGreatDoorMDisk2
import Derived.Deep.MidRow
import Derived.Deep.WholeRow
/-
  ARGUMENTS OPENED: leases, calls on a grantor, slices of such.
-/
namespace Go.Proofs.YtllljngpgjkdiaaGreatDoor
set_option maxRecDepth 100000
open Go.ChangeShapes Go.WideShapes Go.ChangeAt Go.RowKit Go.Deep Go.Joins

theorem cells_lease:Tryz.prog.cellsOf 25=9:=by kernel_rfl
theorem cells_int:Tryz.prog.cellsOf 3=1:=by kernel_rfl
theorem cells_str:Tryz.prog.cellsOf 9=1:=by kernel_rfl
theorem cells_mode:Tryz.prog.cellsOf 22=1:=by kernel_rfl
theorem cells_ints:Tryz.prog.cellsOf 23=1:=by kernel_rfl
theorem cells_bool:Tryz.prog.cellsOf 4=1:=by kernel_rfl
theorem bytes_int:Tryz.prog.bytesOf 3=8:=by kernel_rfl
def i64w (n:Int):Prop:=(Lit.int .i64 n).wf=true
theorem i64w_iff {n:Int}:i64w n ↔ -9223372036854775808≤n∧n≤9223372036854775807:=by
 unfold i64w
 have e1:IntKind.i64.min = -9223372036854775808:=rfl
 have e2:IntKind.i64.max=9223372036854775807:=rfl
 simp [Lit.wf,e1,e2]
def inW (x:Lease):Prop:=(i64w x.frm∧i64w x.id∧i64w x.mode∧i64w x.term∧i64w x.sent∧i64w x.expiry)∧x.path.size≤9223372036854775806∧x.stamp.length * 8≤140737488355328
theorem trod_ints {H:Type} {enc:TypeId × Value→H} {W:World} {base:Nat} {held:Bool} {fuel:Nat} {cs:List Value} {x:DataW H × List MemPlace}
 (h:DataW.trod enc Tryz.prog W base (fun _=>true) held fuel 23 cs=some x) (hw:∀ n,n∈x.1.weights Tryz.prog 23→n≤reachBytes):∃ q c a,cs=[.slice q a.length c]∧RdN W (.slice q a.length c) a∧a.length * 8≤140737488355328:=by
 rcases open_ints Tryz.underlying23 Tryz.underlying3 cells_int h with ⟨rfl,rfl⟩ | ⟨ad,len,cap,zs,rfl,_,hl,hm,hz,rfl,hc,_⟩
 · exact ⟨none,0,[],rfl,⟨by simp,.inl ⟨none,0,rfl,rfl⟩⟩,by simp⟩
 · simp only [if_true] at hz
   have h1:((lits (H:=H) .i64 (zs.take len)).length+(lits (H:=H) .i64 (zs.drop len)).length) * Tryz.prog.bytesOf 3≤reachBytes:=by
    refine hw _ ?_
    simp only [DataW.weights,Tryz.underlying23]
    exact List.mem_cons_self
   rw [bytes_int] at h1
   simp only [lits,List.length_map,List.length_take,List.length_drop] at h1
   unfold reachBytes at h1
   have ht:(zs.take len).length=len:=by rw [List.length_take];omega
   by_cases h0:len=0
   · subst h0
     exact ⟨some ad,cap,[],rfl,⟨by simp,.inl ⟨_,_,rfl,rfl⟩⟩,by simp⟩
   · obtain ⟨b,off,spot⟩:=ad
     have hc0:=hc 0 (by omega)
     have hsp:spot=none:=by
      simp only [Addr.add] at hc0
      cases spot with
      | none=>rfl
      | some s =>
        exfalso
        revert hc0
        unfold World.cell?
        split <;> simp
     subst hsp
     refine ⟨some ⟨b,off,none⟩,cap,zs.take len,by rw [ht],⟨by rw [ht];omega,.inr ⟨b,off,cap,rfl,World.block_lt_of_cell? W _ hc0,fun i hi=>?_⟩⟩,by rw [ht];omega⟩
     rw [ht] at hi
     have q:=hc i (by omega)
     rw [Addr.add_lit] at q
     rw [q]
     simp [List.getD,hi]
theorem lease_fields:∃ f0 f1 f2 f3 f4 f5 f6 f7 f8,Tryz.prog.underlying 25=some (.struct #[f0,f1,f2,f3,f4,f5,f6,f7,f8])∧(f0.type=3∧f0.offset=0)∧(f1.type=3∧f1.offset=1)∧(f2.type=9∧f2.offset=2) ∧
 (f3.type=22∧f3.offset=3)∧(f4.type=23∧f4.offset=4)∧(f5.type=3∧f5.offset=5)∧(f6.type=3∧f6.offset=6)∧(f7.type=3∧f7.offset=7)∧(f8.type=4∧f8.offset=8) :=
 ⟨_,_,_,_,_,_,_,_,_,Tryz.underlying25,⟨rfl,rfl⟩,⟨rfl,rfl⟩,⟨rfl,rfl⟩,⟨rfl,rfl⟩,⟨rfl,rfl⟩,⟨rfl,rfl⟩,⟨rfl,rfl⟩,⟨rfl,rfl⟩,⟨rfl,rfl⟩⟩
theorem trod_lease {H:Type} {enc:TypeId × Value→H} {W:World} {base:Nat} {held:Bool} {fuel:Nat} {cs:List Value} {x:DataW H × List MemPlace}
 (h:DataW.trod enc Tryz.prog W base (fun _=>true) held fuel 25 cs=some x) (hw:∀ n,n∈x.1.weights Tryz.prog 25→n≤reachBytes) :
 ∃ (y:Lease) (q:Option Addr) (c:Nat),cs=(cellsL y (.slice q y.stamp.length c)).toList∧RdN W (.slice q y.stamp.length c) y.stamp∧inW y:=by
 obtain ⟨f0,f1,f2,f3,f4,f5,f6,f7,f8,hs,⟨t0,o0⟩,⟨t1,o1⟩,⟨t2,o2⟩,⟨t3,o3⟩,⟨t4,o4⟩,⟨t5,o5⟩,⟨t6,o6⟩,⟨t7,o7⟩,⟨t8,o8⟩⟩:=lease_fields
 obtain ⟨xs,n,_,rfl,hl,hxl,hf⟩:=DataW.trod_struct hs h
 rw [cells_lease] at hl
 match cs,hl,xs,hxl with
 | [v0,v1,v2,v3,v4,v5,v6,v7,v8],_,[y0,y1,y2,y3,y4,y5,y6,y7,y8],_ =>
   have g0:=hf 0 f0 rfl
   have g1:=hf 1 f1 rfl
   have g2:=hf 2 f2 rfl
   have g3:=hf 3 f3 rfl
   have g4:=hf 4 f4 rfl
   have g5:=hf 5 f5 rfl
   have g6:=hf 6 f6 rfl
   have g7:=hf 7 f7 rfl
   have g8:=hf 8 f8 rfl
   simp [t0,t1,t2,t3,t4,t5,t6,t7,t8,o0,o1,o2,o3,o4,o5,o6,o7,o8,cells_int,cells_str,cells_mode,cells_ints,cells_bool] at g0 g1 g2 g3 g4 g5 g6 g7 g8
   obtain ⟨a0,ha0,_,w0⟩:=DataW.trod_int Tryz.underlying3 g0
   obtain ⟨a1,ha1,_,w1⟩:=DataW.trod_int Tryz.underlying3 g1
   obtain ⟨a2,ha2,hx2,w2⟩:=DataW.trod_string Tryz.underlying9 g2
   have hlen2:a2.size≤reachBytes:=by
    have:=hw a2.data.toList.length (by
     simp only [DataW.weights,hs,List.map_cons,List.map_nil,DataW.weightsEach,List.mem_append]
     have e:y2.1=.lit (.string a2.data.toList):=congrArg Prod.fst hx2
     rw [e,t2]
     exact .inr (.inr (.inl (by simp [DataW.weights]))))
    simpa using this
   obtain ⟨a3,ha3,_,w3⟩:=DataW.trod_int Tryz.underlying22 g3
   obtain ⟨a5,ha5,_,w5⟩:=DataW.trod_int Tryz.underlying3 g5
   obtain ⟨a6,ha6,_,w6⟩:=DataW.trod_int Tryz.underlying3 g6
   obtain ⟨a7,ha7,_,w7⟩:=DataW.trod_int Tryz.underlying3 g7
   obtain ⟨a8,ha8,_⟩:=DataW.trod_bool Tryz.underlying4 g8
   obtain ⟨q,c,a,ha4,hr,hb⟩:=trod_ints g4 (fun n hn=>hw n (by
    simp only [DataW.weights,hs,List.map_cons,List.map_nil,DataW.weightsEach,t4,List.mem_append]
    exact .inr (.inr (.inr (.inr (.inl hn))))))
   simp at ha0 ha1 ha2 ha3 ha4 ha5 ha6 ha7 ha8
   unfold reachBytes at hlen2
   clear w2 hx2
   exact ⟨⟨a0,a1,a2,a3,a,a5,a6,a7,a8⟩,q,c,by rw [ha0,ha1,ha2,ha3,ha4,ha5,ha6,ha7,ha8];rfl,hr,⟨w0,w1,w3,w5,w6,w7⟩,by simp only;omega,hb⟩
theorem weightsAll_mem {H:Type} {P:Program} {e:TypeId} {d:DataW H} {l:List (DataW H)} (hd:d∈l) {n:Nat} (hn:n∈d.weights P e):n∈DataW.weightsAll P e l:=by
 induction l with
 | nil=>cases hd
 | cons x r ih =>
   simp only [DataW.weightsAll,List.mem_append]
   rcases List.mem_cons.1 hd with e | e
   · subst e;exact .inl hn
   · exact .inr (ih e)
instance:Inhabited OpG:=⟨⟨0,0,⟨0,0,⟨#[]⟩,0,[],0,0,0,false⟩,0,0,⟨#[]⟩,0,0,0,false,0,0⟩⟩
def opCells (o:OpG) (v:Value):List Value:=[.int .i64 o.kind,.int .i64 o.now,.int .i64 o.own.frm,.int .i64 o.own.id,.string o.own.path,.int .i64 o.own.mode,v,.int .i64 o.own.term,.int .i64 o.own.sent,.int .i64 o.own.expiry,.bool o.own.recd,.int .i64 o.id,.int .i64 o.holder,.string o.path,.int .i64 o.mode,.int .i64 o.t,.int .i64 o.k,.bool o.fresh,.int .i64 o.origin,.int .i64 o.number]
def inO (o:OpG):Prop:=(i64w o.kind∧i64w o.now∧i64w o.id∧i64w o.holder∧i64w o.mode∧i64w o.t∧i64w o.k∧i64w o.origin∧i64w o.number)∧inW o.own∧o.path.size≤9223372036854775806
theorem cells_op:Tryz.prog.cellsOf 33=20:=by kernel_rfl
theorem op_fields:∃ f0 f1 f2 f3 f4 f5 f6 f7 f8 f9 f10 f11,Tryz.prog.underlying 33=some (.struct #[f0,f1,f2,f3,f4,f5,f6,f7,f8,f9,f10,f11])∧(f0.type=3∧f0.offset=0)∧(f1.type=3∧f1.offset=1)∧(f2.type=25∧f2.offset=2)∧(f3.type=3∧f3.offset=11)∧(f4.type=3∧f4.offset=12)∧(f5.type=9∧f5.offset=13)∧(f6.type=22∧f6.offset=14)∧(f7.type=3∧f7.offset=15)∧(f8.type=3∧f8.offset=16)∧(f9.type=4∧f9.offset=17)∧(f10.type=3∧f10.offset=18)∧(f11.type=3∧f11.offset=19) :=
 ⟨_,_,_,_,_,_,_,_,_,_,_,_,Tryz.underlying33,⟨rfl,rfl⟩,⟨rfl,rfl⟩,⟨rfl,rfl⟩,⟨rfl,rfl⟩,⟨rfl,rfl⟩,⟨rfl,rfl⟩,⟨rfl,rfl⟩,⟨rfl,rfl⟩,⟨rfl,rfl⟩,⟨rfl,rfl⟩,⟨rfl,rfl⟩,⟨rfl,rfl⟩⟩
theorem trod_op {H:Type} {enc:TypeId × Value→H} {W:World} {base:Nat} {held:Bool} {fuel:Nat} {cs:List Value} {x:DataW H × List MemPlace}
 (h:DataW.trod enc Tryz.prog W base (fun _=>true) held fuel 33 cs=some x) (hw:∀ n,n∈x.1.weights Tryz.prog 33→n≤reachBytes) :
 ∃ (o:OpG) (q:Option Addr) (c:Nat),cs=opCells o (.slice q o.own.stamp.length c)∧RdN W (.slice q o.own.stamp.length c) o.own.stamp∧inO o:=by
 obtain ⟨f0,f1,f2,f3,f4,f5,f6,f7,f8,f9,f10,f11,hs,⟨t0,o0⟩,⟨t1,o1⟩,⟨t2,o2⟩,⟨t3,o3⟩,⟨t4,o4⟩,⟨t5,o5⟩,⟨t6,o6⟩,⟨t7,o7⟩,⟨t8,o8⟩,⟨t9,o9⟩,⟨t10,o10⟩,⟨t11,o11⟩⟩:=op_fields
 obtain ⟨xs,n,_,rfl,hl,hxl,hf⟩:=DataW.trod_struct hs h
 rw [cells_op] at hl
 match cs,hl,xs,hxl with
 | [v0,v1,v2,v3,v4,v5,v6,v7,v8,v9,v10,v11,v12,v13,v14,v15,v16,v17,v18,v19],_,[y0,y1,y2,y3,y4,y5,y6,y7,y8,y9,y10,y11],_ =>
   have g0:=hf 0 f0 rfl
   have g1:=hf 1 f1 rfl
   have g2:=hf 2 f2 rfl
   have g3:=hf 3 f3 rfl
   have g4:=hf 4 f4 rfl
   have g5:=hf 5 f5 rfl
   have g6:=hf 6 f6 rfl
   have g7:=hf 7 f7 rfl
   have g8:=hf 8 f8 rfl
   have g9:=hf 9 f9 rfl
   have g10:=hf 10 f10 rfl
   have g11:=hf 11 f11 rfl
   simp [t0,o0,t1,o1,t2,o2,t3,o3,t4,o4,t5,o5,t6,o6,t7,o7,t8,o8,t9,o9,t10,o10,t11,o11,cells_int,cells_str,cells_mode,cells_bool,cells_lease] at g0 g1 g2 g3 g4 g5 g6 g7 g8 g9 g10 g11
   obtain ⟨a0,ha0,_,w0⟩:=DataW.trod_int Tryz.underlying3 g0
   obtain ⟨a1,ha1,_,w1⟩:=DataW.trod_int Tryz.underlying3 g1
   obtain ⟨a3,ha3,_,w3⟩:=DataW.trod_int Tryz.underlying3 g3
   obtain ⟨a4,ha4,_,w4⟩:=DataW.trod_int Tryz.underlying3 g4
   obtain ⟨a5,ha5,hx5,w5⟩:=DataW.trod_string Tryz.underlying9 g5
   have hlen5:a5.size≤reachBytes:=by
    have:=hw a5.data.toList.length (by
     simp only [DataW.weights,hs,List.map_cons,List.map_nil,DataW.weightsEach,List.mem_append]
     have e:y5.1=.lit (.string a5.data.toList):=congrArg Prod.fst hx5
     rw [e,t5]
     exact .inr (.inr (.inr (.inr (.inr (.inl (by simp [DataW.weights])))))))
    simpa using this
   obtain ⟨a6,ha6,_,w6⟩:=DataW.trod_int Tryz.underlying22 g6
   obtain ⟨a7,ha7,_,w7⟩:=DataW.trod_int Tryz.underlying3 g7
   obtain ⟨a8,ha8,_,w8⟩:=DataW.trod_int Tryz.underlying3 g8
   obtain ⟨a9,ha9,_⟩:=DataW.trod_bool Tryz.underlying4 g9
   obtain ⟨a10,ha10,_,w10⟩:=DataW.trod_int Tryz.underlying3 g10
   obtain ⟨a11,ha11,_,w11⟩:=DataW.trod_int Tryz.underlying3 g11
   obtain ⟨y,q,c,hy,hr,hi⟩:=trod_lease g2 (fun n hn=>hw n (by
    simp only [DataW.weights,hs,List.map_cons,List.map_nil,DataW.weightsEach,t2,List.mem_append]
    exact .inr (.inr (.inl hn))))
   simp at ha0 ha1 ha3 ha4 ha5 ha6 ha7 ha8 ha9 ha10 ha11
   simp only [cellsL,List.cons.injEq,and_true] at hy
   obtain ⟨e0,e1,e2,e3,e4,e5,e6,e7,e8⟩:=hy
   unfold reachBytes at hlen5
   clear w5 hx5
   exact ⟨⟨a0,a1,y,a3,a4,a5,a6,a7,a8,a9,a10,a11⟩,q,c,by rw [ha0,ha1,ha3,ha4,ha5,ha6,ha7,ha8,ha9,ha10,ha11,e0,e1,e2,e3,e4,e5,e6,e7,e8];rfl,hr,⟨w0,w1,w3,w4,w6,w7,w8,w10,w11⟩,hi,by simp only;omega⟩
def RdOp (w:World) (v:Value) (l:List OpG):Prop :=
 l.length≤maxLen∧((∃ p c,v=.slice p 0 c∧l=[])∨∃ b off cap,v=.slice (some ⟨b,off,none⟩) l.length cap∧b<w.heap.size ∧
  ∀ i,i<l.length→∃ q c,(∀ j,j<20→w.cell? ⟨b,off+i * 20+j,none⟩=(opCells (l.getD i default) (.slice q (l.getD i default).own.stamp.length c))[j]?)∧RdN w (.slice q (l.getD i default).own.stamp.length c) (l.getD i default).own.stamp∧inO (l.getD i default))
theorem RdOp.same {w w':World} {v:Value} {l:List OpG} (h:RdOp w v l) (m:Mod [] w w'):RdOp w' v l:=by
 refine ⟨h.1,h.2.imp id ?_⟩
 rintro ⟨b,off,cap,rfl,hb,hc⟩
 refine ⟨b,off,cap,rfl,Nat.lt_of_lt_of_le hb m.size,fun i hi=>?_⟩
 obtain ⟨q,c,h1,h2,h3⟩:=hc i hi
 exact ⟨q,c,fun j hj=>(m.cell (x:=⟨b,off+i * 20+j,none⟩) hb (by simp)).trans (h1 j hj),h2.mod m (by simp),h3⟩
theorem RdOp.len {w:World} {v:Value} {l:List OpG} (h:RdOp w v l):∃ p c,v=.slice p l.length c:=by
 rcases h.2 with ⟨p,c,rfl,rfl⟩ | ⟨b,off,cap,rfl,_⟩
 · exact ⟨p,c,rfl⟩
 · exact ⟨_,cap,rfl⟩
theorem RdOp.at_ {w:World} {p:Option Addr} {n c:Nat} {l:List OpG} (h:RdOp w (.slice p n c) l) (i:Nat) (hi:i<l.length) :
 ∃ b off q c',p=some ⟨b,off,none⟩∧b<w.heap.size∧(∀ j,j<20→w.cell? ⟨b,off+i * 20+j,none⟩=(opCells (l.getD i default) (.slice q (l.getD i default).own.stamp.length c'))[j]?)∧RdN w (.slice q (l.getD i default).own.stamp.length c') (l.getD i default).own.stamp∧inO (l.getD i default):=by
 rcases h.2 with ⟨_,c,_,rfl⟩ | ⟨b,off,cap,hv,hb,hc⟩
 · simp at hi
 · simp only [Value.slice.injEq] at hv
   obtain ⟨q,c',h1,h2,h3⟩:=hc i hi
   exact ⟨b,off,q,c',hv.1,hb,h1,h2,h3⟩
theorem trod_ops {H:Type} {enc:TypeId × Value→H} {W:World} {base:Nat} {held:Bool} {fuel:Nat} {cs:List Value} {x:DataW H × List MemPlace}
 (h:DataW.trod enc Tryz.prog W base (fun _=>true) held fuel 58 cs=some x) (hw:∀ n,n∈x.1.weights Tryz.prog 58→n≤reachBytes):∃ p n c l,cs=[.slice p n c]∧RdOp W (.slice p n c) l:=by
 rcases open_slice Tryz.underlying58 h with ⟨rfl,_⟩ | ⟨a,len,cap,m,n,D,Pl,rfl,_,hl,hm,hmm,rfl,hx⟩
 · exact ⟨none,0,0,[],rfl,by simp,.inl ⟨none,0,rfl,rfl⟩⟩
 · simp only [if_true] at hmm
   subst hmm
   by_cases h0:len=0
   · subst h0
     exact ⟨_,_,_,[],rfl,by simp,.inl ⟨_,_,rfl,rfl⟩⟩
   · have each:∀ i,i<len→∃ y:OpG × Option Addr × Nat,(∀ j,j<20→W.cell? (a.add (i * 20+j))=(opCells y.1 (.slice y.2.1 y.1.own.stamp.length y.2.2))[j]?)∧RdN W (.slice y.2.1 y.1.own.stamp.length y.2.2) y.1.own.stamp∧inO y.1:=by
      intro i hi
      obtain ⟨cs',h1,h2⟩:=hx i (by omega)
      rw [cells_op] at h1
      obtain ⟨_,hlen,hcell⟩:=World.cells?_some h1
      obtain ⟨y,q,c,rfl,hr,hi'⟩:=trod_op h2 (fun n' hn'=>hw n' (by
       simp only [DataW.weights,Tryz.underlying58]
       refine List.mem_cons_of_mem _ (List.mem_append_left _ ?_)
       exact weightsAll_mem (List.mem_map.2 ⟨i,List.mem_range.2 hi,rfl⟩) hn'))
      refine ⟨(y,q,c),fun j hj=>?_,hr,hi'⟩
      have e0:=hcell j (by simpa [opCells] using hj)
      rw [add_add] at e0
      rw [e0]
     obtain ⟨f,hf'⟩:=choose_lt each
     obtain ⟨b,off,spot⟩:=a
     have hc00:W.cell? ((⟨b,off,spot⟩:Addr).add 0)=some (.int .i64 (f 0).1.kind):=by
      have:=(hf' 0 (by omega)).1 0 (by omega)
      simpa [opCells] using this
     have hsp:spot=none:=by
      cases spot with
      | none=>rfl
      | some s =>
        exfalso
        revert hc00
        simp only [Addr.add]
        unfold World.cell?
        split <;> simp
     subst hsp
     have hlenr:((List.range len).map fun i=>(f i).1).length=len:=by simp
     refine ⟨_,_,_,(List.range len).map fun i=>(f i).1,rfl,by rw [hlenr];omega,.inr ⟨b,off,_,by rw [hlenr],?_,fun i hi=>?_⟩⟩
     · rw [Addr.add_lit] at hc00
       exact World.block_lt_of_cell? W _ hc00
     · rw [hlenr] at hi
       obtain ⟨q0,q1,q2⟩:=hf' i hi
       have eg:((List.range len).map fun i=>(f i).1).getD i default=(f i).1:=by simp [hi]
       rw [eg]
       refine ⟨(f i).2.1,(f i).2.2,fun j hj=>?_,q1,q2⟩
       have:=q0 j hj
       rw [Addr.add_lit,← Nat.add_assoc] at this
       exact this
theorem weights_cons {H:Type} {P:Program} {t:TypeId} {ts:List TypeId} {d:DataW H} {ds:List (DataW H)} (h:(DataW.weightsEach P (t::ts) (d::ds)).all (·≤reachBytes)=true) :
 (∀ n,n∈d.weights P t→n≤reachBytes)∧(DataW.weightsEach P ts ds).all (·≤reachBytes)=true:=by
 simp only [DataW.weightsEach,List.all_append,Bool.and_eq_true] at h
 exact ⟨fun n hn=>by have:=List.all_eq_true.1 h.1 n hn;simpa using this,h.2⟩
theorem open_ops {H:Type} {enc:TypeId × Value→H} {W:World} {v:Value} {d:DataW H} {p:List MemPlace} {base:Nat}
 (hv:Value.okWide Tryz.prog W .any base 58 v) (h:DataW.Trod enc Tryz.prog W 0 (fun _=>true) true 58 v d p) (hw:∀ n,n∈d.weights Tryz.prog 58→n≤reachBytes):∃ l,RdOp W v l:=by
 obtain ⟨a0,len,cap,rfl⟩:=okWide_slice Tryz.underlying58 hv
 obtain ⟨fuel,hf⟩:=h
 obtain ⟨p',n',c',l,hcs,hl⟩:=trod_ops hf hw
 simp [Value.cells] at hcs
 obtain ⟨rfl,rfl,rfl⟩:=hcs
 exact ⟨l,hl⟩
theorem open_op {H:Type} {enc:TypeId × Value→H} {W:World} {v:Value} {d:DataW H} {p:List MemPlace} {base:Nat}
 (hv:Value.okWide Tryz.prog W .any base 33 v) (h:DataW.Trod enc Tryz.prog W 0 (fun _=>true) true 33 v d p) (hw:∀ n,n∈d.weights Tryz.prog 33→n≤reachBytes) :
 ∃ o q c,v=.agg (opCells o (.slice q o.own.stamp.length c)).toArray∧RdN W (.slice q o.own.stamp.length c) o.own.stamp∧inO o:=by
 obtain ⟨f0,f1,f2,f3,f4,f5,f6,f7,f8,f9,f10,f11,hs,_⟩:=op_fields
 obtain ⟨cs,rfl,hsz⟩:=okWide_struct hs hv
 obtain ⟨fuel,hf⟩:=h
 obtain ⟨o,q,c,hcs,hr,hi⟩:=trod_op hf hw
 simp only [Value.cells] at hcs
 refine ⟨o,q,c,?_,hr,hi⟩
 congr 1
 exact Array.toList_inj.1 hcs
end Go.Proofs.YtllljngpgjkdiaaGreatDoor
/-
  WALKS: the laws of layer 16: played.
-/
namespace Go.Proofs.YtllljngpgjkdiaaGreatDoor
set_option maxRecDepth 100000
set_option maxHeartbeats 4000000
open Go.RowKit Go.Maps

theorem res_tct {P:Program} {fn:Func} {p q u:Tmp} {ty:TypeId} (h:fn.results=#[.tmp p,.cell q ty,.tmp u]) (tmps:Array Value) (w:World) {r:Nat} {cs:Array Value} {T:TypeId} (hp:tmps.getD q undef=.pointer (some ⟨r,0,none⟩))
 (hb:w.heap[r]?=some (.cells cs T (0,0))) (aE:∀ w,(isAgg ty).run P w=.ok true w) (zE:∀ w,(Go.sizeOf ty).run P w=.ok cs.size w) {e:Value} (he:e=.tuple #[tmps.getD p undef,.agg cs,tmps.getD u undef]):(results fn tmps).run P w=.ok e w:=by
 subst he
 have e1:(asAddr (.pointer (some ⟨r,0,none⟩))).run P w=.ok ⟨r,0,none⟩ w:=rfl
 have e2:(loadVar ty ⟨r,0,none⟩).run P w=.ok (.agg cs) w:=by
  have e3:=run_loadCells_list (P:=P) (w:=w) ⟨r,0,none⟩ cs.toList (fun i v hi=>by
   rw [Addr.add_lit,Nat.zero_add,blk_cell hb];simpa using hi)
  rw [Array.length_toList] at e3
  unfold loadVar
  simp only [Sem.run_bind,aE,Result.andThen,if_true,zE]
  simp [e3]
 have e0:(results fn tmps).run P w=((asAddr (tmps.getD q undef)).run P w).andThen fun a w₁=>((loadVar ty a).run P w₁).andThen fun v w₂=>.ok (.tuple #[tmps.getD p undef,v,tmps.getD u undef]) w₂:=by
  simp only [results,h]
  simp [Sem.run_bind,Result.andThen]
 rw [e0,hp,e1]
 simp only [Result.andThen]
 rw [e2]
section
variable {d d':Dk} {g g':Gtr} {o:OpG} {x:Grt} {e:Int}
theorem pl_renew (h:o.kind=1) (hp:renewG d g o.now o.own o.id o.holder o.t o.fresh=(x,e,d',g')):playG d g o=(d',g',x,e):=by unfold playG;rw [if_pos h,hp]
theorem pl_end (h:o.kind=2) {t:Bool} (hp:endG d g o.id o.holder=(t,e,d',g')):playG d g o=(d',g',Grt.zero,e):=by unfold playG;rw [if_neg (by rw [h];decide),if_pos h,hp]
theorem pl_mark (h:o.kind=3) {t:Bool} (hp:markG g o.id o.origin o.number=(t,g')):playG d g o=(d,g',Grt.zero,0):=by unfold playG;rw [if_neg (by rw [h];decide),if_neg (by rw [h];decide),if_pos h,hp]
theorem pl_done (h:o.kind=4) {t:Bool} (hp:doneG d g o.id o.holder o.origin o.number=(t,e,d',g')):playG d g o=(d',g',Grt.zero,e):=by unfold playG;rw [if_neg (by rw [h];decide),if_neg (by rw [h];decide),if_neg (by rw [h];decide),if_pos h,hp]
theorem pl_arm (h:o.kind=7):playG d g o=(armD d o.k,g,Grt.zero,0):=by unfold playG;rw [if_neg (by rw [h];decide),if_neg (by rw [h];decide),if_neg (by rw [h];decide),if_neg (by rw [h];decide),if_pos h]
theorem pl_on (h:o.kind=8) (hp:reopG d g o.now=(d',g')):playG d g o=(d',g',Grt.zero,0):=by unfold playG;rw [if_neg (by rw [h];decide),if_neg (by rw [h];decide),if_neg (by rw [h];decide),if_neg (by rw [h];decide),if_neg (by rw [h];decide),if_pos h,hp]
theorem pl_grant (h:o.kind≠1∧o.kind≠2∧o.kind≠3∧o.kind≠4∧o.kind≠7∧o.kind≠8) (hp:grantG d g o.req=(x,e,d',g')):playG d g o=(d',g',x,e):=by
 obtain ⟨h1,h2,h3,h4,h5,h6⟩:=h
 unfold playG
 rw [if_neg h1,if_neg h2,if_neg h3,if_neg h4,if_neg h5,if_neg h6,hp]
end
theorem GS.box {w0 w w':World} {pg:Nat} {b:GB} {d:Dk} {g:Gtr} (s:GS w0 w pg b d g) {S:List Nat} (m:Mod S w w') (hS:∀ k,k∈S→w0.heap.size≤k∧k ∉ b.all pg):GS w0 w' pg b d g :=
 ⟨s.gm.other m (fun k hk e=>(hS k e).2 hk),s.lo,mod_fresh s.md m (fun k hk=>(hS k hk).1),s.gi,s.n49⟩
def PlTo (w0 w:World) (pg:Nat) (b:GB) (R:Dk × Gtr × Grt × Int) (e:Ending) (w':World):Prop :=
 ∃ pg' b' q c,e=.returned (.tuple #[.pointer (some ⟨pg',0,none⟩),aggG R.2.2.1 (.slice q R.2.2.1.stamp.length c),.int .i64 R.2.2.2])∧GS w0 w' pg' b' R.1 R.2.1∧GTx w pg b w' pg' b'∧RdN w' (.slice q R.2.2.1.stamp.length c) R.2.2.1.stamp
def PlMid (w0 w:World) (pg:Nat) (b:GB) (b7 b9:Nat) (R:Dk × Gtr × Grt × Int) (s1 s10:Value) (wx:World):Prop :=
 ∃ pg' b' q c,s1=.pointer (some ⟨pg',0,none⟩)∧s10=.int .i64 R.2.2.2∧GS w0 wx pg' b' R.1 R.2.1∧GTx w pg b wx pg' b'∧Asd wx pg' b' b7∧wx.heap[b7]?=some (.cells #[.int .i64 0,.int .i64 0,.string ⟨#[]⟩,.int .i64 0,.slice none 0 0,.int .i64 0] 35 (0,0)) ∧
   wx.heap[b9]?=some (.cells #[.int .i64 R.2.2.1.id,.int .i64 R.2.2.1.holder,.string R.2.2.1.path,.int .i64 R.2.2.1.mode,.slice q R.2.2.1.stamp.length c,.int .i64 R.2.2.1.term] 35 (0,0))∧RdN wx (.slice q R.2.2.1.stamp.length c) R.2.2.1.stamp∧∀ k,k∈ob (.slice q R.2.2.1.stamp.length c)→k≠b7
theorem pl_box {w0 w W3 w5 w7 W8:World} {pg:Nat} {b b':GB} {b7 b9:Nat} {x:Grt} {e:Int} {d':Dk} {g':Gtr} {q:Option Addr} {c:Nat} (m3:Mod [] w W3) (h7:W3.heap[b7]?=some (.cells #[.int .i64 0,.int .i64 0,.string ⟨#[]⟩,.int .i64 0,.slice none 0 0,.int .i64 0] 35 (0,0)))
 (h9:W3.heap[b9]?=some (.cells #[.int .i64 0,.int .i64 0,.string ⟨#[]⟩,.int .i64 0,.slice none 0 0,.int .i64 0] 35 (0,0))) (hw0:w0.heap.size≤b9) (hw9:w.heap.size≤b9) (a7:Asd W3 pg b b7) (a9:Asd W3 pg b b9) (h79:b7≠b9) (m35:Mod [] W3 w5)
 (s:GS w0 w7 pg b' d' g') (t:GTo w5 pg b w7 b') (ho:w7.ownsRow w5.heap.size 3 1 (.slice q x.stamp.length c) x.stamp.length (x.stamp.map (Value.int .i64))) (hW:W8=stL w7 b9 0 [.int .i64 x.id,.int .i64 x.holder,.string x.path,.int .i64 x.mode,.slice q x.stamp.length c,.int .i64 x.term]) :
 PlMid w0 w pg b b7 b9 (d',g',x,e) (.pointer (some ⟨pg,0,none⟩)) (.int .i64 e) W8:=by
 have t3:GTo W3 pg b w7 b':=(GTo.quiet m35).trans t
 have k9:=t3.mod.at_ h9 a9.2
 have k7:=t3.mod.at_ h7 a7.2
 have n9:=(Asd.to a9 t3).2
 have m8:Mod [b9] w7 W8:=by rw [hW];exact stL_mod (fun _=>by simp) _ 0 w7 (Mod.refl _ _)
 have z:=stL_all k9 [.int .i64 x.id,.int .i64 x.holder,.string x.path,.int .i64 x.mode,.slice q x.stamp.length c,.int .i64 x.term] rfl
 rw [← hW] at z
 have s8:=s.box m8 (fun k hk=>by simp at hk;rw [hk];exact ⟨hw0,n9⟩)
 have a7':=Asd.to a7 t3
 refine ⟨pg,b',q,c,rfl,rfl,s8,⟨(m3.mono (by simp)).trans (t3.mod.trans m8 (T:=[b9]) (U:=b9::b.all pg) (fun _ h _=>List.mem_cons_of_mem _ h) (fun k hk _=>by simp at hk;rw [hk];simp)) (fun _ h _=>h) (fun k hk hlt=>?_),fun k hk=>?_,t3.dk.1⟩,⟨Nat.lt_of_lt_of_le a7'.1 m8.size,a7'.2⟩,m8.at_ k7 (by simpa using h79),z,(rdN_of_row ho).mod m8 (fun k hk e=>?_),fun k hk=>?_⟩
 · rcases List.mem_cons.1 hk with e | e
   · omega
   · exact e
 · rcases t3.own k hk with e | e
   · exact .inl e
   · have:=m3.size;exact .inr (by omega)
 · have h1:=(ob_of_row ho k hk).1
   have h2:=a9.1
   have h3:=m35.size
   simp at e
   omega
 · have h1:=(ob_of_row ho k hk).1
   have h2:=a7.1
   have h3:=m35.size
   omega
theorem pl_none {w0 w W3 wx:World} {pg pg':Nat} {b b':GB} {b7 b9:Nat} {e:Int} {d':Dk} {g':Gtr} (m3:Mod [] w W3) (h7:W3.heap[b7]?=some (.cells #[.int .i64 0,.int .i64 0,.string ⟨#[]⟩,.int .i64 0,.slice none 0 0,.int .i64 0] 35 (0,0)))
 (h9:W3.heap[b9]?=some (.cells #[.int .i64 0,.int .i64 0,.string ⟨#[]⟩,.int .i64 0,.slice none 0 0,.int .i64 0] 35 (0,0))) (a7:Asd W3 pg b b7) (a9:Asd W3 pg b b9) (s:GS w0 wx pg' b' d' g') (t:GTx W3 pg b wx pg' b') :
 PlMid w0 w pg b b7 b9 (d',g',Grt.zero,e) (.pointer (some ⟨pg',0,none⟩)) (.int .i64 e) wx :=
 ⟨pg',b',none,0,rfl,rfl,s,(GTx.quiet m3).trans t,t.asd a7,t.blk a7 h7,t.blk a9 h9,rdN_nil _,by simp [ob,Value.ownBlock]⟩
theorem played_any {w0 w:World} {pg k:Nat} {b:GB} {d:Dk} {g:Gtr} {o:OpG} {q:Option Addr} {c:Nat} (s:GS w0 w pg b d g) (hn:Rn k d g) (hr:RdN w (.slice q o.own.stamp.length c) o.own.stamp) (hi:inO o) :
 Calls Tryz.prog 26 #[.pointer (some ⟨b.pd,0,none⟩),.pointer (some ⟨pg,0,none⟩),.agg (opCells o (.slice q o.own.stamp.length c)).toArray] w fun e w'=>PlTo w0 w pg b (playG d g o) e w':=by
 obtain ⟨R,hR⟩:∃ R,playG d g o=R:=⟨_,rfl⟩
 rw [hR]
 obtain ⟨⟨-,-,-,-,-,-,hk7,-,-⟩,⟨-,hlp,hls⟩,hop⟩:=hi
 have hk7':=(i64w_iff.1 hk7).2
 obtain ⟨kd,nw,⟨lf,li,lp,lm,la,lt,ls,le,lr⟩,oi,oh,op,om,ot,ok,ofr,oo,on⟩:=o
 simp only at hlp hls hop hr hk7'
 obtain ⟨n,hna⟩:∃ n,la.length=n:=⟨_,rfl⟩
 have how:=fun {W:World} (h:RdN W (.slice q la.length c) la)=>own_any (w:=W) (l:=⟨lf,li,lp,lm,la,lt,ls,le,lr⟩) (q:=q) (c:=c) h hls
 unfold opCells aggL cellsL at *
 unfold OwnTo aggL cellsL at how
 simp only at how ⊢
 rw [hna] at how hr ⊢
 obtain ⟨W3,hW3⟩:∃ W3,W3=((w.alloc (.cells #[.int .i64 kd,.int .i64 nw,.int .i64 lf,.int .i64 li,.string lp,.int .i64 lm,.slice q n c,.int .i64 lt,.int .i64 ls,.int .i64 le,.bool lr,.int .i64 oi,.int .i64 oh,.string op,.int .i64 om,.int .i64 ot,.int .i64 ok,.bool ofr,.int .i64 oo,.int .i64 on] 33 (0,0))).alloc (.cells #[.int .i64 0,.int .i64 0,.string ⟨#[]⟩,.int .i64 0,.slice none 0 0,.int .i64 0] 35 (0,0))).alloc (.cells #[.int .i64 0,.int .i64 0,.string ⟨#[]⟩,.int .i64 0,.slice none 0 0,.int .i64 0] 35 (0,0)):=⟨_,rfl⟩
 have m3:Mod [] w W3:=by rw [hW3];exact (((Mod.refl _ _).alloc _).alloc _).alloc _
 have h5:W3.heap[w.heap.size]?=some (.cells #[.int .i64 kd,.int .i64 nw,.int .i64 lf,.int .i64 li,.string lp,.int .i64 lm,.slice q n c,.int .i64 lt,.int .i64 ls,.int .i64 le,.bool lr,.int .i64 oi,.int .i64 oh,.string op,.int .i64 om,.int .i64 ot,.int .i64 ok,.bool ofr,.int .i64 oo,.int .i64 on] 33 (0,0)):=by rw [hW3];exact blk_alloc (blk_alloc (heap_alloc_new w _) _) _
 have h7:W3.heap[w.heap.size+1]?=some (.cells #[.int .i64 0,.int .i64 0,.string ⟨#[]⟩,.int .i64 0,.slice none 0 0,.int .i64 0] 35 (0,0)):=by
  rw [hW3,← World.size_alloc w (.cells #[.int .i64 kd,.int .i64 nw,.int .i64 lf,.int .i64 li,.string lp,.int .i64 lm,.slice q n c,.int .i64 lt,.int .i64 ls,.int .i64 le,.bool lr,.int .i64 oi,.int .i64 oh,.string op,.int .i64 om,.int .i64 ot,.int .i64 ok,.bool ofr,.int .i64 oo,.int .i64 on] 33 (0,0))]
  exact blk_alloc (heap_alloc_new _ _) _
 have h9:W3.heap[w.heap.size+1+1]?=some (.cells #[.int .i64 0,.int .i64 0,.string ⟨#[]⟩,.int .i64 0,.slice none 0 0,.int .i64 0] 35 (0,0)):=by
  rw [hW3,← World.size_alloc w (.cells #[.int .i64 kd,.int .i64 nw,.int .i64 lf,.int .i64 li,.string lp,.int .i64 lm,.slice q n c,.int .i64 lt,.int .i64 ls,.int .i64 le,.bool lr,.int .i64 oi,.int .i64 oh,.string op,.int .i64 om,.int .i64 ot,.int .i64 ok,.bool ofr,.int .i64 oo,.int .i64 on] 33 (0,0)),← World.size_alloc (w.alloc _) (.cells #[.int .i64 0,.int .i64 0,.string ⟨#[]⟩,.int .i64 0,.slice none 0 0,.int .i64 0] 35 (0,0))]
  exact heap_alloc_new _ _
 have a5:=s.asd m3 (Nat.le_refl _) (lt_of_block h5)
 have a7:=s.asd m3 (by omega) (lt_of_block h7)
 have a9:=s.asd m3 (by omega) (lt_of_block h9)
 have hz0:=s.md.size
 have s3:=s.quiet m3
 have hr3:=hr.mod m3 (by simp)
 have HB:=hd7 m3 h5 h7 h9 a5 a7 a9
 have HS:=hd4 s3 hr3 hn hR
 have hC5:∀ W,Mod (b.all pg) W3 W→∀ i,W.cell? ⟨w.heap.size,i,none⟩=_:=fun W m=>blk_cell (m.at_ h5 a5.2)
 have HC:=hide hC5
 have C5:=blk_cell h5
 have L5:=lt_of_block h5
 clear s hr hk7 m3 h5 h7 h9 a5 a7 a9 s3 hr3 hn hR hC5
 go_enter Tryz.func26,Tryz.ntmps26
 go_upto_block 0 with fail
 rw [← hW3]
 clear hW3
 go_cut [1,10] (fun s1 s10 wx=>PlMid w0 w pg b (w.heap.size+1) (w.heap.size+1+1) R s1 s10 wx)
 case first =>
  by_cases k1:kd=1
  · subst k1
    obtain ⟨P,hP⟩:∃ P,renewG d g nw ⟨lf,li,lp,lm,la,lt,ls,le,lr⟩ oi oh ot ofr=P:=⟨_,rfl⟩
    obtain ⟨⟨xi,xh,xp,xm,xs,xt⟩,xe,d',g'⟩:=P
    obtain rfl:R=(d',g',⟨xi,xh,xp,xm,xs,xt⟩,xe):=HS.out.2.2.2.symm.trans (pl_renew rfl hP)
    have hcall:=fun {W:World} {q':Option Addr} {c':Nat} (s:GS w0 W pg b d g) h1 h2=>renew_eq (now:=nw) (id:=oi) (holder:=oh) (t:=ot) (own:=⟨lf,li,lp,lm,la,lt,ls,le,lr⟩) (fresh:=ofr) (q:=q') (c:=c') s h1 h2 (by simp only;omega)
    unfold aggL cellsL at hcall
    rw [hP] at hcall
    simp only at hcall
    rw [hna] at hcall
    clear hP
    go_upto_region 6 with fail
    refine pB 18 (fun w'=>Mod (b.all pg) W3 w') ((Mod.refl _ _).drew) ?_
    refine pP 0 ?_;refine pP 1 ?_;refine pP 3 ?_;refine pP 6 ?_;refine pP 8 ?_;refine pP 10 ?_;refine pP 12 ?_
    refine pT 2 rfl [14,15,16,18] (fun w' h=>by have D:=HC.out _ h;go_simp;try with_reducible rfl) ?_
    refine pT 4 rfl [5,14,15,16,18] (fun w' h=>by have D:=HC.out _ h;go_simp;try with_reducible rfl) ?_
    refine pT 7 rfl [14,15,16,18] (fun w' h=>by have D:=HC.out _ h;go_simp;try with_reducible rfl) ?_
    refine pT 9 rfl [14,15,16,18] (fun w' h=>by have D:=HC.out _ h;go_simp;try with_reducible rfl) ?_
    refine pT 11 rfl [14,15,16,18] (fun w' h=>by have D:=HC.out _ h;go_simp;try with_reducible rfl) ?_
    refine pT 13 rfl [14,15,16,18] (fun w' h=>by have D:=HC.out _ h;go_simp;try with_reducible rfl) ?_
    refine pX 5 fun hT K HK=>?_
    go_simp
    refine (how (HS.out.2.1.mod ((Mod.refl [] W3).drew) (by simp))).mono ?_
    rintro e w5 ⟨q5,c5,rfl,hr5,ho5,m5⟩
    have hap:∀ k,k∈ob (.slice q5 n c5)→k ∉ b.all pg:=fun k hk e=>by have h1:=HS.out.1.gm.lt k e;have h2:=(ho5 k hk).1;simp at h2;omega
    have m35:Mod [] W3 w5:=((Mod.refl [] W3).drew).then m5
    have H5:=hd4 (HS.out.1.quiet m35) hr5 hap m35
    refine HK.out _ _ _ (m35.mono (by simp)) ?_
    clear HK K hT hr5 ho5 m5 hap m35 how
    refine pX 14 fun hT K HK=>?_
    go_simp
    refine (hcall H5.out.1 H5.out.2.1 H5.out.2.2.1).mono ?_
    rintro e w7 ⟨q7,c7,b7,rfl,s7,t7,ro7,-⟩
    unfold aggG cellsG
    dsimp only
    have m37:Mod (b.all pg) W3 w7:=hT.then t7.mod
    have H7:=hd3 s7 t7 ro7
    refine HK.out _ _ _ m37 ?_
    clear HK K hT s7 t7 ro7 m37 hcall
    refine pP 15 ?_;refine pP 16 ?_;refine pP 17 ?_
    refine pY 18 fun hT K HK=>?_
    have k9:=hT.at_ HB.out.2.2.2.1 HB.out.2.2.2.2.2.2.2
    have D9:=blk_cell k9
    have F9:=blk_free k9
    have L9:=lt_of_block k9
    clear k9 hT C5 L5
    go_simp
    obtain ⟨W8,hW8⟩:∃ W8,W8=stL w7 (w.heap.size+1+1) 0 [.int .i64 xi,.int .i64 xh,.string xp,.int .i64 xm,.slice q7 xs.length c7,.int .i64 xt]:=⟨_,rfl⟩
    have HW8:=hide hW8
    unfold stL stL stL stL stL stL stL at hW8
    rw [← hW8]
    refine HK.out _ _ _ ?_
    clear HK K D9 F9 L9 hW8
    refine pP 19 ?_
    refine pD ?_
    go_wp2_with fail
    go_meet
    case rel=>exact pl_box (x:=⟨xi,xh,xp,xm,xs,xt⟩) HB.out.1 HB.out.2.2.1 HB.out.2.2.2.1 (by omega) (by omega) HB.out.2.2.2.2.2.1 HB.out.2.2.2.2.2.2 (by omega) H5.out.2.2.2 H7.out.1 H7.out.2.1 H7.out.2.2 HW8.out
  have k1b:(kd==1)=false:=by simpa using k1
  by_cases k2:kd=2
  · subst k2
    clear how
    obtain ⟨⟨xb,xe,d',g'⟩,hP⟩:∃ P,endG d g oi oh=P:=⟨_,rfl⟩
    obtain rfl:R=(d',g',Grt.zero,xe):=HS.out.2.2.2.symm.trans (pl_end rfl hP)
    have hcall:=end_eq HS.out.1 oi oh
    unfold BvS at hcall
    rw [hP] at hcall
    go_wp2_with (go_at_call 16;refine hcall.mono ?_;rintro e w4 ⟨rfl,b4,s4,t4⟩;have H4:=hd2 s4 t4;clear s4 t4 C5 L5 hcall)
    go_meet
    case rel=>exact pl_none HB.out.1 HB.out.2.2.1 HB.out.2.2.2.1 HB.out.2.2.2.2.2.1 HB.out.2.2.2.2.2.2 H4.out.1 H4.out.2.x
  have k2b:(kd==2)=false:=by simpa using k2
  by_cases k3:kd=3
  · subst k3
    clear how k2b
    obtain ⟨⟨xb,g'⟩,hP⟩:∃ P,markG g oi oo on=P:=⟨_,rfl⟩
    obtain rfl:R=(d,g',Grt.zero,0):=HS.out.2.2.2.symm.trans (pl_mark rfl hP)
    have hcall:=mark_eq HS.out.1 oi oo on hP
    go_wp2_with (go_at_call 19;refine hcall.mono ?_;rintro e w4 ⟨rfl,b4,s4,t4⟩;have H4:=hd2 s4 t4;clear s4 t4 C5 L5 hcall)
    go_meet
    case rel=>exact pl_none HB.out.1 HB.out.2.2.1 HB.out.2.2.2.1 HB.out.2.2.2.2.2.1 HB.out.2.2.2.2.2.2 H4.out.1 H4.out.2.x
  have k3b:(kd==3)=false:=by simpa using k3
  by_cases k4:kd=4
  · subst k4
    clear how k2b k3b
    obtain ⟨⟨xb,xe,d',g'⟩,hP⟩:∃ P,doneG d g oi oh oo on=P:=⟨_,rfl⟩
    obtain rfl:R=(d',g',Grt.zero,xe):=HS.out.2.2.2.symm.trans (pl_done rfl hP)
    have hcall:=done_eq HS.out.1 oi oh oo on
    unfold BvS at hcall
    rw [hP] at hcall
    go_wp2_with (go_at_call 17;refine hcall.mono ?_;rintro e w4 ⟨rfl,b4,s4,t4⟩;have H4:=hd2 s4 t4;clear s4 t4 C5 L5 hcall)
    go_meet
    case rel=>exact pl_none HB.out.1 HB.out.2.2.1 HB.out.2.2.2.1 HB.out.2.2.2.2.2.1 HB.out.2.2.2.2.2.2 H4.out.1 H4.out.2.x
  have k4b:(kd==4)=false:=by simpa using k4
  by_cases k7:kd=7
  · subst k7
    clear how k2b k3b k4b
    obtain rfl:R=(armD d ok,g,Grt.zero,0):=HS.out.2.2.2.symm.trans (pl_arm rfl)
    have hcall:=arm_eq HS.out.1 ok hk7'
    go_wp2_with (go_at_call 30;refine hcall.mono ?_;rintro e w4 ⟨rfl,s4,t4⟩;have H4:=hd2 s4 t4;clear s4 t4 C5 L5 hcall)
    go_meet
    case rel=>exact pl_none HB.out.1 HB.out.2.2.1 HB.out.2.2.2.1 HB.out.2.2.2.2.2.1 HB.out.2.2.2.2.2.2 H4.out.1 H4.out.2.x
  have k7b:(kd==7)=false:=by simpa using k7
  by_cases k8:kd=8
  · subst k8
    clear how k2b k3b k4b k7b
    obtain ⟨l',o1,o2,o3,o4⟩:=reop_st HS.out.2.2.1.lg nw
    obtain rfl:R=(onD d,openG l' (clampN nw),Grt.zero,0):=HS.out.2.2.2.symm.trans (pl_on rfl o4)
    have htm:timeOk (clampN nw):=by unfold timeOk clampN;omega
    have hcl:min (max nw 0) 1152921504606846976=clampN nw:=rfl
    have HO:=hd3 o1 o3 htm
    have hcall:=on_eq HS.out.1
    clear o1 o2 o3 o4 htm
    go_wp2_with (first
     | (go_at_call 29;refine hcall.mono ?_;rintro e w4 ⟨rfl,s4,t4⟩;have H4:=hd2 s4 t4.x;have D5:=HC.out _ t4.mod;clear s4 t4 C5 L5 hcall)
     | (go_at_call 31;refine (ledopen_eq H4.out.1 HO.out.1).mono ?_;rintro e w5 ⟨pl,gv,lv,rfl,s5⟩;have H5:=hide s5;have C5:=HC.out _ (H4.out.2.mod.then s5.tw);clear s5)
     | (go_at_call 11;refine (gopen_eq H5.out HO.out.2.1.lok HO.out.2.1.n49 HO.out.2.2).mono ?_;rintro e w6 ⟨pg',b',rfl,s6,t6⟩;have H6:=hd2 s6 (H4.out.2.trans t6);clear s6 t6 C5)
     | fail)
    go_meet
    case rel=>exact pl_none HB.out.1 HB.out.2.2.1 HB.out.2.2.2.1 HB.out.2.2.2.2.2.1 HB.out.2.2.2.2.2.2 H6.out.1 H6.out.2
  have k8b:(kd==8)=false:=by simpa using k8
  · obtain ⟨P,hP⟩:∃ P,grantG d g ⟨nw,oh,ot,⟨lf,li,lp,lm,la,lt,ls,le,lr⟩,op,om⟩=P:=⟨_,rfl⟩
    obtain ⟨⟨xi,xh,xp,xm,xs,xt⟩,xe,d',g'⟩:=P
    obtain rfl:R=(d',g',⟨xi,xh,xp,xm,xs,xt⟩,xe):=HS.out.2.2.2.symm.trans (pl_grant ⟨k1,k2,k3,k4,k7,k8⟩ hP)
    have hcall:=fun {W:World} {q':Option Addr} {c':Nat} (s:GS w0 W pg b d g) h1 h2=>grant_eq (r:=⟨nw,oh,ot,⟨lf,li,lp,lm,la,lt,ls,le,lr⟩,op,om⟩) (q:=q') (c:=c') s h1 h2 (by simp only;omega) (by simp only;omega)
    unfold aggL cellsL at hcall
    rw [hP] at hcall
    simp only at hcall
    rw [hna] at hcall
    clear hP k1 k2 k3 k4 k7 k8
    go_upto_region 4 with fail
    refine pB 18 (fun w'=>Mod (b.all pg) W3 w') ((Mod.refl _ _).drew) ?_
    refine pP 0 ?_;refine pP 1 ?_;refine pP 3 ?_;refine pP 6 ?_;refine pP 8 ?_;refine pP 10 ?_;refine pP 12 ?_
    refine pT 2 rfl [14,15,16,18] (fun w' h=>by have D:=HC.out _ h;go_simp;try with_reducible rfl) ?_
    refine pT 4 rfl [5,14,15,16,18] (fun w' h=>by have D:=HC.out _ h;go_simp;try with_reducible rfl) ?_
    refine pT 7 rfl [14,15,16,18] (fun w' h=>by have D:=HC.out _ h;go_simp;try with_reducible rfl) ?_
    refine pT 9 rfl [14,15,16,18] (fun w' h=>by have D:=HC.out _ h;go_simp;try with_reducible rfl) ?_
    refine pT 11 rfl [14,15,16,18] (fun w' h=>by have D:=HC.out _ h;go_simp;try with_reducible rfl) ?_
    refine pT 13 rfl [14,15,16,18] (fun w' h=>by have D:=HC.out _ h;go_simp;try with_reducible rfl) ?_
    refine pX 5 fun hT K HK=>?_
    go_simp
    refine (how (HS.out.2.1.mod ((Mod.refl [] W3).drew) (by simp))).mono ?_
    rintro e w5 ⟨q5,c5,rfl,hr5,ho5,m5⟩
    have hap:∀ k,k∈ob (.slice q5 n c5)→k ∉ b.all pg:=fun k hk e=>by have h1:=HS.out.1.gm.lt k e;have h2:=(ho5 k hk).1;simp at h2;omega
    have m35:Mod [] W3 w5:=((Mod.refl [] W3).drew).then m5
    have H5:=hd4 (HS.out.1.quiet m35) hr5 hap m35
    refine HK.out _ _ _ (m35.mono (by simp)) ?_
    clear HK K hT hr5 ho5 m5 hap m35 how
    refine pX 14 fun hT K HK=>?_
    go_simp
    refine (hcall H5.out.1 H5.out.2.1 H5.out.2.2.1).mono ?_
    rintro e w7 ⟨q7,c7,b7,rfl,s7,t7,ro7,-⟩
    unfold aggG cellsG
    dsimp only
    have m37:Mod (b.all pg) W3 w7:=hT.then t7.mod
    have H7:=hd3 s7 t7 ro7
    refine HK.out _ _ _ m37 ?_
    clear HK K hT s7 t7 ro7 m37 hcall
    refine pP 15 ?_;refine pP 16 ?_;refine pP 17 ?_
    refine pY 18 fun hT K HK=>?_
    have k9:=hT.at_ HB.out.2.2.2.1 HB.out.2.2.2.2.2.2.2
    have D9:=blk_cell k9
    have F9:=blk_free k9
    have L9:=lt_of_block k9
    clear k9 hT C5 L5
    go_simp
    obtain ⟨W8,hW8⟩:∃ W8,W8=stL w7 (w.heap.size+1+1) 0 [.int .i64 xi,.int .i64 xh,.string xp,.int .i64 xm,.slice q7 xs.length c7,.int .i64 xt]:=⟨_,rfl⟩
    have HW8:=hide hW8
    unfold stL stL stL stL stL stL stL at hW8
    rw [← hW8]
    refine HK.out _ _ _ ?_
    clear HK K D9 F9 L9 hW8
    refine pP 19 ?_
    refine pD ?_
    go_wp2_with fail
    go_meet
    case rel=>exact pl_box (x:=⟨xi,xh,xp,xm,xs,xt⟩) HB.out.1 HB.out.2.2.1 HB.out.2.2.2.1 (by omega) (by omega) HB.out.2.2.2.2.2.1 HB.out.2.2.2.2.2.2 (by omega) H5.out.2.2.2 H7.out.1 H7.out.2.1 H7.out.2.2 HW8.out
 case rest =>
  obtain ⟨pg',b',q',c',rfl,rfl,s8,t8,a7,k7,k9,hrd,hne⟩:=hcut
  obtain ⟨X,rfl⟩:∃ x:World,x=wc:=⟨_,rfl⟩
  obtain ⟨d',g',⟨xi,xh,xp,xm,xs,xt⟩,xe⟩:=R
  dsimp only at s8 k9 hrd ⊢
  obtain ⟨nx,hnx⟩:∃ n,xs.length=n:=⟨_,rfl⟩
  have HZ:=hd6 s8 t8 a7 k7 k9 hrd
  rw [hnx] at k9
  have HK9:=hide k9
  clear s8 t8 a7 k7 k9 how C5 L5
  go_upto_region 21 with fail
  refine pB 4 (fun w'=>Mod [] X w') ((Mod.refl _ _).drew) ?_
  obtain ⟨Y,hY⟩:∃ Y,Y=X.drew:=⟨_,rfl⟩
  rw [← hY]
  clear hY
  refine pP 0 ?_
  refine pT 1 rfl [4] (fun w' h=>by have D:=blk_cell (h.at_ HK9.out (by simp));go_simp;try with_reducible rfl) ?_
  refine pP 2 ?_;refine pP 3 ?_
  refine pY 4 fun hT K HK=>?_
  have k7:=hT.at_ HZ.out.2.2.2.1 (by simp)
  have D7:=blk_cell k7
  have F7:=blk_free k7
  have L7:=lt_of_block k7
  have HT:=hd2 hT k7
  clear hT k7
  go_simp
  obtain ⟨W8,hW8⟩:∃ W8,W8=stL Y (w.heap.size+1) 0 [.int .i64 xi,.int .i64 xh,.string xp,.int .i64 xm,.slice q' nx c',.int .i64 xt]:=⟨_,rfl⟩
  have HW8:=hide hW8
  unfold stL stL stL stL stL stL stL at hW8
  rw [← hW8]
  refine HK.out _ _ _ ?_
  clear HK K D7 F7 L7 hW8
  refine pP 5 ?_
  refine pD ?_
  go_wp2_with fail
  have z:=stL_all HT.out.2 [.int .i64 xi,.int .i64 xh,.string xp,.int .i64 xm,.slice q' nx c',.int .i64 xt] rfl
  have m8:Mod [w.heap.size+1] X W8:=by rw [HW8.out];exact stL_mod (fun _=>by simp) _ 0 Y (HT.out.1.mono (by simp))
  rw [← HW8.out] at z
  refine bodyPost_ret (res_tct Tryz.results26 _ _ rfl z Tryz.isAgg35 Tryz.sizeOf35 rfl) rfl ?_
  have h2:=HZ.out
  rw [hnx] at h2
  refine ⟨pg',b',q',c',by rw [hnx];rfl,h2.1.box m8 (fun k hk=>by simp at hk;rw [hk];exact ⟨by omega,h2.2.2.1.2⟩),⟨h2.2.1.mod.trans m8 (fun _ x _=>x) (fun k hk hlt=>by simp at hk;omega),h2.2.1.own,h2.2.1.pd⟩,?_⟩
  exact hrd.mod m8 (fun k hk e=>by simp at e;exact hne k hk e)
end Go.Proofs.YtllljngpgjkdiaaGreatDoor
/-
  THE LAW GrantorApart: its walk.
-/
namespace Go.Proofs.YtllljngpgjkdiaaGreatDoor
open Go.RowKit Go.Maps

theorem lst_grants {g:Gtr} {lh:List (Hld × Value)} (h:lh.map Prod.fst=listG g):lh.map (fun p=>p.1.gr)=g.l.book.grants:=by
 have:lh.map (fun p=>p.1.gr)=(lh.map Prod.fst).map Hld.gr:=by rw [List.map_map];rfl
 rw [this,h]
 unfold listG
 rw [List.map_map]
 exact List.map_id' _
theorem lst_at {g:Gtr} {lh:List (Hld × Value)} (h:lh.map Prod.fst=listG g) {j:Nat} (hj:j<lh.length):(lh.getD j default).1.gr∈g.l.book.grants:=by
 rw [← lst_grants h]
 exact List.mem_map.2 ⟨_,by simp [hj],rfl⟩
theorem op_range {w:World} {b off:Nat} {o:OpG} {v:Value} (h:∀ j,j<20→w.cell? ⟨b,off+j,none⟩=(opCells o v)[j]?):w.rangeAt b off (opCells o v):=fun j _ hj=>(h j (List.getElem?_eq_some_iff.1 hj).1).trans hj
theorem op_size (o:OpG) (v:Value):(Tryz.prog.info? 33).map (·.size)=some (opCells o v).length:=by
 show _=some 20
 kernel_rfl
theorem op_one (o:OpG) (q:Option Addr) (n c:Nat):(opCells o (.slice q n c)).toArray.all (·.oneCell')=true:=all_oneCell_toArray (fun v hv=>by
 simp only [opCells,List.mem_cons,List.not_mem_nil,or_false] at hv
 rcases hv with rfl | rfl | rfl | rfl | rfl | rfl | rfl | rfl | rfl | rfl | rfl | rfl | rfl | rfl | rfl | rfl | rfl | rfl | rfl | rfl <;> rfl)
end Go.Proofs.YtllljngpgjkdiaaGreatDoor
/-
  THE LAW GrantorHeld: its walk.
-/
namespace Go.Proofs.YtllljngpgjkdiaaGreatDoor
set_option maxRecDepth 100000
set_option maxHeartbeats 8000000
open Go.RowKit Go.Maps

theorem agB_take {r:Req} {l:List Hld} {k:Nat} (h:k<l.length):agB r (l.take (k+1))=(agB r (l.take k)||(decide (r.now<(l.getD k default).exp)&&clashB (l.getD k default).gr (askG r))):=by
 have e:l.getD k default=l[k]:=by simp [h]
 rw [e]
 unfold agB
 rw [List.take_succ_eq_append_getElem h,List.any_append]
 simp
theorem lvN_take {now:Int} {l:List Hld} {k:Nat} (h:k<l.length):lvN now (l.take (k+1))=lvN now (l.take k)+if now<(l.getD k default).exp then 1 else 0:=by
 have e:l.getD k default=l[k]:=by simp [h]
 rw [e]
 unfold lvN
 rw [List.take_succ_eq_append_getElem h,List.filter_append,List.length_append]
 congr 1
 by_cases q:now<l[k].exp <;> simp [q]
def HdRel (W:World) (pd N b3:Nat) (C3:Array Value) (s6 s25:Value) (wr:World):Prop :=
 ∃ (j pg:Nat) (b:GB) (d:Dk) (g:Gtr),s25=.int .i64 (j:Int)∧s6=.pointer (some ⟨pg,0,none⟩)∧j≤N∧b.pd=pd∧GS W wr pg b d g∧Rn j d g∧Asd wr pg b b3∧wr.heap[b3]?=some (.cells C3 33 (0,0))∧j≤101
def zG:Array Value:=#[.int .i64 0,.int .i64 0,.string ⟨#[]⟩,.int .i64 0,.slice none 0 0,.int .i64 0]
def HdMid (W X:World) (pg:Nat) (b:GB) (R:Grt × Int × Dk × Gtr) (s11 s12:Value) (wx:World):Prop :=
 ∃ (b11:Nat) (b':GB) (q:Option Addr) (c:Nat),s11=.pointer (some ⟨b11,0,none⟩)∧s12=.int .i64 R.2.1∧GS W wx pg b' R.2.2.1 R.2.2.2∧GTo X pg b wx b' ∧
   wx.heap[b11]?=some (.cells #[.int .i64 R.1.id,.int .i64 R.1.holder,.string R.1.path,.int .i64 R.1.mode,.slice q R.1.stamp.length c,.int .i64 R.1.term] 35 (0,0))
theorem hd_end {W X V W8:World} {pg b11:Nat} {b b':GB} {x:Grt} {e:Int} {d':Dk} {g':Gtr} {q:Option Addr} {c:Nat} (s:GS W V pg b' d' g') (t:GTo X pg b V b') (hb:V.heap[b11]?=some (.cells zG 35 (0,0))) (h1:X.heap.size≤b11) (h2:b11 ∉ b'.all pg) (h3:W.heap.size≤X.heap.size)
 (hW:W8=stL V b11 0 [.int .i64 x.id,.int .i64 x.holder,.string x.path,.int .i64 x.mode,.slice q x.stamp.length c,.int .i64 x.term]):HdMid W X pg b (x,e,d',g') (.pointer (some ⟨b11,0,none⟩)) (.int .i64 e) W8:=by
 have m8:Mod [b11] V W8:=by rw [hW];exact stL_mod (fun _=>by simp) _ 0 V (Mod.refl _ _)
 have z:=stL_all hb [.int .i64 x.id,.int .i64 x.holder,.string x.path,.int .i64 x.mode,.slice q x.stamp.length c,.int .i64 x.term] rfl
 rw [← hW] at z
 exact ⟨b11,b',q,c,rfl,rfl,s.box m8 (fun k hk=>by simp at hk;rw [hk];exact ⟨by omega,h2⟩),⟨t.mod.trans m8 (fun _ x _=>x) (fun k hk hlt=>by simp at hk;omega),t.own,t.dk⟩,z⟩
theorem build_ask (h:Int) (p:ByteArray) (m:Int) (w:World):(Instr.build 35 #[(1,.int .i64 h),(2,.string p),(3,.int .i64 m)]).run Tryz.prog w=.ok (.agg #[.int .i64 0,.int .i64 h,.string p,.int .i64 m,.slice none 0 0,.int .i64 0]) w:=run_build w 35 _ _ (by kernel_rfl)
def HdCnt (r:Req) (l:List Hld) (n:Nat) (X:World) (s13 s14 s65:Value) (wr:World):Prop :=
 ∃ k:Nat,s65=.int .i64 (k:Int)∧k≤n∧s13=.bool (agB r (l.take k))∧s14=.int .i64 ((lvN r.now (l.take k):Nat):Int)∧Mod [] X wr
theorem held16_any {W:World} {q0 qa:Option Addr} {c0 ca:Nat} {l0:List OpG} {o:OpG} (hl:RdOp W (.slice q0 l0.length c0) l0) (hra:RdN W (.slice qa o.own.stamp.length ca) o.own.stamp) (hi:inO o) :
 Calls Tryz.prog 9 #[.slice q0 l0.length c0,.agg (opCells o (.slice qa o.own.stamp.length ca)).toArray] W fun e w'=>e=.returned (.bool true)∧Mod [] W w':=by
 obtain ⟨d1,f1,f2,f3,f4⟩:=fresh_law
 have hfr:=fun (W:World)=>fresh_any f1 f2 f4 W
 have HF:=hide (Rn.begin f2 f3)
 have hll:l0.length≤9223372036854775807:=hl.1
 obtain ⟨C3,hC3⟩:∃ C3,(opCells o (.slice qa o.own.stamp.length ca)).toArray=C3:=⟨_,rfl⟩
 rw [hC3]
 obtain ⟨W0,hW0⟩:∃ W0,W0=W.alloc (.cells C3 33 (0,0)):=⟨_,rfl⟩
 have hb3:W0.heap[W.heap.size]?=some (.cells C3 33 (0,0)):=by rw [hW0];exact heap_alloc_new W _
 have m0:Mod [] W W0:=by rw [hW0];exact (Mod.refl _ _).alloc _
 have HL:=hd6 hl m0 hb3 hra hi hC3
 clear hl f1 f2 f3 f4 hb3 m0 hra hi hC3
 go_enter Tryz.func9,Tryz.ntmps9
 go_upto_region 1 with fail
 rw [← hW0]
 clear hW0
 go_upto_block 0 with (first
  | (go_at_call 12;refine (awake_any _).mono ?_;rintro e w1 ⟨rfl,m⟩;have H1:=hd2 m (HL.out.2.1.then m);clear m)
  | (go_at_call 24
     refine (hfr _).mono ?_
     rintro e w2 ⟨pd,pg,b,rfl,hpd,s⟩
     have hz1:=lt_of_block (H1.out.1.at_ HL.out.2.2.1 (by simp))
     have a3:Asd w2 pg b W.heap.size:=⟨Nat.lt_of_lt_of_le hz1 s.md.size,fun e=>by have:=s.lo _ e;omega⟩
     have H2:=hd4 hpd (show GS W w2 pg b d1 gF from ⟨s.gm,fun k hk=>Nat.le_trans H1.out.2.size (s.lo k hk),H1.out.2.then s.md,s.gi,s.n49⟩) a3 ((H1.out.1.then s.md).at_ HL.out.2.2.1 (by simp))
     clear s hpd hfr hz1 a3)
  | fail)
 go_cut [6] (fun s6 wx=>∃ s25,HdRel W pd l0.length W.heap.size C3 s6 s25 wx)
 case first =>
  go_wp2_with fail
  go_loopw [6,25] (fun s6 s25 wr=>HdRel W pd l0.length W.heap.size C3 s6 s25 wr) (fun _ i _=>l0.length - (intOf i).toNat)
  case atStart=>exact ⟨0,pg,b,d1,gF,rfl,rfl,Nat.zero_le _,H2.out.1,H2.out.2.1,HF.out,H2.out.2.2.1,H2.out.2.2.2,by omega⟩
  case round =>
   as_aux_lemma =>
   obtain ⟨wo,rfl⟩:∃ x:World,x=wr:=⟨_,rfl⟩
   obtain ⟨j,pg1,b1,d,g,rfl,rfl,hj,hpd,hs,hn,ha3,hb3,hj1⟩:=hrel
   by_cases hlt:j<l0.length
   · have hji:(j:Int)<(l0.length:Int):=by omega
     obtain ⟨ob0,off,q,c,rfl,hobw,hcs,hra,hin⟩:=(HL.out.1.same hs.md).at_ j hlt
     generalize l0.getD j default=oj at hcs hra hin
     have hrg:=op_range hcs
     have hsz:=op_size oj (.slice q oj.own.stamp.length c)
     have hone:=op_one oj q oj.own.stamp.length c
     obtain ⟨R,hR⟩:∃ R,playG d g oj=R:=⟨_,rfl⟩
     have hpl:=fun {w:World} (s:GS W w pg1 b1 d g) h=>played_any (q:=q) (c:=c) s hn h hin
     have hrn:=fun (h:j≤1000)=>rn_play hn h oj (i64w_iff.1 hin.1.2.2.2.2.2.2.1).2
     rw [hR] at hrn hpl
     have HRN:=hide hrn
     have hs20:20=(opCells oj (.slice q oj.own.stamp.length c)).toArray.size:=rfl
     obtain ⟨C8,hC8⟩:∃ C8,(opCells oj (.slice q oj.own.stamp.length c)).toArray=C8:=⟨_,rfl⟩
     have hsz2:(Tryz.prog.info? 33).map (·.size)=some C8.size:=by rw [← hC8];exact hsz
     have hrg2:C8.toList=opCells oj (.slice q oj.own.stamp.length c):=by rw [← hC8]
     rw [hC8] at hpl hone hs20
     have HS:=hd5 hs hra hn hC8 hrg2
     clear hR hrn hcs hs hra hn hin hC8 hrg2
     obtain ⟨W1,hW1⟩:∃ W1,W1=wo.alloc (.cells C8 33 (0,0)):=⟨_,rfl⟩
     have hb1:W1.heap[wo.heap.size]?=some (.cells C8 33 (0,0)):=by rw [hW1];exact heap_alloc_new wo _
     have hma:Mod [] wo W1:=by rw [hW1];exact (Mod.refl _ _).alloc _
     have HB:=hd3 hb1 hma (HS.out.1.quiet hma)
     have hrb:W1.rangeAt wo.heap.size 0 C8.toList:=fun i _ hi=>by rw [Nat.zero_add,blk_cell hb1,← hi];simp
     have hszb:(Tryz.prog.info? 33).map (·.size)=some C8.toList.length:=by simpa using hsz2
     have hst:=run_storeCells_new (P:=Tryz.prog) wo 33 #[.int .i64 0,.int .i64 0,.int .i64 0,.int .i64 0,.string ⟨#[]⟩,.int .i64 0,.slice none 0 0,.int .i64 0,.int .i64 0,.int .i64 0,.bool false,.int .i64 0,.int .i64 0,.string ⟨#[]⟩,.int .i64 0,.int .i64 0,.int .i64 0,.bool false,.int .i64 0,.int .i64 0] C8 hsz2 hs20 hone
     rw [← hW1] at hst
     have hs20':=hs20.symm
     clear hb1 hma hW1 hs20 hone hsz2
     have HA:=hd2 ha3 hb3
     clear ha3 hb3
     by_cases h100:(100:Int)<(j:Int)
     · clear hpl
       go_wp2_with (first
        | (refine wpList_load_mid rfl 33 _ rfl ob0 (off+j * 20) rfl _ _ hrg Tryz.underlying33 rfl hsz ?_;rw [HS.out.2.2.2.1])
        | fail)
       go_meet
       case rel=>exact ⟨_,j,pg1,b1,d,g,rfl,rfl,hj,hpd,HB.out.2.2,HS.out.2.2.1,HA.out.1.quiet' HB.out.2.1,HB.out.2.1.at_ HA.out.2 (by simp),hj1⟩
     go_upto_region 7 with (first
      | (refine wpList_load_mid rfl 33 _ rfl ob0 (off+j * 20) rfl _ _ hrg Tryz.underlying33 rfl hsz ?_;rw [HS.out.2.2.2.1])
      | fail)
     clear hst hrg hsz hs20'
     have hpl2:=hpl (HB.out.2.2) (HS.out.2.1.mod HB.out.2.1 (by simp))
     rw [hpd] at hpl2
     go_upto_region 9 with (first
      | (refine wpList_load_mid rfl 33 _ rfl wo.heap.size 0 rfl _ _ hrb Tryz.underlying33 rfl hszb ?_)
      | (go_at_call 26
         refine hpl2.mono ?_
         rintro e w3 ⟨pg3,b3,q3,c3,rfl,s3,t3,-⟩
         have H3:=hd2 s3 t3
         clear s3 t3 hpl2 hpl hrb)
      | fail)
     have hr3:=HRN.out (by omega)
     have ha4:=HA.out.1.quiet' HB.out.2.1
     have hb4:=H3.out.2.blk ha4 (HB.out.2.1.at_ HA.out.2 (by simp))
     have H4:=hd3 hr3 (H3.out.2.asd ha4) hb4
     clear hr3 ha4 hb4
     go_wp2_with fail
     go_roundw
     case rel=>exact ⟨j+1,pg3,b3,R.1,R.2.1,by go_num,rfl,by omega,H3.out.2.pd.trans hpd,H3.out.1,H4.out.1,H4.out.2.1,H4.out.2.2,by omega⟩
     case measure=>simp [intOf];omega
   · have HS:=hd4 hs hn ha3 hb3
     clear hs hn ha3 hb3
     go_wp2_with fail
     go_meet
     case rel=>exact ⟨_,j,pg1,b1,d,g,rfl,rfl,hj,hpd,HS.out.1,HS.out.2.1,HS.out.2.2.1,HS.out.2.2.2,hj1⟩
 case rest =>
  as_aux_lemma =>
  obtain ⟨s25,j,pg1,b1,d,g,-,rfl,-,hpd,hs,hn,ha3,hb3,hj1⟩:=hcut
  obtain ⟨X0,rfl⟩:∃ x:World,x=wc:=⟨_,rfl⟩
  obtain ⟨n,hna⟩:∃ n,o.own.stamp.length=n:=⟨_,rfl⟩
  obtain ⟨⟨-,-,-,-,-,-,-,-,-⟩,⟨-,hlp,hls⟩,hop⟩:=HL.out.2.2.2.2.1
  have HG:=hide (rn_grant hn (by omega) o.req)
  obtain ⟨R,hR⟩:∃ R,grantG d g o.req=R:=⟨_,rfl⟩
  obtain ⟨r,hr⟩:∃ r,o.req=r:=⟨_,rfl⟩
  have HRq:=hide (show o.now=r.now∧o.holder=r.holder∧o.path=r.path∧o.mode=r.mode∧o.t=r.t∧o.own.stamp=r.own.stamp by rw [← hr];exact ⟨rfl,rfl,rfl,rfl,rfl,rfl⟩)
  rw [hR,hr] at HG
  have how:=fun {w:World} (h:RdN w (.slice qa o.own.stamp.length ca) o.own.stamp)=>own_any (w:=w) (l:=o.own) (q:=qa) (c:=ca) h hls
  have hcall:=fun {w:World} {q':Option Addr} {c':Nat} (s:GS W w pg1 b1 d g) h1 h2=>grant_eq (r:=o.req) (q:=q') (c:=c') s h1 h2 (by show o.path.size≤_;omega) (by show o.own.path.size≤_;omega)
  rw [hR] at hcall
  have HQ:=hide (fun (w':World) (m:Mod [] X0 w')=>writes_eqG (hs.quiet m) (n:=d.writes) rfl)
  rw [hpd] at HQ
  have H3:=hd4 hs hn ha3 hb3
  have hC3:=HL.out.2.2.2.2.2
  have hra:=HL.out.2.2.2.1.mod hs.md (by simp)
  clear hs hn ha3 hb3 hR hr
  obtain ⟨kd,nw,⟨lf,li,lp,lm,la,lt,ls,le,lr⟩,oi,oh,op,om,ot,ok,ofr,oo,on⟩:=o
  unfold OpG.req aggL cellsL at hcall
  unfold OwnTo aggL cellsL at how
  unfold opCells at hC3
  simp only at hcall how hra hna hC3 hlp hls hop
  rw [hna] at hcall how hra hC3
  go_upto_region 11 with (first
   | (go_at_call 22
      refine (list_eq H3.out.1 rfl).mono ?_
      rintro e X1 ⟨q4,c4,lh,rfl,hmap,hH,m4⟩
      have H4:=hd3 hmap hH m4
      clear hmap hH m4)
   | (go_at_call 34;refine (HQ.out _ H4.out.2.2).mono ?_;rintro e wx ⟨rfl,hx⟩;rw [hx];clear hx)
   | fail)
  obtain ⟨n4,hn4⟩:∃ n,lh.length=n:=⟨_,rfl⟩
  have h6:n4≤6:=by
   have:=congrArg List.length (lst_grants H4.out.1)
   rw [List.length_map,hn4] at this
   have:=H3.out.2.1.gi.six
   omega
  rw [hn4]
  have m4:=H4.out.2.2
  have H5:=hd6 (H3.out.1.quiet m4) (H3.out.2.2.1.quiet' m4) (m4.at_ H3.out.2.2.2 (by simp)) (hra.mod m4 (by simp)) hn4 (H3.out.1.quiet m4).md.size
  have HC:Hid (∀ w,Mod (b1.all pg1) X1 w→∀ i,w.cell? ⟨W.heap.size,i,none⟩=_):=hide (fun w m=>blk_cell (m.at_ H5.out.2.2.1 H5.out.2.1.2))
  rw [← hC3] at HC
  have HC3:=hide hC3
  clear m4 hra hn4 hC3
  go_cut [11,12] (fun s11 s12 wx=>HdMid W X1 pg1 b1 R s11 s12 wx)
  case first =>
   obtain ⟨⟨xi,xh,xp,xm,xs,xt⟩,xe,d',g'⟩:=R
   refine pB 19 (fun w'=>Mod (b1.all pg1) X1 w') ((Mod.refl _ _).drew) ?_
   refine pP 0 ?_;refine pP 1 ?_
   refine pT 2 rfl [19] (fun w' h=>by have D:=HC.out _ h;go_simp;try with_reducible rfl) ?_
   refine pP 3 ?_
   refine pT 4 rfl [19] (fun w' h=>by have D:=HC.out _ h;go_simp;try with_reducible rfl) ?_
   refine pP 6 ?_
   refine pT 7 rfl [19] (fun w' h=>by have D:=HC.out _ h;go_simp;try with_reducible rfl) ?_
   refine pP 8 ?_
   refine pT 9 rfl [19] (fun w' h=>by have D:=HC.out _ h;go_simp;try with_reducible rfl) ?_
   refine pP 10 ?_
   refine pT 11 rfl [19] (fun w' h=>by have D:=HC.out _ h;go_simp;try with_reducible rfl) ?_
   refine pP 12 ?_
   refine pT 13 rfl [19] (fun w' h=>by have D:=HC.out _ h;go_simp;try with_reducible rfl) ?_
   refine pX2 5 18 (fun hT K HK=>?_) (fun hT K HK=>?_)
   · go_simp
     refine (how (H5.out.2.2.2.1.mod ((Mod.refl [] X1).drew) (by simp))).mono ?_
     rintro e w5 ⟨q5,c5,rfl,hr5,ho5,m5⟩
     have m15:Mod [] X1 w5:=((Mod.refl [] X1).drew).then m5
     have hap:∀ k,k∈ob (.slice q5 n c5)→k ∉ b1.all pg1:=fun k hk e=>by have h1:=H5.out.1.gm.lt k e;have h2:=(ho5 k hk).1;have h3:=((Mod.refl [] X1).drew).size;omega
     have H6:=hd4 (H5.out.1.quiet m15) hr5 hap m15
     refine HK.out _ _ _ (m15.mono (by simp)) ?_
     clear HK K hT hr5 ho5 m5 hap m15 how
     refine pX2 14 18 (fun hT K HK=>?_) (fun hT K HK=>?_)
     · go_simp
       refine (hcall H6.out.1 H6.out.2.1 H6.out.2.2.1).mono ?_
       rintro e w7 ⟨q7,c7,b7,rfl,s7,t7,-,-⟩
       unfold aggG cellsG
       dsimp only
       have H7:=hd2 s7 ((GTo.quiet H6.out.2.2.2).trans t7)
       refine HK.out _ _ _ (hT.then t7.mod) ?_
       clear HK K hT s7 t7 hcall
       refine pP 15 ?_;refine pP 16 ?_;refine pP 17 ?_
       refine pX 18 fun hT K HK=>?_
       go_simp
       obtain ⟨w6,hw6⟩:∃ w6,w6=(w7).alloc (.cells zG 35 (0,0)):=⟨_,rfl⟩
       have hz6:w6.heap[(w7).heap.size]?=some (.cells zG 35 (0,0)):=by rw [hw6];exact heap_alloc_new _ _
       have m6:Mod [] (w7) w6:=by rw [hw6];exact (Mod.refl _ _).alloc _
       unfold zG at hw6
       rw [← hw6]
       clear hw6
       have H8:=hd5 (H7.out.1.quiet m6) (H7.out.2.then m6) hz6 H7.out.2.mod.size (show w7.heap.size ∉ b7.all pg1 from fun e=>by have:=H7.out.1.gm.lt _ e;omega)
       refine HK.out _ _ _ (hT.then (m6.mono (by simp))) ?_
       clear HK K hT hz6 m6
       refine pY 19 fun hT K HK=>?_
       have k9:=H8.out.2.2.1
       unfold zG at k9
       have D9:=blk_cell k9
       have F9:=blk_free k9
       have L9:=lt_of_block k9
       clear k9 hT
       go_simp
       obtain ⟨W8,hW8⟩:∃ W8,W8=stL w6 (w7.heap.size) 0 [.int .i64 xi,.int .i64 xh,.string xp,.int .i64 xm,.slice q7 xs.length c7,.int .i64 xt]:=⟨_,rfl⟩
       have HW8:=hide hW8
       unfold stL stL stL stL stL stL stL at hW8
       rw [← hW8]
       refine HK.out _ _ _ ?_
       clear HK K D9 F9 L9 hW8
       refine pP 20 ?_
       refine pD ?_
       go_wp2_with fail
       go_meet
       case rel=>exact hd_end (x:=⟨xi,xh,xp,xm,xs,xt⟩) H8.out.1 H8.out.2.1 H8.out.2.2.1 H8.out.2.2.2.1 H8.out.2.2.2.2 H5.out.2.2.2.2.2 HW8.out
     · go_simp
       obtain ⟨w6,hw6⟩:∃ w6,w6=(w5).alloc (.cells zG 35 (0,0)):=⟨_,rfl⟩
       have hz6:w6.heap[(w5).heap.size]?=some (.cells zG 35 (0,0)):=by rw [hw6];exact heap_alloc_new _ _
       have m6:Mod [] (w5) w6:=by rw [hw6];exact (Mod.refl _ _).alloc _
       unfold zG at hw6
       rw [← hw6]
       clear hw6
       have H7:=hd3 hz6 m6 (H6.out.2.2.2.then m6)
       refine HK.out _ _ _ (hT.then (m6.mono (by simp))) ?_
       clear HK K hT hz6 m6
       refine pX 14 fun hT K HK=>?_
       go_simp
       refine (hcall (H6.out.1.quiet H7.out.2.1) (H6.out.2.1.mod H7.out.2.1 (by simp)) H6.out.2.2.1).mono ?_
       rintro e w7 ⟨q7,c7,b7,rfl,s7,t7,-,-⟩
       unfold aggG cellsG
       dsimp only
       have a11:Asd w6 pg1 b1 w5.heap.size:=⟨lt_of_block H7.out.1,fun e=>by have:=H6.out.1.gm.lt _ e;omega⟩
       have H8:=hd5 s7 ((GTo.quiet H7.out.2.2).trans t7) (t7.mod.at_ H7.out.1 a11.2) H6.out.2.2.2.size (Asd.to a11 t7).2
       refine HK.out _ _ _ (hT.then t7.mod) ?_
       clear HK K hT s7 t7 hcall a11
       refine pP 15 ?_;refine pP 16 ?_;refine pP 17 ?_
       refine pY 19 fun hT K HK=>?_
       have k9:=H8.out.2.2.1
       unfold zG at k9
       have D9:=blk_cell k9
       have F9:=blk_free k9
       have L9:=lt_of_block k9
       clear k9 hT
       go_simp
       obtain ⟨W8,hW8⟩:∃ W8,W8=stL w7 (w5.heap.size) 0 [.int .i64 xi,.int .i64 xh,.string xp,.int .i64 xm,.slice q7 xs.length c7,.int .i64 xt]:=⟨_,rfl⟩
       have HW8:=hide hW8
       unfold stL stL stL stL stL stL stL at hW8
       rw [← hW8]
       refine HK.out _ _ _ ?_
       clear HK K D9 F9 L9 hW8
       refine pP 20 ?_
       refine pD ?_
       go_wp2_with fail
       go_meet
       case rel=>exact hd_end (x:=⟨xi,xh,xp,xm,xs,xt⟩) H8.out.1 H8.out.2.1 H8.out.2.2.1 H8.out.2.2.2.1 H8.out.2.2.2.2 H5.out.2.2.2.2.2 HW8.out
   · obtain ⟨Y1,hY1⟩:∃ Y,Y=X1.drew:=⟨_,rfl⟩
     have mY:Mod [] X1 Y1:=by rw [hY1];exact (Mod.refl _ _).drew
     rw [← hY1]
     clear hY1
     go_simp
     obtain ⟨w6,hw6⟩:∃ w6,w6=(Y1).alloc (.cells zG 35 (0,0)):=⟨_,rfl⟩
     have hz6:w6.heap[(Y1).heap.size]?=some (.cells zG 35 (0,0)):=by rw [hw6];exact heap_alloc_new _ _
     have m6:Mod [] (Y1) w6:=by rw [hw6];exact (Mod.refl _ _).alloc _
     unfold zG at hw6
     rw [← hw6]
     clear hw6
     have H7:=hd3 hz6 mY (mY.then m6)
     refine HK.out _ _ _ ((mY.then m6).mono (by simp)) ?_
     clear HK K hT hz6 m6 mY
     refine pX 5 fun hT K HK=>?_
     go_simp
     refine (how (H5.out.2.2.2.1.mod H7.out.2.2 (by simp))).mono ?_
     rintro e w5 ⟨q5,c5,rfl,hr5,ho5,m5⟩
     have m15:Mod [] X1 w5:=H7.out.2.2.then m5
     have hap:∀ k,k∈ob (.slice q5 n c5)→k ∉ b1.all pg1:=fun k hk e=>by have h1:=H5.out.1.gm.lt k e;have h2:=(ho5 k hk).1;have h3:=H7.out.2.2.size;omega
     have H6:=hd4 (H5.out.1.quiet m15) hr5 hap m15
     have H9:=hide (m5.at_ H7.out.1 (by simp))
     refine HK.out _ _ _ (m15.mono (by simp)) ?_
     clear HK K hT hr5 ho5 m5 hap m15 how
     refine pX 14 fun hT K HK=>?_
     go_simp
     refine (hcall H6.out.1 H6.out.2.1 H6.out.2.2.1).mono ?_
     rintro e w7 ⟨q7,c7,b7,rfl,s7,t7,-,-⟩
     unfold aggG cellsG
     dsimp only
     have a11:Asd w5 pg1 b1 Y1.heap.size:=⟨lt_of_block H9.out,fun e=>by have:=H5.out.1.gm.lt _ e;have:=H7.out.2.1.size;omega⟩
     have H8:=hd5 s7 ((GTo.quiet H6.out.2.2.2).trans t7) (t7.mod.at_ H9.out a11.2) H7.out.2.1.size (Asd.to a11 t7).2
     refine HK.out _ _ _ (hT.then t7.mod) ?_
     clear HK K hT s7 t7 hcall a11
     refine pP 15 ?_;refine pP 16 ?_;refine pP 17 ?_
     refine pY 19 fun hT K HK=>?_
     have k9:=H8.out.2.2.1
     unfold zG at k9
     have D9:=blk_cell k9
     have F9:=blk_free k9
     have L9:=lt_of_block k9
     clear k9 hT
     go_simp
     obtain ⟨W8,hW8⟩:∃ W8,W8=stL w7 (Y1.heap.size) 0 [.int .i64 xi,.int .i64 xh,.string xp,.int .i64 xm,.slice q7 xs.length c7,.int .i64 xt]:=⟨_,rfl⟩
     have HW8:=hide hW8
     unfold stL stL stL stL stL stL stL at hW8
     rw [← hW8]
     refine HK.out _ _ _ ?_
     clear HK K D9 F9 L9 hW8
     refine pP 20 ?_
     refine pD ?_
     go_wp2_with fail
     go_meet
     case rel=>exact hd_end (x:=⟨xi,xh,xp,xm,xs,xt⟩) H8.out.1 H8.out.2.1 H8.out.2.2.1 H8.out.2.2.2.1 H8.out.2.2.2.2 H5.out.2.2.2.2.2 HW8.out
  case rest =>
  as_aux_lemma =>
  clear how hcall
  obtain ⟨b11,b',q7,c7,rfl,rfl,s8,t8,k8⟩:=hcut
  obtain ⟨X2,rfl⟩:∃ x:World,x=wc:=⟨_,rfl⟩
  obtain ⟨⟨xi,xh,xp,xm,xs,xt⟩,xe,d',g'⟩:=R
  dsimp only at s8 k8 ⊢
  obtain ⟨nx,hnx⟩:∃ n,xs.length=n:=⟨_,rfl⟩
  rw [hnx] at k8
  have hwk:=H4.out.2.1.mod t8.mod (fun k hk=>.inl (H3.out.1.gm.lt k hk))
  have h38:=t8.mod.at_ H5.out.2.2.1 H5.out.2.1.2
  have HC2:Hid (∀ w,Mod [] X2 w→(∀ i,w.cell? ⟨W.heap.size,i,none⟩=_)∧∀ i,w.cell? ⟨b11,i,none⟩=_):=hide (fun w m=>⟨blk_cell (m.at_ h38 (by simp)),blk_cell (m.at_ k8 (by simp))⟩)
  rw [← HC3.out] at HC2
  have H8:=hd4 s8 hwk hnx (t8.dk.1.trans hpd)
  have hn4:=H5.out.2.2.2.2.1
  have hll4:(listG g).length=n4:=by rw [← H4.out.1,List.length_map];exact hn4
  have hbd:=build_ask
  have HN4:=hd2 hn4 hll4
  clear s8 t8 k8 hwk h38 hnx hn4 hll4
  go_wp2_with fail
  go_loopw [13,14,65] (fun s13 s14 s65 wr=>HdCnt r (listG g) n4 X2 s13 s14 s65 wr) (fun _ _ i _=>n4 - (intOf i).toNat)
  case atStart=>exact ⟨0,rfl,Nat.zero_le _,rfl,rfl,Mod.refl _ _⟩
  case round =>
   as_aux_lemma =>
   obtain ⟨wk,rfl⟩:∃ x:World,x=wr:=⟨_,rfl⟩
   obtain ⟨k,rfl,hk,rfl,rfl,hm⟩:=hrel
   have HM:=hide hm
   clear hm
   have hN6:lvN r.now ((listG g).take k)≤6:=by
    have h1:lvN r.now ((listG g).take k)≤((listG g).take k).length:=List.length_filter_le _ _
    rw [List.length_take] at h1
    omega
   have hfull:k=n4→(listG g).take k=listG g:=fun e=>List.take_of_length_le (by rw [HN4.out.2];omega)
   obtain ⟨A,hA⟩:∃ A,agB r ((listG g).take k)=A:=⟨_,rfl⟩
   obtain ⟨Nn,hN⟩:∃ N,lvN r.now ((listG g).take k)=N:=⟨_,rfl⟩
   rw [hN] at hN6
   rw [hA,hN]
   have HAN:=hd3 hA hN hfull
   clear hA hN hfull
   by_cases hlt:k<n4
   · have hki:(k:Int)<(n4:Int):=by omega
     have e4:=HN4.out.1
     have e5:=HN4.out.2
     obtain ⟨lb,rfl,pl⟩:=H8.out.2.1.place (i:=k) (by omega)
     have z1:=lst_at H4.out.1 (show k<lh.length by omega)
     have z5:=pathOk_len (grant_iff.1 (H3.out.2.1.gi.gr z1).1).2.2.1
     have hl:(listG g).getD k default=(lh.getD k default).1:=by
      have hk':k<lh.length:=by omega
      rw [← H4.out.1]
      simp [hk']
     have hag:=agB_take (r:=r) (l:=listG g) (k:=k) (by omega)
     have hlv:=lvN_take (now:=r.now) (l:=listG g) (k:=k) (by omega)
     rw [hl,HAN.out.1] at hag
     rw [hl,HAN.out.2.1] at hlv
     generalize lh.getD k default=pk at pl z1 z5 hag hlv
     obtain ⟨⟨⟨ji,jh,jp,jm,js,jt⟩,je,jo,jn⟩,jv⟩:=pk
     have z5':jp.size≤27:=by simpa using z5
     obtain ⟨qv,cv,hjv⟩:=(pl.st X2 (Mod.refl _ _)).len
     simp only at hjv
     obtain ⟨nv,hnv⟩:∃ n,js.length=n:=⟨_,rfl⟩
     rw [hnv] at hjv
     subst hjv
     have hask:askG r=⟨0,oh,op,om,[],0⟩:=by
      obtain ⟨_,a1,a2,a3,_⟩:=HRq.out
      unfold askG
      rw [← a1,← a2,← a3]
     have hcl:=fun (w:World)=>clash_any ⟨ji,jh,jp,jm,js,jt⟩ ⟨0,oh,op,om,[],0⟩ (.slice qv nv cv) (.slice none 0 0) (by simp only;omega) (by simp only;omega) w
     have hnow:nw=r.now:=HRq.out.1
     simp only at hag hlv
     rw [← hnow] at hag hlv
     rw [hask] at hag
     obtain ⟨B,hB⟩:∃ B,clashB ⟨ji,jh,jp,jm,js,jt⟩ ⟨0,oh,op,om,[],0⟩=B:=⟨_,rfl⟩
     rw [hB] at hag hcl
     unfold aggG cellsG at hcl
     simp only at hcl
     have y0:=pl.c wk HM.out 0 (by decide)
     have y1:=pl.c wk HM.out 1 (by decide)
     have y2:=pl.c wk HM.out 2 (by decide)
     have y3:=pl.c wk HM.out 3 (by decide)
     have y4:=pl.c wk HM.out 4 (by decide)
     have y5:=pl.c wk HM.out 5 (by decide)
     have y6:=pl.c wk HM.out 6 (by decide)
     have y7:=pl.c wk HM.out 7 (by decide)
     have y8:=pl.c wk HM.out 8 (by decide)
     simp [encH] at y0 y1 y2 y3 y4 y5 y6 y7 y8
     obtain ⟨W1,hW1⟩:∃ W1,W1=wk.alloc (.cells #[.int .i64 ji,.int .i64 jh,.string jp,.int .i64 jm,.slice qv nv cv,.int .i64 jt,.int .i64 je,.int .i64 jo,.int .i64 jn] 44 (0,0)):=⟨_,rfl⟩
     have hb1:W1.heap[wk.heap.size]?=some (.cells #[.int .i64 ji,.int .i64 jh,.string jp,.int .i64 jm,.slice qv nv cv,.int .i64 jt,.int .i64 je,.int .i64 jo,.int .i64 jn] 44 (0,0)):=by rw [hW1];exact heap_alloc_new wk _
     have hma:Mod [] wk W1:=by rw [hW1];exact (Mod.refl _ _).alloc _
     clear pl z1 z5 z5' hnv hask hnow hl e4 e5 hB
     go_upto_region 16 with fail
     rw [← hW1]
     clear hW1 y0 y1 y2 y3 y4 y5 y6 y7 y8
     have B1:=blk_cell hb1
     have D3:=(HC2.out _ (HM.out.then hma)).1
     have HX:=hide (HM.out.then hma)
     clear hb1 hma
     by_cases hex:nw<je
     · rw [if_pos hex] at hlv
       rw [decide_eq_true hex,Bool.true_and] at hag
       have HAG:=hd2 hag hlv
       clear hag hlv
       cases A
       · go_wp2_with (go_at_call 33;refine (hcl _).mono ?_;rintro e x1 ⟨rfl,m1⟩;have HY:=hide m1;clear m1 hcl B1 D3)
         go_roundw
         case rel=>exact ⟨k+1,by go_num,by omega,by rw [HAG.out.1];rfl,by rw [← show nw=r.now from HRq.out.1,HAG.out.2];go_num,HX.out.then HY.out⟩
         case measure=>simp [intOf];omega
       · go_wp2_with fail
         go_roundw
         case rel=>exact ⟨k+1,by go_num,by omega,by rw [HAG.out.1];rfl,by rw [← show nw=r.now from HRq.out.1,HAG.out.2];go_num,HX.out⟩
         case measure=>simp [intOf];omega
     · rw [if_neg hex] at hlv
       rw [decide_eq_false hex,Bool.false_and,Bool.or_false] at hag
       have HAG:=hd2 hag hlv
       clear hag hlv
       go_wp2_with fail
       go_roundw
       case rel=>exact ⟨k+1,by go_num,by omega,by rw [HAG.out.1],by rw [← show nw=r.now from HRq.out.1,HAG.out.2];rfl,HX.out⟩
       case measure=>simp [intOf];omega
   · obtain rfl:k=n4:=by omega
     obtain ⟨hA,hN,hfull⟩:=HAN.out
     rw [hfull rfl] at hA hN
     have HA:=hd2 hA hN
     have hQ:=fun (w:World) (m:Mod [] wk w) {E:Int} (h:g'.ends=E)=>quar_eq (H8.out.1.quiet (HM.out.then m)) h
     have hWr:=fun (w:World) (m:Mod [] wk w)=>writes_eqG (H8.out.1.quiet (HM.out.then m)) (n:=d'.writes) rfl
     have hOf:=fun (w:World) (m:Mod [] wk w)=>off_any (H8.out.1.quiet (HM.out.then m)).gm.led.dk
     rw [H8.out.2.2.2] at hWr hOf
     clear hA hN hfull HAN hbd
     have hw:=HG.out.2
     rcases hw with ⟨h,e⟩ | ⟨hx,he,ho,-,-⟩ | ⟨z,he,hx,-,-,hen,-,-,-,ho,hw⟩
     · have hd:=held_no H3.out.2.1.gi e
       simp only [Prod.mk.injEq,Grt.zero,Grt.mk.injEq] at h
       obtain ⟨⟨rfl,rfl,rfl,rfl,rfl,rfl⟩,hxe,rfl,rfl⟩:=h
       rw [← hxe] at hd e
       have hk0:(xe==0)=false:=by simpa using e
       have hk40:(xe==40)=false:=by simpa using hd.power
       have HD:=hide hd
       have hnow:nw=r.now:=HRq.out.1
       obtain ⟨E,hE⟩:∃ E,g'.ends=E:=⟨_,rfl⟩
       have hQ:=fun w m=>hQ w m hE
       have HE:=hd2 hE hnow
       clear hd e hxe hE hnow hOf
       go_upto_block 4 with fail
       go_cut [] (fun wx=>Mod [] wk wx)
       case first =>
        by_cases k60:xe=60
        · subst k60
          obtain ⟨a1,a2⟩:=HD.out.held rfl
          obtain rfl:A=true:=HA.out.1.symm.trans a1
          have hlt2:decide (nw<E)=false:=decide_eq_false (by rw [HE.out.1,← HE.out.2] at a2;omega)
          clear a1 a2
          go_upto_region 24 with fail
          refine pB 999 (Mod [] wk) ((Mod.refl [] wk).drew) ?_
          refine pP 0 ?_;refine pP 1 ?_;refine pP 2 ?_;refine pP 3 ?_
          refine pH 4 rfl (fun w' h=>by obtain ⟨D,D'⟩:=HC2.out _ (HM.out.then h);go_simp;try with_reducible rfl) ?_
          refine pP 5 ?_
          refine pX 6 fun hT K HK=>?_
          go_simp
          refine (hQ _ hT).mono ?_;rintro e x1 ⟨rfl,hx⟩;rw [hx]
          refine HK.out _ _ _ hT ?_
          clear HK K hT hx x1
          refine pP 7 ?_;refine pP 8 ?_
          refine pE fun hT=>?_
          go_wp2_with fail
          go_meet
          case rel=>exact hT
        have k60b:(xe==60)=false:=by simpa using k60
        by_cases k51:xe=51
        · subst k51
          obtain ⟨a1,a2⟩:=HD.out.full rfl
          obtain rfl:A=false:=HA.out.1.symm.trans a1
          have hlt2:decide ((Nn:Int)<6)=false:=decide_eq_false (by rw [HA.out.2] at a2;omega)
          clear a1 a2
          go_wp2_with fail
          go_meet
          case rel=>exact Mod.refl _ _
        have k51b:(xe==51)=false:=by simpa using k51
        by_cases k61:xe=61
        · subst k61
          have a2:=HD.out.rest rfl
          have hlt2:decide (E≤nw)=false:=decide_eq_false (by rw [HE.out.1,← HE.out.2] at a2;omega)
          clear a2
          go_upto_region 30 with fail
          refine pB 999 (Mod [] wk) ((Mod.refl [] wk).drew) ?_
          refine pP 0 ?_
          refine pH 1 rfl (fun w' h=>by obtain ⟨D,D'⟩:=HC2.out _ (HM.out.then h);go_simp;try with_reducible rfl) ?_
          refine pP 2 ?_
          refine pX 3 fun hT K HK=>?_
          go_simp
          refine (hQ _ hT).mono ?_;rintro e x1 ⟨rfl,hx⟩;rw [hx]
          refine HK.out _ _ _ hT ?_
          clear HK K hT hx x1
          refine pP 4 ?_
          refine pE fun hT=>?_
          go_wp2_with fail
          go_meet
          case rel=>exact hT
        have k61b:(xe==61)=false:=by simpa using k61
        by_cases k14:xe=14
        · subst k14
          have a2:=HD.out.deep rfl
          obtain rfl:n=4:=by rw [← HRq.out.2.2.2.2.2] at a2;rw [← hna];exact a2
          have D3:=(HC2.out _ HM.out).1
          go_wp2_with fail
          go_meet
          case rel=>exact Mod.refl _ _
        have k14b:(xe==14)=false:=by simpa using k14
        clear k60 k51 k61 k14
        go_wp2_with fail
        go_meet
        case rel=>exact Mod.refl _ _
       case rest =>
       as_aux_lemma =>
       obtain ⟨X5,rfl⟩:∃ x:World,x=wc:=⟨_,rfl⟩
       have D11:=(HC2.out _ (HM.out.then hcut)).2
       have hWr5:=hWr _ hcut
       have HX5:=hide hcut
       clear hcut hWr hQ
       go_wp2_with (first
        | (go_at_call 34;refine hWr5.mono ?_;rintro e wx ⟨rfl,hx⟩;rw [hx];clear hx D11)
        | (go_at_call 22
           refine (list_eq (H8.out.1.quiet (HM.out.then HX5.out)) rfl).mono ?_
           rintro e X6 ⟨q6,c6,lh2,rfl,hmap,hH,m6⟩
           have H6:=hd3 hmap hH m6
           clear hmap hH m6)
        | (go_at_call 36
           rw [← HN4.out.1]
           refine (sameHeld_any H6.out.2.1 (H8.out.2.1.mod ((HM.out.then HX5.out).then H6.out.2.2) (by simp)) (H6.out.1.trans H4.out.1.symm) (by have h1:=congrArg List.length (H6.out.1.trans H4.out.1.symm);rw [List.length_map,List.length_map] at h1;have:=HN4.out.1;omega)).mono ?_
           rintro e X7 ⟨rfl,m7⟩
           have H7:=hide m7
           clear m7)
        | fail)
       go_ret
       exact ⟨rfl,((H8.out.1.quiet (HM.out.then HX5.out)).md.then H6.out.2.2).then H7.out⟩
     · obtain rfl:xe=40:=he
       have hOf2:=hOf _ (Mod.refl _ _)
       rw [show d'.off=true from ho] at hOf2
       clear hOf hQ hWr
       go_wp2_with (go_at_call 35;refine hOf2.mono ?_;rintro e wx ⟨rfl,hx⟩;rw [hx];clear hx)
       go_ret
       exact ⟨rfl,(H8.out.1.quiet HM.out).md⟩
     · obtain rfl:xe=0:=he
       obtain ⟨a1,a2,a3,a4,a5,a6⟩:=HRq.out
       simp only [Grt.mk.injEq] at hx
       obtain ⟨-,hx1,hx2,hx3,hx4,hx5⟩:=hx
       obtain rfl:xh=oh:=hx1.trans a2.symm
       obtain rfl:xp=op:=hx2.trans a3.symm
       obtain rfl:xm=om:=hx3.trans a4.symm
       obtain rfl:xt=ot:=hx5.trans a5.symm
       have e1:nx=n+1:=by rw [← H8.out.2.2.1,hx4,← a6,List.length_append,hna];rfl
       obtain ⟨b1',b2'⟩:=held_ok H3.out.2.1.gi z
       obtain rfl:A=false:=HA.out.1.symm.trans b1'
       have g1:decide ((Nn:Int)<6)=true:=decide_eq_true (by rw [HA.out.2] at b2';omega)
       obtain ⟨E,hE⟩:∃ E,g'.ends=E:=⟨_,rfl⟩
       have hQ:=fun w m=>hQ w m hE
       have hen':g'.ends=g.ends:=hen
       have g2:decide (E≤nw)=true:=decide_eq_true (by have:=z.rest;rw [a1];omega)
       have hdp:n<4:=by have:=z.deep;rw [← a6] at this;omega
       have g3:decide ((n:Int)<4)=true:=decide_eq_true (by omega)
       have g4:IntKind.i64.wrap ((n:Int)+1)=(n:Int)+1:=by rw [IntKind.wrap_i64];omega
       have g5:((nx:Int)==(n:Int)+1)=true:=by rw [e1];simp
       have hrw:=H3.out.2.1.w
       have hw':0≤d.writes→d.writes+170<9223372036854775808→d.writes<d'.writes:=hw
       have g6:decide (d.writes<d'.writes)=true:=decide_eq_true (hw' hrw.1 (by omega))
       clear hx1 hx2 hx3 hx4 hx5 a1 a2 a3 a4 a5 a6 e1 b1' b2' hE hen hen' z hdp hrw hw hw' ho hOf
       go_upto_region 22 with fail
       simp only [List.append_eq,List.cons_append,List.nil_append]
       refine pB 999 (Mod [] wk) ((Mod.refl [] wk).drew) ?_
       refine pP 0 ?_;refine pP 1 ?_;refine pP 2 ?_;refine pP 3 ?_;refine pP 4 ?_;refine pP 5 ?_;refine pP 6 ?_;refine pP 7 ?_
       refine pH 8 rfl (fun w' h=>by obtain ⟨D,D'⟩:=HC2.out _ (HM.out.then h);go_simp;try with_reducible rfl) ?_
       refine pP 9 ?_
       refine pX 10 fun hT K HK=>?_
       go_simp
       refine (hQ _ hT).mono ?_;rintro e x1 ⟨rfl,hx⟩;rw [hx]
       refine HK.out _ _ _ hT ?_
       clear HK K hT hx x1
       refine pP 11 ?_;refine pP 12 ?_;refine pP 13 ?_;refine pP 14 ?_;refine pP 15 ?_
       refine pH 16 rfl (fun w' h=>by obtain ⟨D,D'⟩:=HC2.out _ (HM.out.then h);go_simp;try with_reducible rfl) ?_
       refine pP 17 ?_;refine pP 18 ?_;refine pP 19 ?_;refine pP 20 ?_;refine pP 21 ?_
       refine pH 22 rfl (fun w' h=>by obtain ⟨D,D'⟩:=HC2.out _ (HM.out.then h);go_simp;try with_reducible rfl) ?_
       refine pP 23 ?_;refine pP 24 ?_;refine pP 25 ?_
       refine pH 26 rfl (fun w' h=>by obtain ⟨D,D'⟩:=HC2.out _ (HM.out.then h);go_simp;try with_reducible rfl) ?_
       refine pP 27 ?_;refine pP 28 ?_;refine pP 29 ?_;refine pP 30 ?_;refine pP 31 ?_;refine pP 32 ?_
       refine pH 33 rfl (fun w' h=>by obtain ⟨D,D'⟩:=HC2.out _ (HM.out.then h);go_simp;try with_reducible rfl) ?_
       refine pP 34 ?_
       refine pH 35 rfl (fun w' h=>by obtain ⟨D,D'⟩:=HC2.out _ (HM.out.then h);go_simp;try with_reducible rfl) ?_
       refine pP 36 ?_;refine pP 37 ?_;refine pP 38 ?_;refine pP 39 ?_
       refine pH 40 rfl (fun w' h=>by obtain ⟨D,D'⟩:=HC2.out _ (HM.out.then h);go_simp;try with_reducible rfl) ?_
       refine pP 41 ?_
       refine pH 42 rfl (fun w' h=>by obtain ⟨D,D'⟩:=HC2.out _ (HM.out.then h);go_simp;try with_reducible rfl) ?_
       refine pP 43 ?_;refine pP 44 ?_;refine pP 45 ?_;refine pP 46 ?_
       refine pH 47 rfl (fun w' h=>by obtain ⟨D,D'⟩:=HC2.out _ (HM.out.then h);go_simp;try with_reducible rfl) ?_
       refine pP 48 ?_
       refine pH 49 rfl (fun w' h=>by obtain ⟨D,D'⟩:=HC2.out _ (HM.out.then h);go_simp;try with_reducible rfl) ?_
       refine pP 50 ?_;refine pP 51 ?_;refine pP 52 ?_;refine pP 53 ?_
       refine pH 54 rfl (fun w' h=>by obtain ⟨D,D'⟩:=HC2.out _ (HM.out.then h);go_simp;try with_reducible rfl) ?_
       refine pP 55 ?_
       refine pH 56 rfl (fun w' h=>by obtain ⟨D,D'⟩:=HC2.out _ (HM.out.then h);go_simp;try with_reducible rfl) ?_
       refine pP 57 ?_;refine pP 58 ?_;refine pP 59 ?_;refine pP 60 ?_;refine pP 62 ?_
       refine pX 61 fun hT K HK=>?_
       go_simp
       refine (hWr _ hT).mono ?_;rintro e x1 ⟨rfl,hx⟩;rw [hx]
       refine HK.out _ _ _ hT ?_
       clear HK K hT hx x1
       refine pP 63 ?_;refine pP 64 ?_;refine pP 65 ?_
       refine pE fun hT=>?_
       have HT:=hide hT
       clear hT
       go_wp2_with fail
       go_ret
       exact ⟨rfl,(H8.out.1.quiet (HM.out.then HT.out)).md⟩
end Go.Proofs.YtllljngpgjkdiaaGreatDoor
