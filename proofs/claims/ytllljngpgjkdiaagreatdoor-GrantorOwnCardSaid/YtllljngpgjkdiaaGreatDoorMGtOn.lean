/-
  GtOl GtPl GtOs GtAp GtOn: see the remarks below.
-/
import Derived.Test.YtllljngpgjkdiaaGreatDoorMGtCl
import Derived.Test.YtllljngpgjkdiaaGreatDoorMGtRu
import Derived.Test.YtllljngpgjkdiaaGreatDoorMLawEnd
import Derived.Deep.Slices
import Derived.ChangeSlices
import Derived.Lib.SmallJoins
import Derived.Test.YtllljngpgjkdiaaGreatDoorMWc
import Derived.Deep.CutBlock
import Derived.Deep.DeepCutAuto
import Derived.Test.YtllljngpgjkdiaaGreatDoorMResC
import Derived.Deep.AppendLies
import Derived.Lib.JoinLaws
import Derived.Test.YtllljngpgjkdiaaGreatDoorMDisk2
import Derived.Deep.MidRow
import Derived.Deep.WholeRow
/-
  ARGUMENTS OPENED: leases, calls on a grantor, slices of such.
-/
namespace Go.Proofs.YtllljngpgjkdiaaGreatDoor
set_option maxRecDepth 100000
open Go.ChangeShapes Go.WideShapes Go.ChangeAt Go.RowKit Go.Deep Go.Joins

theorem cells_lease:Tryz.prog.cellsOf 25=9:=by kernel_rfl
theorem cells_int:Tryz.prog.cellsOf 3=1:=by kernel_rfl
theorem cells_str:Tryz.prog.cellsOf 9=1:=by kernel_rfl
theorem cells_mode:Tryz.prog.cellsOf 22=1:=by kernel_rfl
theorem cells_ints:Tryz.prog.cellsOf 23=1:=by kernel_rfl
theorem cells_bool:Tryz.prog.cellsOf 4=1:=by kernel_rfl
theorem bytes_int:Tryz.prog.bytesOf 3=8:=by kernel_rfl
def i64w (n:Int):Prop:=(Lit.int .i64 n).wf=true
def inW (x:Lease):Prop:=(i64w x.frm∧i64w x.id∧i64w x.mode∧i64w x.term∧i64w x.sent∧i64w x.expiry)∧x.path.size≤9223372036854775806∧x.stamp.length * 8≤140737488355328
theorem trod_ints {H:Type} {enc:TypeId × Value→H} {W:World} {base:Nat} {held:Bool} {fuel:Nat} {cs:List Value} {x:DataW H × List MemPlace}
 (h:DataW.trod enc Tryz.prog W base (fun _=>true) held fuel 23 cs=some x) (hw:∀ n,n∈x.1.weights Tryz.prog 23→n≤reachBytes):∃ q c a,cs=[.slice q a.length c]∧RdN W (.slice q a.length c) a∧a.length * 8≤140737488355328:=by
 rcases open_ints Tryz.underlying23 Tryz.underlying3 cells_int h with ⟨rfl,rfl⟩ | ⟨ad,len,cap,zs,rfl,_,hl,hm,hz,rfl,hc,_⟩
 · exact ⟨none,0,[],rfl,⟨by simp,.inl ⟨none,0,rfl,rfl⟩⟩,by simp⟩
 · simp only [if_true] at hz
   have h1:((lits (H:=H) .i64 (zs.take len)).length+(lits (H:=H) .i64 (zs.drop len)).length) * Tryz.prog.bytesOf 3≤reachBytes:=by
    refine hw _ ?_
    simp only [DataW.weights,Tryz.underlying23]
    exact List.mem_cons_self
   rw [bytes_int] at h1
   simp only [lits,List.length_map,List.length_take,List.length_drop] at h1
   unfold reachBytes at h1
   have ht:(zs.take len).length=len:=by rw [List.length_take];omega
   by_cases h0:len=0
   · subst h0
     exact ⟨some ad,cap,[],rfl,⟨by simp,.inl ⟨_,_,rfl,rfl⟩⟩,by simp⟩
   · obtain ⟨b,off,spot⟩:=ad
     have hc0:=hc 0 (by omega)
     have hsp:spot=none:=by
      simp only [Addr.add] at hc0
      cases spot with
      | none=>rfl
      | some s =>
        exfalso
        revert hc0
        unfold World.cell?
        split <;> simp
     subst hsp
     refine ⟨some ⟨b,off,none⟩,cap,zs.take len,by rw [ht],⟨by rw [ht];omega,.inr ⟨b,off,cap,rfl,World.block_lt_of_cell? W _ hc0,fun i hi=>?_⟩⟩,by rw [ht];omega⟩
     rw [ht] at hi
     have q:=hc i (by omega)
     rw [Addr.add_lit] at q
     rw [q]
     simp [List.getD,hi]
theorem lease_fields:∃ f0 f1 f2 f3 f4 f5 f6 f7 f8,Tryz.prog.underlying 25=some (.struct #[f0,f1,f2,f3,f4,f5,f6,f7,f8])∧(f0.type=3∧f0.offset=0)∧(f1.type=3∧f1.offset=1)∧(f2.type=9∧f2.offset=2) ∧
 (f3.type=22∧f3.offset=3)∧(f4.type=23∧f4.offset=4)∧(f5.type=3∧f5.offset=5)∧(f6.type=3∧f6.offset=6)∧(f7.type=3∧f7.offset=7)∧(f8.type=4∧f8.offset=8) :=
 ⟨_,_,_,_,_,_,_,_,_,Tryz.underlying25,⟨rfl,rfl⟩,⟨rfl,rfl⟩,⟨rfl,rfl⟩,⟨rfl,rfl⟩,⟨rfl,rfl⟩,⟨rfl,rfl⟩,⟨rfl,rfl⟩,⟨rfl,rfl⟩,⟨rfl,rfl⟩⟩
theorem trod_lease {H:Type} {enc:TypeId × Value→H} {W:World} {base:Nat} {held:Bool} {fuel:Nat} {cs:List Value} {x:DataW H × List MemPlace}
 (h:DataW.trod enc Tryz.prog W base (fun _=>true) held fuel 25 cs=some x) (hw:∀ n,n∈x.1.weights Tryz.prog 25→n≤reachBytes) :
 ∃ (y:Lease) (q:Option Addr) (c:Nat),cs=(cellsL y (.slice q y.stamp.length c)).toList∧RdN W (.slice q y.stamp.length c) y.stamp∧inW y:=by
 obtain ⟨f0,f1,f2,f3,f4,f5,f6,f7,f8,hs,⟨t0,o0⟩,⟨t1,o1⟩,⟨t2,o2⟩,⟨t3,o3⟩,⟨t4,o4⟩,⟨t5,o5⟩,⟨t6,o6⟩,⟨t7,o7⟩,⟨t8,o8⟩⟩:=lease_fields
 obtain ⟨xs,n,_,rfl,hl,hxl,hf⟩:=DataW.trod_struct hs h
 rw [cells_lease] at hl
 match cs,hl,xs,hxl with
 | [v0,v1,v2,v3,v4,v5,v6,v7,v8],_,[y0,y1,y2,y3,y4,y5,y6,y7,y8],_ =>
   have g0:=hf 0 f0 rfl
   have g1:=hf 1 f1 rfl
   have g2:=hf 2 f2 rfl
   have g3:=hf 3 f3 rfl
   have g4:=hf 4 f4 rfl
   have g5:=hf 5 f5 rfl
   have g6:=hf 6 f6 rfl
   have g7:=hf 7 f7 rfl
   have g8:=hf 8 f8 rfl
   simp [t0,t1,t2,t3,t4,t5,t6,t7,t8,o0,o1,o2,o3,o4,o5,o6,o7,o8,cells_int,cells_str,cells_mode,cells_ints,cells_bool] at g0 g1 g2 g3 g4 g5 g6 g7 g8
   obtain ⟨a0,ha0,_,w0⟩:=DataW.trod_int Tryz.underlying3 g0
   obtain ⟨a1,ha1,_,w1⟩:=DataW.trod_int Tryz.underlying3 g1
   obtain ⟨a2,ha2,hx2,w2⟩:=DataW.trod_string Tryz.underlying9 g2
   have hlen2:a2.size≤reachBytes:=by
    have:=hw a2.data.toList.length (by
     simp only [DataW.weights,hs,List.map_cons,List.map_nil,DataW.weightsEach,List.mem_append]
     have e:y2.1=.lit (.string a2.data.toList):=congrArg Prod.fst hx2
     rw [e,t2]
     exact .inr (.inr (.inl (by simp [DataW.weights]))))
    simpa using this
   obtain ⟨a3,ha3,_,w3⟩:=DataW.trod_int Tryz.underlying22 g3
   obtain ⟨a5,ha5,_,w5⟩:=DataW.trod_int Tryz.underlying3 g5
   obtain ⟨a6,ha6,_,w6⟩:=DataW.trod_int Tryz.underlying3 g6
   obtain ⟨a7,ha7,_,w7⟩:=DataW.trod_int Tryz.underlying3 g7
   obtain ⟨a8,ha8,_⟩:=DataW.trod_bool Tryz.underlying4 g8
   obtain ⟨q,c,a,ha4,hr,hb⟩:=trod_ints g4 (fun n hn=>hw n (by
    simp only [DataW.weights,hs,List.map_cons,List.map_nil,DataW.weightsEach,t4,List.mem_append]
    exact .inr (.inr (.inr (.inr (.inl hn))))))
   simp at ha0 ha1 ha2 ha3 ha4 ha5 ha6 ha7 ha8
   unfold reachBytes at hlen2
   clear w2 hx2
   exact ⟨⟨a0,a1,a2,a3,a,a5,a6,a7,a8⟩,q,c,by rw [ha0,ha1,ha2,ha3,ha4,ha5,ha6,ha7,ha8];rfl,hr,⟨w0,w1,w3,w5,w6,w7⟩,by simp only;omega,hb⟩
instance:Inhabited OpG:=⟨⟨0,0,⟨0,0,⟨#[]⟩,0,[],0,0,0,false⟩,0,0,⟨#[]⟩,0,0,0,false,0,0⟩⟩
def opCells (o:OpG) (v:Value):List Value:=[.int .i64 o.kind,.int .i64 o.now,.int .i64 o.own.frm,.int .i64 o.own.id,.string o.own.path,.int .i64 o.own.mode,v,.int .i64 o.own.term,.int .i64 o.own.sent,.int .i64 o.own.expiry,.bool o.own.recd,.int .i64 o.id,.int .i64 o.holder,.string o.path,.int .i64 o.mode,.int .i64 o.t,.int .i64 o.k,.bool o.fresh,.int .i64 o.origin,.int .i64 o.number]
def inO (o:OpG):Prop:=(i64w o.kind∧i64w o.now∧i64w o.id∧i64w o.holder∧i64w o.mode∧i64w o.t∧i64w o.k∧i64w o.origin∧i64w o.number)∧inW o.own∧o.path.size≤9223372036854775806
theorem cells_op:Tryz.prog.cellsOf 33=20:=by kernel_rfl
theorem op_fields:∃ f0 f1 f2 f3 f4 f5 f6 f7 f8 f9 f10 f11,Tryz.prog.underlying 33=some (.struct #[f0,f1,f2,f3,f4,f5,f6,f7,f8,f9,f10,f11])∧(f0.type=3∧f0.offset=0)∧(f1.type=3∧f1.offset=1)∧(f2.type=25∧f2.offset=2)∧(f3.type=3∧f3.offset=11)∧(f4.type=3∧f4.offset=12)∧(f5.type=9∧f5.offset=13)∧(f6.type=22∧f6.offset=14)∧(f7.type=3∧f7.offset=15)∧(f8.type=3∧f8.offset=16)∧(f9.type=4∧f9.offset=17)∧(f10.type=3∧f10.offset=18)∧(f11.type=3∧f11.offset=19) :=
 ⟨_,_,_,_,_,_,_,_,_,_,_,_,Tryz.underlying33,⟨rfl,rfl⟩,⟨rfl,rfl⟩,⟨rfl,rfl⟩,⟨rfl,rfl⟩,⟨rfl,rfl⟩,⟨rfl,rfl⟩,⟨rfl,rfl⟩,⟨rfl,rfl⟩,⟨rfl,rfl⟩,⟨rfl,rfl⟩,⟨rfl,rfl⟩,⟨rfl,rfl⟩⟩
theorem trod_op {H:Type} {enc:TypeId × Value→H} {W:World} {base:Nat} {held:Bool} {fuel:Nat} {cs:List Value} {x:DataW H × List MemPlace}
 (h:DataW.trod enc Tryz.prog W base (fun _=>true) held fuel 33 cs=some x) (hw:∀ n,n∈x.1.weights Tryz.prog 33→n≤reachBytes) :
 ∃ (o:OpG) (q:Option Addr) (c:Nat),cs=opCells o (.slice q o.own.stamp.length c)∧RdN W (.slice q o.own.stamp.length c) o.own.stamp∧inO o:=by
 obtain ⟨f0,f1,f2,f3,f4,f5,f6,f7,f8,f9,f10,f11,hs,⟨t0,o0⟩,⟨t1,o1⟩,⟨t2,o2⟩,⟨t3,o3⟩,⟨t4,o4⟩,⟨t5,o5⟩,⟨t6,o6⟩,⟨t7,o7⟩,⟨t8,o8⟩,⟨t9,o9⟩,⟨t10,o10⟩,⟨t11,o11⟩⟩:=op_fields
 obtain ⟨xs,n,_,rfl,hl,hxl,hf⟩:=DataW.trod_struct hs h
 rw [cells_op] at hl
 match cs,hl,xs,hxl with
 | [v0,v1,v2,v3,v4,v5,v6,v7,v8,v9,v10,v11,v12,v13,v14,v15,v16,v17,v18,v19],_,[y0,y1,y2,y3,y4,y5,y6,y7,y8,y9,y10,y11],_ =>
   have g0:=hf 0 f0 rfl
   have g1:=hf 1 f1 rfl
   have g2:=hf 2 f2 rfl
   have g3:=hf 3 f3 rfl
   have g4:=hf 4 f4 rfl
   have g5:=hf 5 f5 rfl
   have g6:=hf 6 f6 rfl
   have g7:=hf 7 f7 rfl
   have g8:=hf 8 f8 rfl
   have g9:=hf 9 f9 rfl
   have g10:=hf 10 f10 rfl
   have g11:=hf 11 f11 rfl
   simp [t0,o0,t1,o1,t2,o2,t3,o3,t4,o4,t5,o5,t6,o6,t7,o7,t8,o8,t9,o9,t10,o10,t11,o11,cells_int,cells_str,cells_mode,cells_bool,cells_lease] at g0 g1 g2 g3 g4 g5 g6 g7 g8 g9 g10 g11
   obtain ⟨a0,ha0,_,w0⟩:=DataW.trod_int Tryz.underlying3 g0
   obtain ⟨a1,ha1,_,w1⟩:=DataW.trod_int Tryz.underlying3 g1
   obtain ⟨a3,ha3,_,w3⟩:=DataW.trod_int Tryz.underlying3 g3
   obtain ⟨a4,ha4,_,w4⟩:=DataW.trod_int Tryz.underlying3 g4
   obtain ⟨a5,ha5,hx5,w5⟩:=DataW.trod_string Tryz.underlying9 g5
   have hlen5:a5.size≤reachBytes:=by
    have:=hw a5.data.toList.length (by
     simp only [DataW.weights,hs,List.map_cons,List.map_nil,DataW.weightsEach,List.mem_append]
     have e:y5.1=.lit (.string a5.data.toList):=congrArg Prod.fst hx5
     rw [e,t5]
     exact .inr (.inr (.inr (.inr (.inr (.inl (by simp [DataW.weights])))))))
    simpa using this
   obtain ⟨a6,ha6,_,w6⟩:=DataW.trod_int Tryz.underlying22 g6
   obtain ⟨a7,ha7,_,w7⟩:=DataW.trod_int Tryz.underlying3 g7
   obtain ⟨a8,ha8,_,w8⟩:=DataW.trod_int Tryz.underlying3 g8
   obtain ⟨a9,ha9,_⟩:=DataW.trod_bool Tryz.underlying4 g9
   obtain ⟨a10,ha10,_,w10⟩:=DataW.trod_int Tryz.underlying3 g10
   obtain ⟨a11,ha11,_,w11⟩:=DataW.trod_int Tryz.underlying3 g11
   obtain ⟨y,q,c,hy,hr,hi⟩:=trod_lease g2 (fun n hn=>hw n (by
    simp only [DataW.weights,hs,List.map_cons,List.map_nil,DataW.weightsEach,t2,List.mem_append]
    exact .inr (.inr (.inl hn))))
   simp at ha0 ha1 ha3 ha4 ha5 ha6 ha7 ha8 ha9 ha10 ha11
   simp only [cellsL,List.cons.injEq,and_true] at hy
   obtain ⟨e0,e1,e2,e3,e4,e5,e6,e7,e8⟩:=hy
   unfold reachBytes at hlen5
   clear w5 hx5
   exact ⟨⟨a0,a1,y,a3,a4,a5,a6,a7,a8,a9,a10,a11⟩,q,c,by rw [ha0,ha1,ha3,ha4,ha5,ha6,ha7,ha8,ha9,ha10,ha11,e0,e1,e2,e3,e4,e5,e6,e7,e8];rfl,hr,⟨w0,w1,w3,w4,w6,w7,w8,w10,w11⟩,hi,by simp only;omega⟩
def RdOp (w:World) (v:Value) (l:List OpG):Prop :=
 l.length≤maxLen∧((∃ p c,v=.slice p 0 c∧l=[])∨∃ b off cap,v=.slice (some ⟨b,off,none⟩) l.length cap∧b<w.heap.size ∧
  ∀ i,i<l.length→∃ q c,(∀ j,j<20→w.cell? ⟨b,off+i * 20+j,none⟩=(opCells (l.getD i default) (.slice q (l.getD i default).own.stamp.length c))[j]?)∧RdN w (.slice q (l.getD i default).own.stamp.length c) (l.getD i default).own.stamp∧inO (l.getD i default))
theorem RdOp.same {w w':World} {v:Value} {l:List OpG} (h:RdOp w v l) (m:Mod [] w w'):RdOp w' v l:=by
 refine ⟨h.1,h.2.imp id ?_⟩
 rintro ⟨b,off,cap,rfl,hb,hc⟩
 refine ⟨b,off,cap,rfl,Nat.lt_of_lt_of_le hb m.size,fun i hi=>?_⟩
 obtain ⟨q,c,h1,h2,h3⟩:=hc i hi
 exact ⟨q,c,fun j hj=>(m.cell (x:=⟨b,off+i * 20+j,none⟩) hb (by simp)).trans (h1 j hj),h2.mod m (by simp),h3⟩
theorem RdOp.len {w:World} {v:Value} {l:List OpG} (h:RdOp w v l):∃ p c,v=.slice p l.length c:=by
 rcases h.2 with ⟨p,c,rfl,rfl⟩ | ⟨b,off,cap,rfl,_⟩
 · exact ⟨p,c,rfl⟩
 · exact ⟨_,cap,rfl⟩
theorem RdOp.at_ {w:World} {p:Option Addr} {n c:Nat} {l:List OpG} (h:RdOp w (.slice p n c) l) (i:Nat) (hi:i<l.length) :
 ∃ b off q c',p=some ⟨b,off,none⟩∧b<w.heap.size∧(∀ j,j<20→w.cell? ⟨b,off+i * 20+j,none⟩=(opCells (l.getD i default) (.slice q (l.getD i default).own.stamp.length c'))[j]?)∧RdN w (.slice q (l.getD i default).own.stamp.length c') (l.getD i default).own.stamp∧inO (l.getD i default):=by
 rcases h.2 with ⟨_,c,_,rfl⟩ | ⟨b,off,cap,hv,hb,hc⟩
 · simp at hi
 · simp only [Value.slice.injEq] at hv
   obtain ⟨q,c',h1,h2,h3⟩:=hc i hi
   exact ⟨b,off,q,c',hv.1,hb,h1,h2,h3⟩
theorem weights_cons {H:Type} {P:Program} {t:TypeId} {ts:List TypeId} {d:DataW H} {ds:List (DataW H)} (h:(DataW.weightsEach P (t::ts) (d::ds)).all (·≤reachBytes)=true) :
 (∀ n,n∈d.weights P t→n≤reachBytes)∧(DataW.weightsEach P ts ds).all (·≤reachBytes)=true:=by
 simp only [DataW.weightsEach,List.all_append,Bool.and_eq_true] at h
 exact ⟨fun n hn=>by have:=List.all_eq_true.1 h.1 n hn;simpa using this,h.2⟩
theorem open_op {H:Type} {enc:TypeId × Value→H} {W:World} {v:Value} {d:DataW H} {p:List MemPlace} {base:Nat}
 (hv:Value.okWide Tryz.prog W .any base 33 v) (h:DataW.Trod enc Tryz.prog W 0 (fun _=>true) true 33 v d p) (hw:∀ n,n∈d.weights Tryz.prog 33→n≤reachBytes) :
 ∃ o q c,v=.agg (opCells o (.slice q o.own.stamp.length c)).toArray∧RdN W (.slice q o.own.stamp.length c) o.own.stamp∧inO o:=by
 obtain ⟨f0,f1,f2,f3,f4,f5,f6,f7,f8,f9,f10,f11,hs,_⟩:=op_fields
 obtain ⟨cs,rfl,hsz⟩:=okWide_struct hs hv
 obtain ⟨fuel,hf⟩:=h
 obtain ⟨o,q,c,hcs,hr,hi⟩:=trod_op hf hw
 simp only [Value.cells] at hcs
 refine ⟨o,q,c,?_,hr,hi⟩
 congr 1
 exact Array.toList_inj.1 hcs
end Go.Proofs.YtllljngpgjkdiaaGreatDoor
/-
  WALKS: the laws of layer 16: played.
-/
namespace Go.Proofs.YtllljngpgjkdiaaGreatDoor
open Go.RowKit Go.Maps

section
variable {d d':Dk} {g g':Gtr} {o:OpG} {x:Grt} {e:Int}
end
theorem GS.box {w0 w w':World} {pg:Nat} {b:GB} {d:Dk} {g:Gtr} (s:GS w0 w pg b d g) {S:List Nat} (m:Mod S w w') (hS:∀ k,k∈S→w0.heap.size≤k∧k ∉ b.all pg):GS w0 w' pg b d g :=
 ⟨s.gm.other m (fun k hk e=>(hS k e).2 hk),s.lo,mod_fresh s.md m (fun k hk=>(hS k hk).1),s.gi,s.n49⟩
end Go.Proofs.YtllljngpgjkdiaaGreatDoor
/-
  PLAIN LAWS OF MEMORY for GrantorOwn: what stands where behind the lists that are answered; three appends in one statement; steps of a drawn region: one of three that are ready, one behind s.
-/
namespace Go.Proofs.YtllljngpgjkdiaaGreatDoor
open Go.RowKit Go.Maps

section
variable {P:Program} {ops:Array Oper} {Q:Exit→Act→World→Prop} {md:Region.Mode} {T:World→Prop} {s:Nat} {f:Nat} {l:Array Bool} {a:Act} {w:World} {o:Oper}
theorem pX3 (i j k:Nat) {o2 o3:Oper} (h:T w→∀ K:Act→World→Prop,Kx P md ops Q s T f (l.setIfInBounds i true) K→if Region.wanted o (yielded ops a.tmps)=true then Oper.wp P o a w K Q else K (a.put o.dst undef) w)
 (h2:T w→∀ K:Act→World→Prop,Kx P md ops Q s T f (l.setIfInBounds j true) K→if Region.wanted o2 (yielded ops a.tmps)=true then Oper.wp P o2 a w K Q else K (a.put o2.dst undef) w)
 (h3:T w→∀ K:Act→World→Prop,Kx P md ops Q s T f (l.setIfInBounds k true) K→if Region.wanted o3 (yielded ops a.tmps)=true then Oper.wp P o3 a w K Q else K (a.put o3.dst undef) w) (hi:opl ops.toList i=some o:=by rfl) (hi2:opl ops.toList j=some o2:=by rfl) (hi3:opl ops.toList k=some o3:=by rfl)
 (hr:Region.ready md ops l=[i,j,k]:=by kernel_rfl) (hl:l.getD s false=false:=by kernel_rfl):WC P md ops Q s T (f+1) l a w:=fun hc hT =>
 ⟨fun h0=>absurd (hr ▸ h0) (by simp),fun m hm=>by
   have hmi:m=i∨m=j∨m=k:=by rw [hr] at hm;simpa using hm
   rcases hmi with rfl | rfl | rfl
   · exact wpOp_step (op_get hi) fun K hK=>h (hT hl) K ⟨fun b x b2 hx hW hb=>hK b x ⟨fun _=>hx,hb.symm ▸ hW (hc.set hm) fun _=>hx⟩⟩
   · exact wpOp_step (op_get hi2) fun K hK=>h2 (hT hl) K ⟨fun b x b2 hx hW hb=>hK b x ⟨fun _=>hx,hb.symm ▸ hW (hc.set hm) fun _=>hx⟩⟩
   · exact wpOp_step (op_get hi3) fun K hK=>h3 (hT hl) K ⟨fun b x b2 hx hW hb=>hK b x ⟨fun _=>hx,hb.symm ▸ hW (hc.set hm) fun _=>hx⟩⟩⟩
theorem WC.to {l2:Array Bool} (k:WC P md ops Q s T f l2 a w) (h:l=l2):WC P md ops Q s T f l a w:=h ▸ k
theorem pZ (i:Nat) (h:∀ K:Act→World→Prop,Ky P md ops Q s T f (l.setIfInBounds i true) K→if Region.wanted o (yielded ops a.tmps)=true then Oper.wp P o a w K Q else K (a.put o.dst undef) w) (hi:opl ops.toList i=some o:=by rfl)
 (hr:Region.ready md ops l=[i]:=by kernel_rfl) (hl:(l.setIfInBounds i true).getD s false=true:=by kernel_rfl):WC P md ops Q s T (f+1) l a w:=fun hc hT =>
 ⟨fun h0=>absurd (hr ▸ h0) (by simp),fun j hj=>by
   have hji:j=i:=by rw [hr] at hj;simpa using hj
   subst hji
   exact wpOp_step (op_get hi) fun K hK=>h K ⟨fun b x b2 hW hb=>hK b x ⟨fun h0=>(by rw [hl] at h0;cases h0),hb.symm ▸ hW (hc.set hj) fun h0=>(by rw [hl] at h0;cases h0)⟩⟩⟩
end
abbrev sl (g n c:Nat):Value:=.slice (some ⟨g,0,none⟩) n c
abbrev i4 (n:Int):Value:=.int .i64 n
def gObj (v:Value):Obj:=.cells #[i4 1,i4 2,.string ⟨#[97]⟩,i4 1,v,i4 10] 35 (0,0)
def hRow (v:Value):List Value:=[i4 1,i4 2,.string ⟨#[97]⟩,i4 1,v,i4 10,i4 16,i4 0,i4 0]
structure OB where
 (bx by_ pb pc qb qc rb rc bs gx cx gy cy gp cp gq cq gr cr gs cs:Nat)
def OB.ap (B:OB):Prop:=B.gx<B.bx∧B.bx<B.gy∧B.gy<B.by_∧B.by_<B.pb∧B.by_<B.gp∧B.pb≠B.gp∧B.pb<B.qb∧B.pb<B.gq∧B.gp<B.qb∧B.gp<B.gq∧B.qb≠B.gq∧B.qb<B.rb∧B.qb<B.gr∧B.gq<B.rb∧B.gq<B.gr∧B.rb≠B.gr∧B.rb<B.gs∧B.gr<B.gs∧B.gs<B.bs
structure O1 (W:World) (pg:Nat) (b:GB) (d:Dk) (g:Gtr) (B:OB) (xs ys ps:List Int) (w:World):Prop where
 s:GS W w pg b d g
 x:w.heap[B.bx]?=some (gObj (sl B.gx 3 B.cx))
 y:w.heap[B.by_]?=some (gObj (sl B.gy 3 B.cy))
 p:w.ownsRow 0 44 9 (sl B.pb 1 B.pc) 1 (hRow (sl B.gp 3 B.cp))
 q:w.ownsRow 0 44 9 (sl B.qb 1 B.qc) 1 (hRow (sl B.gq 3 B.cq))
 r:w.ownsRow 0 44 9 (sl B.rb 1 B.rc) 1 (hRow (sl B.gr 3 B.cr))
 h:w.heap[B.bs]?=some (.cells (hRow (sl B.gs 3 B.cs)).toArray 44 (0,0))
 sx:w.ownsRow 0 3 1 (sl B.gx 3 B.cx) 3 (xs.map (Value.int .i64))
 sy:w.ownsRow 0 3 1 (sl B.gy 3 B.cy) 3 (ys.map (Value.int .i64))
 sp:w.ownsRow 0 3 1 (sl B.gp 3 B.cp) 3 (ps.map (Value.int .i64))
 sq:w.ownsRow 0 3 1 (sl B.gq 3 B.cq) 3 [i4 7,i4 8,i4 2]
 sr:w.ownsRow 0 3 1 (sl B.gr 3 B.cr) 3 [i4 7,i4 8,i4 2]
 ss:w.ownsRow 0 3 1 (sl B.gs 3 B.cs) 3 [i4 7,i4 8,i4 2]
 ap:∀ k,k∈[B.gx,B.gy,B.gp,B.gq,B.gs,B.bx,B.by_,B.pb]→W.heap.size≤k∧k ∉ b.all pg
theorem row_far {w w':World} {T:TypeId} {sz n g cap:Nat} {xs:List Value} (h:w.ownsRow 0 T sz (sl g n cap) n xs) {S:List Nat} (m:Mod S w w') (hg:g ∉ S):w'.ownsRow 0 T sz (sl g n cap) n xs :=
 m.row h (fun k hk=>by have:k=g:=by simpa [Value.ownBlock,eq_comm] using hk
                       rw [this];exact hg)
theorem row_some {w:World} {base sz n c:Nat} {T:TypeId} {q:Option Addr} {xs:List Value} (h:w.ownsRow base T sz (.slice q n c) n xs) (hn:0<n):∃ g,q=some ⟨g,0,none⟩∧base≤g∧g<w.heap.size:=by
 rcases h.2 with ⟨hv,hn'⟩ | ⟨g,cap,cur,hv,hb,hg,_⟩
 · omega
 · simp only [Value.slice.injEq] at hv
   exact ⟨g,hv.1,hb,lt_of_block hg⟩
theorem row_shape {w:World} {base sz n:Nat} {T:TypeId} {v:Value} {xs:List Value} (h:w.ownsRow base T sz v n xs) (hn:0<n):∃ g c,v=sl g n c∧base≤g∧g<w.heap.size:=by
 rcases h.2 with ⟨hv,hn'⟩ | ⟨g,cap,cur,hv,hb,hg,_⟩
 · omega
 · exact ⟨g,cap,hv,hb,lt_of_block hg⟩
def xH:Hld:=⟨⟨1,2,⟨#[97]⟩,1,[7,8,2],10⟩,16,0,0⟩
theorem list_parts {w w':World} {e:Ending} (h:ListTo w [xH] e w'):∃ pb pc gp cp,e=.returned (sl pb 1 pc)∧w'.ownsRow 0 44 9 (sl pb 1 pc) 1 (hRow (sl gp 3 cp))∧w'.ownsRow 0 3 1 (sl gp 3 cp) 3 [i4 7,i4 8,i4 2]∧Mod [] w w' ∧
 w.heap.size≤pb∧w.heap.size≤gp∧pb<w'.heap.size∧gp<w'.heap.size∧pb≠gp:=by
 obtain ⟨q,c,lh,rfl,hl,hM,m⟩:=h
 cases lh with
 | nil=>cases hl
 | cons p r =>
   obtain ⟨x,v⟩:=p
   simp only [List.map_cons,List.cons.injEq,List.map_eq_nil_iff] at hl
   obtain ⟨rfl,rfl⟩:=hl
   obtain ⟨pb,rfl,h1,h2⟩:=row_some hM.row (by simp)
   obtain ⟨h3,h4⟩:=hM.st (xH,v) (by simp)
   have h3:w'.ownsRow w.heap.size 3 1 v 3 [i4 7,i4 8,i4 2]:=h3
   obtain ⟨gp,cp,rfl,h5,h6⟩:=row_shape h3 (by decide)
   exact ⟨pb,c,gp,cp,rfl,World.ownsRow.mono hM.row (Nat.zero_le _),World.ownsRow.mono h3 (Nat.zero_le _),m,h1,h5,h2,h6,fun e=>h4 gp (by simp [ob,Value.ownBlock]) (by simp [ob,Value.ownBlock,e])⟩
structure O2 (W:World) (pg:Nat) (b:GB) (d:Dk) (g:Gtr) (B:OB) (w:World):Prop where
 s:GS W w pg b d g
 x:w.heap[B.bx]?=some (gObj (sl B.gx 3 B.cx))
 y:w.heap[B.by_]?=some (gObj (sl B.gy 3 B.cy))
 p:w.ownsRow 0 44 9 (sl B.pb 1 B.pc) 1 (hRow (sl B.gp 3 B.cp))
 r:w.ownsRow 0 44 9 (sl B.rb 1 B.rc) 1 (hRow (sl B.gr 3 B.cr))
 sx:w.ownsRow 0 3 1 (sl B.gx 3 B.cx) 3 [i4 81,i4 8,i4 1]
 sy:w.ownsRow 0 3 1 (sl B.gy 3 B.cy) 3 [i4 82,i4 8,i4 2]
 sp:w.ownsRow 0 3 1 (sl B.gp 3 B.cp) 3 [i4 83,i4 8,i4 2]
 sr:w.ownsRow 0 3 1 (sl B.gr 3 B.cr) 3 [i4 7,i4 8,i4 2]
 ap:∀ k,k∈[B.gx,B.gy,B.gp,B.gq,B.gs,B.bx,B.by_,B.pb]→W.heap.size≤k∧k ∉ b.all pg
section
variable {W w w':World} {pg:Nat} {b:GB} {d:Dk} {g:Gtr} {B:OB}
theorem set_mod (w:World) (k i:Nat) (v:Value):Mod [k] w (w.setCell ⟨k,i,none⟩ v):=(Mod.refl _ w).setCell (fun _=>by simp) v
theorem O1.quiet {xs ys ps:List Int} (h:O1 W pg b d g B xs ys ps w) (m:Mod [] w w'):O1 W pg b d g B xs ys ps w' :=
 ⟨h.s.quiet m,m.at_ h.x (by simp),m.at_ h.y (by simp),row_far h.p m (by simp),row_far h.q m (by simp),row_far h.r m (by simp),m.at_ h.h (by simp),row_far h.sx m (by simp),row_far h.sy m (by simp),row_far h.sp m (by simp),row_far h.sq m (by simp),row_far h.sr m (by simp),row_far h.ss m (by simp),h.ap⟩
theorem O1.cells {xs ys ps:List Int} (hB:B.ap) (h:O1 W pg b d g B xs ys ps w) (m:Mod [B.gx,B.gy,B.gp,B.gq,B.gs] w w') :
 w'.cell? ⟨B.bx,4,none⟩=some (sl B.gx 3 B.cx)∧w'.cell? ⟨B.by_,4,none⟩=some (sl B.gy 3 B.cy)∧w'.cell? ⟨B.pb,4,none⟩=some (sl B.gp 3 B.cp)∧w'.cell? ⟨B.qb,4,none⟩=some (sl B.gq 3 B.cq)∧w'.cell? ⟨B.bs,4,none⟩=some (sl B.gs 3 B.cs):=by
 unfold OB.ap at hB
 exact ⟨blk_cell (m.at_ h.x (by simp;omega)) 4,blk_cell (m.at_ h.y (by simp;omega)) 4,World.ownsRow.cellAt (row_far h.p m (by simp;omega)) 4 (by decide),World.ownsRow.cellAt (row_far h.q m (by simp;omega)) 4 (by decide),blk_cell (m.at_ h.h (by simp;omega)) 4⟩
theorem O2.cells (hB:B.ap) (h:O2 W pg b d g B w) (m:Mod [B.gx,B.gy,B.gp] w w') :
 w'.cell? ⟨B.bx,4,none⟩=some (sl B.gx 3 B.cx)∧w'.cell? ⟨B.by_,4,none⟩=some (sl B.gy 3 B.cy)∧w'.cell? ⟨B.pb,4,none⟩=some (sl B.gp 3 B.cp):=by
 unfold OB.ap at hB
 exact ⟨blk_cell (m.at_ h.x (by simp;omega)) 4,blk_cell (m.at_ h.y (by simp;omega)) 4,World.ownsRow.cellAt (row_far h.p m (by simp;omega)) 4 (by decide)⟩
theorem OB.ap.ne (h:B.ap):B.bx≠B.by_∧B.bx≠B.pb∧B.by_≠B.pb∧B.by_≠B.bx∧B.pb≠B.bx∧B.pb≠B.by_:=by
 unfold OB.ap at h
 omega
theorem O2.st (hB:B.ap) (h:O2 W pg b d g B w) (m:Mod [B.gx,B.gy,B.gp] w w'):(∀ i,w'.frozen? ⟨B.bx,i,none⟩=false)∧(∀ i,w'.frozen? ⟨B.by_,i,none⟩=false)∧(∀ i,w'.frozen? ⟨B.pb,i,none⟩=false)∧B.bx<w'.heap.size∧B.by_<w'.heap.size∧B.pb<w'.heap.size:=by
 unfold OB.ap at hB
 have hx:=m.at_ h.x (by simp;omega)
 have hy:=m.at_ h.y (by simp;omega)
 have hp:=row_far h.p m (by simp;omega)
 exact ⟨fun i=>blk_free hx i,fun i=>blk_free hy i,fun i=>World.ownsRow.frozenAt hp i,lt_of_block hx,lt_of_block hy,(World.ownsRow.lt hp _ rfl).2⟩
theorem row_st {k n c:Nat} {T:TypeId} {xs:List Value} {u:Value} (h:w.ownsRow 0 T 1 (sl k n c) n (u::xs)):w.cell? ⟨k,0,none⟩=some u∧(∀ i,w.frozen? ⟨k,i,none⟩=false)∧k<w.heap.size :=
 ⟨World.ownsRow.cellAt h 0 (by have:=h.1;simp at this;omega),fun i=>World.ownsRow.frozenAt h i,(World.ownsRow.lt h _ rfl).2⟩
theorem O1.end23 {wa wb wc wd we:World} (hB:B.ap) (h:O1 W pg b d g B [7,8,1] [7,8,2] [7,8,2] w) (e1:wa=w.setCell ⟨B.gx,0,none⟩ (.int .i64 81)) (e2:wb=wa.setCell ⟨B.gy,0,none⟩ (.int .i64 82)) (e3:wc=wb.setCell ⟨B.gp,0,none⟩ (.int .i64 83)) (e4:wd=wc.setCell ⟨B.gq,0,none⟩ (.int .i64 84)) (e5:we=wd.setCell ⟨B.gs,0,none⟩ (.int .i64 85)) :
 O2 W pg b d g B we:=by
 unfold OB.ap at hB
 have r1:=(World.ownsRow.stored h.sx 0 (i4 81)).1
 have m1:=set_mod w B.gx 0 (i4 81)
 rw [← e1] at m1 r1
 have r2:=(World.ownsRow.stored (row_far h.sy m1 (by simp;omega)) 0 (i4 82)).1
 have m2:=set_mod wa B.gy 0 (i4 82)
 rw [← e2] at m2 r2
 have r3:=(World.ownsRow.stored (row_far (row_far h.sp m1 (by simp;omega)) m2 (by simp;omega)) 0 (i4 83)).1
 have m3:=set_mod wb B.gp 0 (i4 83)
 rw [← e3] at m3 r3
 have m4:=set_mod wc B.gq 0 (i4 84)
 rw [← e4] at m4
 have m5:=set_mod wd B.gs 0 (i4 85)
 rw [← e5] at m5
 have m45:Mod [B.gq,B.gs] wc we:=m4.trans m5 (fun x hx _=>by simp at hx;simp [hx]) (fun x hx _=>by simp at hx;simp [hx])
 have m35:Mod [B.gp,B.gq,B.gs] wb we:=m3.trans m45 (fun x hx _=>by simp at hx;simp [hx]) (fun x hx _=>List.mem_cons_of_mem _ hx)
 have m25:Mod [B.gy,B.gp,B.gq,B.gs] wa we:=m2.trans m35 (fun x hx _=>by simp at hx;simp [hx]) (fun x hx _=>List.mem_cons_of_mem _ hx)
 have m:Mod [B.gx,B.gy,B.gp,B.gq,B.gs] w we:=m1.trans m25 (fun x hx _=>by simp at hx;simp [hx]) (fun x hx _=>List.mem_cons_of_mem _ hx)
 exact ⟨h.s.box m (fun k hk=>h.ap k (by simp at hk ⊢;omega)),m.at_ h.x (by simp;omega),m.at_ h.y (by simp;omega),row_far h.p m (by simp;omega),row_far h.r m (by simp;omega),row_far r1 m25 (by simp;omega),row_far r2 m35 (by simp;omega),row_far r3 m45 (by simp;omega),row_far h.sr m (by simp;omega),h.ap⟩
def Cel (N:Nat) (w:World) (z:Int):Option Nat→Prop
 | none=>True
 | some n=>w.heap[n]?=some (.cells #[i4 z] 3 (0,0))∧N≤n
def Stmp (N:Nat) (w:World) (s c:Nat) (l:List Int) (z:Int):Option (Nat × Nat)→Prop
 | none=>w.ownsRow 0 3 1 (sl s 3 c) 3 (l.map (Value.int .i64))
 | some (g,d)=>w.ownsRow 0 3 1 (sl g 4 d) 4 ((l++[z]).map (Value.int .i64))∧(g=s∨N≤g)
structure One (N:Nat) (s c:Nat) (l:List Int) (z:Int) (n:Option Nat) (r:Option (Nat × Nat)) (w:World):Prop where
 ce:Cel N w z n
 st:Stmp N w s c l z r
section
variable {N s c:Nat} {l:List Int} {z:Int} {n:Option Nat} {r:Option (Nat × Nat)}
theorem One.mod (h:One N s c l z n r w) {S:List Nat} (m:Mod S w w') (hs:s ∉ S) (hS:∀ k,k∈S→k<N):One N s c l z n r w':=by
 refine ⟨?_,?_⟩
 · cases n with
   | none=>trivial
   | some n=>exact ⟨m.at_ h.ce.1 (fun e=>by have:=hS _ e;have:=h.ce.2;omega),h.ce.2⟩
 · cases r with
   | none=>exact row_far h.st m hs
   | some p=>exact ⟨row_far h.st.1 m (fun e=>by
      rcases h.st.2 with q | q
      · rw [q] at e;exact hs e
      · have:=hS _ e;omega),h.st.2⟩
theorem One.alloc (h:One N s c l z none r w) (hN:N≤w.heap.size):One N s c l z (some w.heap.size) r (w.alloc (.cells #[i4 z] 3 (0,0))) :=
 ⟨⟨heap_alloc_new w _,hN⟩,(h.mod (((Mod.refl [] w).alloc _)) (by simp) (by simp)).st⟩
theorem One.app {ops:Array Oper} {o:Oper} {a:Act} {K:Act→World→Prop} {Q:Exit→Act→World→Prop} {E:Prop} {n:Nat} (h:One N s c l z (some n) none w) (_:l.length=3) (hN:N≤w.heap.size) (hgd:o.guard=none) (x y:Operand)
 (ho:o.op=.call { callee:=.builtin .append,args:=#[x,y],argTypes:=#[23,23] }) (hx:a.eval x=sl s 3 c) (hy:a.eval y=sl n 1 1)
 (hK:∀ g d w',One N s c l z (some n) (some (g,d)) w'→Mod [s] w w'→K (a.put o.dst (.slice (some ⟨g,0,none⟩) 4 d)) w') (hsN:s<N):if Region.wanted o (yielded ops a.tmps)=true then Oper.wp Tryz.prog o a w K Q else E:=by
 obtain ⟨i0,hi0,hz0,hz1,hz2⟩:=info_parts info_int
 refine step_append_lies _ hgd x y _ ho 0 3 i0 _ 1 8 Tryz.underlying23 hi0 hz0 hz1 hz2 rfl (by omega) (sl s 3 c) 3 (l.map (Value.int .i64)) hx h.st ⟨n,0,none⟩ 1 1 [i4 z] hy rfl (World.news_of_block (cs:=#[i4 z]) (t:=3) (fr:=(0,0)) h.ce.1) (by simp [Value.oneCell']) (by omega) (by unfold maxLen;omega) (by omega) (Nat.zero_le _) _ rfl ?_
 intro g d w1 hown hgrow hat _
 have m:Mod [s] w w1:=(Mod.refl [s] w).grown hgrow (fun k e _=>by simp [Value.ownBlock] at e;simp [e])
 refine hK g d w1 ⟨⟨m.at_ h.ce.1 (fun e=>by simp at e;have:=h.ce.2;omega),h.ce.2⟩,⟨by simpa using hown,?_⟩⟩ m
 rcases hat with e | e
 · exact .inl (by simp [Value.ownBlock] at e;exact e.symm)
 · exact .inr (by omega)
end
theorem put_lit {a:Act} {i:Nat} {v:Value} {l l2:List Value} (h:a.tmps=l.toArray) (h2:l.set i v=l2):a.put (some i) v={ a with tmps:=l2.toArray }:=by
 subst h2
 simp only [Act.put,h,List.setIfInBounds_toArray]
theorem step_b1 {ops:Array Oper} {o:Oper} {a:Act} {K:Act→World→Prop} {Q:Exit→Act→World→Prop} {E:Prop} {z:Int} {w:World} (hgd:o.guard=none) (ho:o.op=.buildSlice 23 1 #[(0,.const (.int .i64 z))])
 (hK:K (a.put o.dst (.slice (some ⟨w.heap.size,0,none⟩) 1 1)) (w.alloc (.cells #[.int .i64 z] 3 (0,0)))):if Region.wanted o (yielded ops a.tmps)=true then Oper.wp Tryz.prog o a w K Q else E:=by
 rw [if_pos (by simp [Region.wanted,hgd])]
 unfold Oper.wp execOp
 simp only [ho]
 go_simp
 exact hK
structure R3 (Z:World) (B:OB) (n1 n2 n3:Option Nat) (r1 r2 r3:Option (Nat × Nat)) (w:World):Prop where
 md:Mod [B.gx,B.gy,B.gp] Z w
 o1:One Z.heap.size B.gx B.cx [81,8,1] 1 n1 r1 w
 o2:One Z.heap.size B.gy B.cy [82,8,2] 2 n2 r2 w
 o3:One Z.heap.size B.gp B.cp [83,8,2] 3 n3 r3 w
def OB.pw (B:OB) (N:Nat):Prop:=B.gx≠B.gy∧B.gx≠B.gp∧B.gy≠B.gp∧B.gx<N∧B.gy<N∧B.gp<N
section
variable {Z:World} {n1 n2 n3:Option Nat} {r1 r2 r3:Option (Nat × Nat)} {ops:Array Oper} {o:Oper} {a:Act} {K:Act→World→Prop} {Q:Exit→Act→World→Prop} {E:Prop}
theorem R3.gr (h:R3 Z B n1 n2 n3 r1 r2 r3 w) (o:Obj):R3 Z B n1 n2 n3 r1 r2 r3 (w.alloc o) :=
 ⟨h.md.alloc o,h.o1.mod ((Mod.refl [] w).alloc o) (by simp) (by simp),h.o2.mod ((Mod.refl [] w).alloc o) (by simp) (by simp),h.o3.mod ((Mod.refl [] w).alloc o) (by simp) (by simp)⟩
theorem R3.alloc1 (h:R3 Z B none n2 n3 r1 r2 r3 w):R3 Z B (some w.heap.size) n2 n3 r1 r2 r3 (w.alloc (.cells #[.int .i64 1] 3 (0,0))):={ h.gr _ with o1:=h.o1.alloc h.md.size }
theorem R3.alloc2 (h:R3 Z B n1 none n3 r1 r2 r3 w):R3 Z B n1 (some w.heap.size) n3 r1 r2 r3 (w.alloc (.cells #[.int .i64 2] 3 (0,0))):={ h.gr _ with o2:=h.o2.alloc h.md.size }
theorem R3.alloc3 (h:R3 Z B n1 n2 none r1 r2 r3 w):R3 Z B n1 n2 (some w.heap.size) r1 r2 r3 (w.alloc (.cells #[.int .i64 3] 3 (0,0))):={ h.gr _ with o3:=h.o3.alloc h.md.size }
theorem mod3 {k:Nat} (hB:k∈[B.gx,B.gy,B.gp]) (h:Mod [B.gx,B.gy,B.gp] Z w) (m:Mod [k] w w'):Mod [B.gx,B.gy,B.gp] Z w':=h.trans m (fun _ x _=>x) (fun x hx _=>by simp at hx;rw [hx];exact hB)
theorem R3.app1 {n:Nat} (hB:B.pw Z.heap.size) (h:R3 Z B (some n) n2 n3 none r2 r3 w) (hgd:o.guard=none) (x y:Operand) (ho:o.op=.call { callee:=.builtin .append,args:=#[x,y],argTypes:=#[23,23] }) (hx:a.eval x=sl B.gx 3 B.cx) (hy:a.eval y=sl n 1 1)
 (hK:∀ g d w',R3 Z B (some n) n2 n3 (some (g,d)) r2 r3 w'→K (a.put o.dst (.slice (some ⟨g,0,none⟩) 4 d)) w'):if Region.wanted o (yielded ops a.tmps)=true then Oper.wp Tryz.prog o a w K Q else E:=by
 obtain ⟨a1,a2,a3,a4,a5,a6⟩:=hB
 exact h.o1.app rfl h.md.size hgd x y ho hx hy (fun g d w' k m=>hK g d w' ⟨mod3 (by simp) h.md m,k,h.o2.mod m (by simp;omega) (by simp;omega),h.o3.mod m (by simp;omega) (by simp;omega)⟩) a4
theorem R3.app2 {n:Nat} (hB:B.pw Z.heap.size) (h:R3 Z B n1 (some n) n3 r1 none r3 w) (hgd:o.guard=none) (x y:Operand) (ho:o.op=.call { callee:=.builtin .append,args:=#[x,y],argTypes:=#[23,23] }) (hx:a.eval x=sl B.gy 3 B.cy) (hy:a.eval y=sl n 1 1)
 (hK:∀ g d w',R3 Z B n1 (some n) n3 r1 (some (g,d)) r3 w'→K (a.put o.dst (.slice (some ⟨g,0,none⟩) 4 d)) w'):if Region.wanted o (yielded ops a.tmps)=true then Oper.wp Tryz.prog o a w K Q else E:=by
 obtain ⟨a1,a2,a3,a4,a5,a6⟩:=hB
 exact h.o2.app rfl h.md.size hgd x y ho hx hy (fun g d w' k m=>hK g d w' ⟨mod3 (by simp) h.md m,h.o1.mod m (by simp;omega) (by simp;omega),k,h.o3.mod m (by simp;omega) (by simp;omega)⟩) a5
theorem R3.app3 {n:Nat} (hB:B.pw Z.heap.size) (h:R3 Z B n1 n2 (some n) r1 r2 none w) (hgd:o.guard=none) (x y:Operand) (ho:o.op=.call { callee:=.builtin .append,args:=#[x,y],argTypes:=#[23,23] }) (hx:a.eval x=sl B.gp 3 B.cp) (hy:a.eval y=sl n 1 1)
 (hK:∀ g d w',R3 Z B n1 n2 (some n) r1 r2 (some (g,d)) w'→K (a.put o.dst (.slice (some ⟨g,0,none⟩) 4 d)) w'):if Region.wanted o (yielded ops a.tmps)=true then Oper.wp Tryz.prog o a w K Q else E:=by
 obtain ⟨a1,a2,a3,a4,a5,a6⟩:=hB
 exact h.o3.app rfl h.md.size hgd x y ho hx hy (fun g d w' k m=>hK g d w' ⟨mod3 (by simp) h.md m,h.o1.mod m (by simp;omega) (by simp;omega),h.o2.mod m (by simp;omega) (by simp;omega),k⟩) a6
structure O3 (W:World) (pg:Nat) (b:GB) (d:Dk) (g:Gtr) (B:OB) (w:World):Prop where
 s:GS W w pg b d g
 x:∃ k c,w.heap[B.bx]?=some (gObj (sl k 4 c))∧w.ownsRow 0 3 1 (sl k 4 c) 4 [i4 81,i4 8,i4 1,i4 1]
 y:∃ k c,w.heap[B.by_]?=some (gObj (sl k 4 c))∧w.ownsRow 0 3 1 (sl k 4 c) 4 [i4 82,i4 8,i4 2,i4 2]
 p:∃ k c,w.ownsRow 0 44 9 (sl B.pb 1 B.pc) 1 (hRow (sl k 4 c))∧w.ownsRow 0 3 1 (sl k 4 c) 4 [i4 83,i4 8,i4 2,i4 3]
 r:w.ownsRow 0 44 9 (sl B.rb 1 B.rc) 1 (hRow (sl B.gr 3 B.cr))
 sr:w.ownsRow 0 3 1 (sl B.gr 3 B.cr) 3 [i4 7,i4 8,i4 2]
theorem O2.ltZ (h:O2 W pg b d g B Z):B.bx<Z.heap.size∧B.by_<Z.heap.size∧B.pb<Z.heap.size∧B.gx<Z.heap.size∧B.gy<Z.heap.size∧B.gp<Z.heap.size∧B.rb<Z.heap.size∧B.gr<Z.heap.size :=
 ⟨lt_of_block h.x,lt_of_block h.y,(World.ownsRow.lt h.p _ rfl).2,(World.ownsRow.lt h.sx _ rfl).2,(World.ownsRow.lt h.sy _ rfl).2,(World.ownsRow.lt h.sp _ rfl).2,(World.ownsRow.lt h.r _ rfl).2,(World.ownsRow.lt h.sr _ rfl).2⟩
theorem O2.pw (h:O2 W pg b d g B Z) (hB:B.ap):B.pw Z.heap.size:=by
 unfold OB.ap at hB
 obtain ⟨-,-,-,h4,h5,h6,-⟩:=h.ltZ
 exact ⟨by omega,by omega,by omega,h4,h5,h6⟩
theorem O2.start (h:O2 W pg b d g B Z):R3 Z B none none none none none none Z.drew :=
 have m:Mod [] Z Z.drew:=(Mod.refl [] Z).drew
 ⟨(Mod.refl _ Z).drew,⟨trivial,row_far h.sx m (by simp)⟩,⟨trivial,row_far h.sy m (by simp)⟩,⟨trivial,row_far h.sp m (by simp)⟩⟩
theorem O2.fin24 (h:O2 W pg b d g B Z) (hB:B.ap) {g1 d1 g2 d2 g3 d3:Nat} (k:R3 Z B n1 n2 n3 (some (g1,d1)) (some (g2,d2)) (some (g3,d3)) w) :
 O3 W pg b d g B (((w.setCell ⟨B.bx,4,none⟩ (sl g1 4 d1)).setCell ⟨B.by_,4,none⟩ (sl g2 4 d2)).setCell ⟨B.pb,4,none⟩ (sl g3 4 d3)):=by
 unfold OB.ap at hB
 obtain ⟨l1,l2,l3,l4,l5,l6,l7,l8⟩:=h.ltZ
 obtain ⟨p1,q1⟩:=k.o1.st
 obtain ⟨p2,q2⟩:=k.o2.st
 obtain ⟨p3,q3⟩:=k.o3.st
 have hx:=k.md.at_ h.x (by simp;omega)
 have hy:=k.md.at_ h.y (by simp;omega)
 have hp:=row_far h.p k.md (by simp;omega)
 have hr:=row_far h.r k.md (by simp;omega)
 have hsr:=row_far h.sr k.md (by simp;omega)
 have m1:=set_mod w B.bx 4 (sl g1 4 d1)
 have x1:=blk_set hx 4 (sl g1 4 d1)
 generalize w.setCell ⟨B.bx,4,none⟩ (sl g1 4 d1)=wa at m1 x1 ⊢
 have m2:=set_mod wa B.by_ 4 (sl g2 4 d2)
 have y1:=blk_set (m1.at_ hy (by simp;omega)) 4 (sl g2 4 d2)
 generalize wa.setCell ⟨B.by_,4,none⟩ (sl g2 4 d2)=wb at m2 y1 ⊢
 have m3:=set_mod wb B.pb 4 (sl g3 4 d3)
 have z1:=(World.ownsRow.stored (row_far (row_far hp m1 (by simp;omega)) m2 (by simp;omega)) 4 (sl g3 4 d3)).1
 generalize wb.setCell ⟨B.pb,4,none⟩ (sl g3 4 d3)=wc at m3 z1 ⊢
 have m:Mod [B.bx,B.by_,B.pb] w wc:=(m1.trans m2 (U:=[B.bx,B.by_,B.pb]) (fun x hx _=>by simp at hx;simp [hx]) (fun x hx _=>by simp at hx;simp [hx])).trans m3 (fun _ x _=>x) (fun x hx _=>by simp at hx;simp [hx])
 refine ⟨(h.s.box k.md (fun k hk=>h.ap k (by simp at hk ⊢;omega))).box m (fun k hk=>h.ap k (by simp at hk ⊢;omega)),⟨g1,d1,m3.at_ (m2.at_ x1 (by simp;omega)) (by simp;omega),row_far p1 m (by simp;omega)⟩,⟨g2,d2,m3.at_ y1 (by simp;omega),row_far p2 m (by simp;omega)⟩,⟨g3,d3,z1,row_far p3 m (by simp;omega)⟩,row_far hr m (by simp;omega),row_far hsr m (by simp;omega)⟩
theorem O3.cells (h:O3 W pg b d g B Z):∃ k1 c1 k2 c2 k3 c3,∀ w:World,Mod [] Z w→w.cell? ⟨B.rb,4,none⟩=some (.slice (some ⟨B.gr,0,none⟩) 3 B.cr)∧w.cell? ⟨B.bx,4,none⟩=some (.slice (some ⟨k1,0,none⟩) 4 c1)∧w.cell? ⟨k1,0,none⟩=some (.int .i64 81) ∧
 w.cell? ⟨B.by_,4,none⟩=some (.slice (some ⟨k2,0,none⟩) 4 c2)∧w.cell? ⟨k2,0,none⟩=some (.int .i64 82)∧w.cell? ⟨B.pb,4,none⟩=some (.slice (some ⟨k3,0,none⟩) 4 c3)∧w.cell? ⟨k3,0,none⟩=some (.int .i64 83)∧B.bx<w.heap.size∧B.by_<w.heap.size∧B.pb<w.heap.size∧B.rb<w.heap.size:=by
 obtain ⟨k1,c1,x1,x2⟩:=h.x
 obtain ⟨k2,c2,y1,y2⟩:=h.y
 obtain ⟨k3,c3,z1,z2⟩:=h.p
 exact ⟨k1,c1,k2,c2,k3,c3,fun w m=>⟨World.ownsRow.cellAt (row_far h.r m (by simp)) 4 (by decide),blk_cell (m.at_ x1 (by simp)) 4,World.ownsRow.cellAt (row_far x2 m (by simp)) 0 (by decide),blk_cell (m.at_ y1 (by simp)) 4,World.ownsRow.cellAt (row_far y2 m (by simp)) 0 (by decide),World.ownsRow.cellAt (row_far z1 m (by simp)) 4 (by decide),World.ownsRow.cellAt (row_far z2 m (by simp)) 0 (by decide),Nat.lt_of_lt_of_le (lt_of_block x1) m.size,Nat.lt_of_lt_of_le (lt_of_block y1) m.size,Nat.lt_of_lt_of_le (World.ownsRow.lt z1 _ rfl).2 m.size,Nat.lt_of_lt_of_le (World.ownsRow.lt h.r _ rfl).2 m.size⟩⟩
theorem same3 {w:World} {v:Value} (h:RdN w v [7,8,2]):Calls Tryz.prog 25 #[v,.slice (some ⟨w.heap.size,0,none⟩) 3 3] (w.alloc (.cells #[.int .i64 7,.int .i64 8,.int .i64 2] 3 (0,0))) fun e w'=>e=.returned (.bool true)∧Mod [] w w':=by
 have hm:Mod [] w (w.alloc (.cells #[.int .i64 7,.int .i64 8,.int .i64 2] 3 (0,0))):=(Mod.refl _ _).alloc _
 refine (sameInts_any (h.mod hm (by simp)) (rd_blk (m:=[7,8,2]) (heap_alloc_new w _) (by show 3≤maxLen;decide))).mono ?_
 rintro e w' ⟨rfl,g⟩
 exact ⟨by rw [decide_eq_true rfl],hm.gr g⟩
end
end
end Go.Proofs.YtllljngpgjkdiaaGreatDoor
/-
  THE LAW GrantorApart: its walk.
-/
namespace Go.Proofs.YtllljngpgjkdiaaGreatDoor
open Go.RowKit Go.Maps

end Go.Proofs.YtllljngpgjkdiaaGreatDoor
/-
  THE LAW GrantorOwn: its walk. (Written by wip/gen_gtow.py.)
-/
namespace Go.Proofs.YtllljngpgjkdiaaGreatDoor
set_option maxRecDepth 100000
set_option maxHeartbeats 40000000
open Go.RowKit Go.Maps

def zG:Array Value:=#[.int .i64 0,.int .i64 0,.string ⟨#[]⟩,.int .i64 0,.slice none 0 0,.int .i64 0]
theorem make9 (w:World):(Instr.makeSlice 23 (.int .i64 0) (.int .i64 9)).run Tryz.prog w=.ok (.slice (some ⟨w.heap.size,0,none⟩) 0 9) (w.alloc (.cells #[.int .i64 0,.int .i64 0,.int .i64 0,.int .i64 0,.int .i64 0,.int .i64 0,.int .i64 0,.int .i64 0,.int .i64 0] 3 (0,0))):=by
 have h:=Go.run_make_room (P:=Tryz.prog) 23 3 (.int .i64 0) 8 Tryz.underlying23 info_int rfl .i64 .i64 9 (by decide) (by decide) w
 rw [madeCells_one] at h
 exact h
theorem gown_any {W:World} {q:Option Addr} {c:Nat} {o:OpG} (hr:RdN W (.slice q o.own.stamp.length c) o.own.stamp) (hi:inO o) :
 Calls Tryz.prog 4 #[.agg (opCells o (.slice q o.own.stamp.length c)).toArray] W fun e w'=>e=.returned (.bool true)∧Mod [] W w':=by
 obtain ⟨d1,f1,f2,-,f4⟩:=fresh_law
 have hfr:=fun (W:World)=>fresh_any f1 f2 f4 W
 obtain ⟨d2,g2,d3,g3,l1,l2,l3⟩:=own_law f2
 obtain ⟨l4,l5⟩:=own_held l3
 have HF:=hide hfr
 have HLA:=hd5 l1 l2 l3 l4 l5
 clear hfr f1 f2 f4 l1 l2 l3 l4 l5
 obtain ⟨-,⟨-,hlp,hls⟩,hop⟩:=hi
 obtain ⟨kd,nw,⟨lf,li,lp,lm,la,lt,ls,le,lr⟩,oi,oh,op,om,ot,ok,ofr,oo,on⟩:=o
 simp only at hlp hls hop hr
 obtain ⟨n,hna⟩:∃ n,la.length=n:=⟨_,rfl⟩
 have how:=fun {W:World} (h:RdN W (.slice q la.length c) la)=>own_any (w:=W) (l:=⟨lf,li,lp,lm,la,lt,ls,le,lr⟩) (q:=q) (c:=c) h hls
 have hgn:=fun (w:World) (v:Value)=>grant_nil w nw oh om ot op ⟨lf,li,lp,lm,la,lt,ls,le,lr⟩ v
 have hrn:=fun (w:World) (v:Value)=>renew_nil w nw oi oh ot ofr ⟨lf,li,lp,lm,la,lt,ls,le,lr⟩ v
 unfold opCells
 unfold aggL cellsL at hgn hrn
 unfold OwnTo aggL cellsL at how
 simp only at how hgn hrn ⊢
 rw [hna] at how hr ⊢
 obtain ⟨W3,hW3⟩:∃ W3,W3=W.alloc (.cells #[.int .i64 kd,.int .i64 nw,.int .i64 lf,.int .i64 li,.string lp,.int .i64 lm,.slice q n c,.int .i64 lt,.int .i64 ls,.int .i64 le,.bool lr,.int .i64 oi,.int .i64 oh,.string op,.int .i64 om,.int .i64 ot,.int .i64 ok,.bool ofr,.int .i64 oo,.int .i64 on] 33 (0,0)):=⟨_,rfl⟩
 have m3:Mod [] W W3:=by rw [hW3];exact (Mod.refl _ _).alloc _
 have h5:W3.heap[W.heap.size]?=some (.cells #[.int .i64 kd,.int .i64 nw,.int .i64 lf,.int .i64 li,.string lp,.int .i64 lm,.slice q n c,.int .i64 lt,.int .i64 ls,.int .i64 le,.bool lr,.int .i64 oi,.int .i64 oh,.string op,.int .i64 om,.int .i64 ot,.int .i64 ok,.bool ofr,.int .i64 oo,.int .i64 on] 33 (0,0)):=by rw [hW3];exact heap_alloc_new _ _
 have hC5:∀ w2,Mod [] W3 w2→∀ i,w2.cell? ⟨W.heap.size,i,none⟩=_:=fun w2 m=>blk_cell (m.at_ h5 (by simp))
 have HC:=hide hC5
 have HR:=hide (hr.mod m3 (by simp))
 have L5:=lt_of_block h5
 have M3:=hide m3
 clear hr h5 m3 hC5 hls hlp
 obtain ⟨B5,hB5⟩:∃ x,W.heap.size=x:=⟨_,rfl⟩
 rw [hB5] at HC L5
 go_enter Tryz.func4,Tryz.ntmps4
 go_upto_region 1 with fail
 rw [← hW3]
 clear hW3 hB5
 go_upto_region 4 with (first
  | (go_at_call 12;refine (awake_any _).mono ?_;rintro e w1 ⟨rfl,m4⟩)
  | fail)
 go_cut [5] (fun s5 wx=>s5=.int .i64 1∧Mod [] W3 wx)
 case first =>
  as_aux_lemma =>
  refine pB 999 (fun w2=>Mod [] W3 w2) (m4.drew) ?_
  generalize w1.drew=V
  refine pP 0 ?_;refine pP 1 ?_
  refine pH 2 rfl (fun w2 h=>by have D:=HC.out _ h;go_simp;try with_reducible rfl) ?_
  refine pP 3 ?_
  refine pH 4 rfl (fun w2 h=>by have D:=HC.out _ h;go_simp;try with_reducible rfl) ?_
  refine pP 6 ?_
  refine pH 7 rfl (fun w2 h=>by have D:=HC.out _ h;go_simp;try with_reducible rfl) ?_
  refine pP 8 ?_
  refine pH 9 rfl (fun w2 h=>by have D:=HC.out _ h;go_simp;try with_reducible rfl) ?_
  refine pP 10 ?_
  refine pH 11 rfl (fun w2 h=>by have D:=HC.out _ h;go_simp;try with_reducible rfl) ?_
  refine pP 12 ?_
  refine pH 13 rfl (fun w2 h=>by have D:=HC.out _ h;go_simp;try with_reducible rfl) ?_
  refine pX2 5 18 (fun hT K HK=>?_) (fun hT K HK=>?_)
  ·
    go_simp
    refine (how (HR.out.mod hT (by simp))).mono ?_
    rintro e v1 ⟨q1,c1,rfl,-,-,m1⟩
    refine HK.out _ _ _ (hT.then m1) ?_
    clear HK K hT m1
    refine pX2 14 18 (fun hT K HK=>?_) (fun hT K HK=>?_)
    ·
      go_simp
      refine (hgn _ _).mono ?_
      rintro e v2 ⟨rfl,m2⟩
      refine HK.out _ _ _ (hT.then m2) ?_
      clear HK K hT m2
      refine pP 15 ?_;refine pP 16 ?_;refine pP 17 ?_
      refine pX 18 fun hT K HK=>?_
      go_simp
      obtain ⟨v3,h3⟩:∃ x,x=(v2).alloc (.cells zG 35 (0,0)):=⟨_,rfl⟩
      have k3:v3.heap[(v2).heap.size]?=some (.cells zG 35 (0,0)):=by rw [h3];exact heap_alloc_new _ _
      have m3:Mod [] (v2) v3:=by rw [h3];exact (Mod.refl _ _).alloc _
      have B3:=hd2 k3 hT.size
      unfold zG at h3
      rw [← h3]
      refine HK.out _ _ _ (hT.then m3) ?_
      clear HK K hT m3 h3 k3
      obtain ⟨b3,j3⟩:∃ x,(v2).heap.size=x:=⟨_,rfl⟩
      rw [j3] at B3 ⊢
      clear j3
      refine pX 19 fun hT K HK=>?_
      have K9:=B3.out.1
      have z9:=B3.out.2
      unfold zG at K9
      have D9:=blk_cell K9;have F9:=blk_free K9;have L9:=lt_of_block K9
      clear K9
      go_simp
      obtain ⟨v4,h4⟩:∃ x,x=stL v3 b3 0 [.int .i64 0,.int .i64 0,.string ⟨#[]⟩,.int .i64 0,.slice none 0 0,.int .i64 0]:=⟨_,rfl⟩
      have m4:Mod [] W3 v4:=by rw [h4];exact stL_mod (fun h=>absurd h (by omega)) _ 0 _ hT
      unfold stL stL stL stL stL stL stL at h4
      rw [← h4]
      refine HK.out _ _ _ m4 ?_
      clear HK K D9 F9 L9 hT h4 m4 z9
      refine pP 20 ?_
      refine pE fun hT=>?_
      go_wp2_with fail
      go_meet
      case rel=>exact ⟨rfl,hT⟩
    ·
      go_simp
      obtain ⟨v5,h5⟩:∃ x,x=(v1).alloc (.cells zG 35 (0,0)):=⟨_,rfl⟩
      have k5:v5.heap[(v1).heap.size]?=some (.cells zG 35 (0,0)):=by rw [h5];exact heap_alloc_new _ _
      have m5:Mod [] (v1) v5:=by rw [h5];exact (Mod.refl _ _).alloc _
      have B5:=hd2 k5 hT.size
      unfold zG at h5
      rw [← h5]
      refine HK.out _ _ _ (hT.then m5) ?_
      clear HK K hT m5 h5 k5
      obtain ⟨b5,j5⟩:∃ x,(v1).heap.size=x:=⟨_,rfl⟩
      rw [j5] at B5 ⊢
      clear j5
      refine pX 14 fun hT K HK=>?_
      go_simp
      refine (hgn _ _).mono ?_
      rintro e v6 ⟨rfl,m6⟩
      have B6:=hd2 (m6.at_ B5.out.1 (by simp)) B5.out.2
      refine HK.out _ _ _ (hT.then m6) ?_
      clear HK K hT m6
      refine pP 15 ?_;refine pP 16 ?_;refine pP 17 ?_
      refine pX 19 fun hT K HK=>?_
      have K9:=B6.out.1
      have z9:=B6.out.2
      unfold zG at K9
      have D9:=blk_cell K9;have F9:=blk_free K9;have L9:=lt_of_block K9
      clear K9
      go_simp
      obtain ⟨v7,h7⟩:∃ x,x=stL v6 b5 0 [.int .i64 0,.int .i64 0,.string ⟨#[]⟩,.int .i64 0,.slice none 0 0,.int .i64 0]:=⟨_,rfl⟩
      have m7:Mod [] W3 v7:=by rw [h7];exact stL_mod (fun h=>absurd h (by omega)) _ 0 _ hT
      unfold stL stL stL stL stL stL stL at h7
      rw [← h7]
      refine HK.out _ _ _ m7 ?_
      clear HK K D9 F9 L9 hT h7 m7 z9
      refine pP 20 ?_
      refine pE fun hT=>?_
      go_wp2_with fail
      go_meet
      case rel=>exact ⟨rfl,hT⟩
  ·
    go_simp
    obtain ⟨v8,h8⟩:∃ x,x=(V).alloc (.cells zG 35 (0,0)):=⟨_,rfl⟩
    have k8:v8.heap[(V).heap.size]?=some (.cells zG 35 (0,0)):=by rw [h8];exact heap_alloc_new _ _
    have m8:Mod [] (V) v8:=by rw [h8];exact (Mod.refl _ _).alloc _
    have B8:=hd2 k8 hT.size
    unfold zG at h8
    rw [← h8]
    refine HK.out _ _ _ (hT.then m8) ?_
    clear HK K hT m8 h8 k8
    obtain ⟨b8,j8⟩:∃ x,(V).heap.size=x:=⟨_,rfl⟩
    rw [j8] at B8 ⊢
    clear j8
    refine pX 5 fun hT K HK=>?_
    go_simp
    refine (how (HR.out.mod hT (by simp))).mono ?_
    rintro e v9 ⟨q9,c9,rfl,-,-,m9⟩
    have B9:=hd2 (m9.at_ B8.out.1 (by simp)) B8.out.2
    refine HK.out _ _ _ (hT.then m9) ?_
    clear HK K hT m9
    refine pX 14 fun hT K HK=>?_
    go_simp
    refine (hgn _ _).mono ?_
    rintro e v10 ⟨rfl,m10⟩
    have B10:=hd2 (m10.at_ B9.out.1 (by simp)) B9.out.2
    refine HK.out _ _ _ (hT.then m10) ?_
    clear HK K hT m10
    refine pP 15 ?_;refine pP 16 ?_;refine pP 17 ?_
    refine pX 19 fun hT K HK=>?_
    have K9:=B10.out.1
    have z9:=B10.out.2
    unfold zG at K9
    have D9:=blk_cell K9;have F9:=blk_free K9;have L9:=lt_of_block K9
    clear K9
    go_simp
    obtain ⟨v11,h11⟩:∃ x,x=stL v10 b8 0 [.int .i64 0,.int .i64 0,.string ⟨#[]⟩,.int .i64 0,.slice none 0 0,.int .i64 0]:=⟨_,rfl⟩
    have m11:Mod [] W3 v11:=by rw [h11];exact stL_mod (fun h=>absurd h (by omega)) _ 0 _ hT
    unfold stL stL stL stL stL stL stL at h11
    rw [← h11]
    refine HK.out _ _ _ m11 ?_
    clear HK K D9 F9 L9 hT h11 m11 z9
    refine pP 20 ?_
    refine pE fun hT=>?_
    go_wp2_with fail
    go_meet
    case rel=>exact ⟨rfl,hT⟩
 case rest =>
 as_aux_lemma =>
 obtain ⟨rfl,m5⟩:=hcut
 obtain ⟨X5,rfl⟩:∃ x:World,x=wc:=⟨_,rfl⟩
 clear m4 hgn
 go_upto_region 5 with fail
 go_cut [7] (fun s7 wx=>s7=.int .i64 1∧Mod [] W3 wx)
 case first =>
  as_aux_lemma =>
  refine pB 999 (fun w2=>Mod [] W3 w2) (m5.drew) ?_
  generalize X5.drew=V
  refine pP 0 ?_;refine pP 1 ?_
  refine pH 2 rfl (fun w2 h=>by have D:=HC.out _ h;go_simp;try with_reducible rfl) ?_
  refine pP 3 ?_
  refine pH 4 rfl (fun w2 h=>by have D:=HC.out _ h;go_simp;try with_reducible rfl) ?_
  refine pP 6 ?_
  refine pH 7 rfl (fun w2 h=>by have D:=HC.out _ h;go_simp;try with_reducible rfl) ?_
  refine pP 8 ?_
  refine pH 9 rfl (fun w2 h=>by have D:=HC.out _ h;go_simp;try with_reducible rfl) ?_
  refine pP 10 ?_
  refine pH 11 rfl (fun w2 h=>by have D:=HC.out _ h;go_simp;try with_reducible rfl) ?_
  refine pP 12 ?_
  refine pH 13 rfl (fun w2 h=>by have D:=HC.out _ h;go_simp;try with_reducible rfl) ?_
  refine pX2 5 18 (fun hT K HK=>?_) (fun hT K HK=>?_)
  ·
    go_simp
    refine (how (HR.out.mod hT (by simp))).mono ?_
    rintro e v12 ⟨q12,c12,rfl,-,-,m12⟩
    refine HK.out _ _ _ (hT.then m12) ?_
    clear HK K hT m12
    refine pX2 14 18 (fun hT K HK=>?_) (fun hT K HK=>?_)
    ·
      go_simp
      refine (hrn _ _).mono ?_
      rintro e v13 ⟨rfl,m13⟩
      refine HK.out _ _ _ (hT.then m13) ?_
      clear HK K hT m13
      refine pP 15 ?_;refine pP 16 ?_;refine pP 17 ?_
      refine pX 18 fun hT K HK=>?_
      go_simp
      obtain ⟨v14,h14⟩:∃ x,x=(v13).alloc (.cells zG 35 (0,0)):=⟨_,rfl⟩
      have k14:v14.heap[(v13).heap.size]?=some (.cells zG 35 (0,0)):=by rw [h14];exact heap_alloc_new _ _
      have m14:Mod [] (v13) v14:=by rw [h14];exact (Mod.refl _ _).alloc _
      have B14:=hd2 k14 hT.size
      unfold zG at h14
      rw [← h14]
      refine HK.out _ _ _ (hT.then m14) ?_
      clear HK K hT m14 h14 k14
      obtain ⟨b14,j14⟩:∃ x,(v13).heap.size=x:=⟨_,rfl⟩
      rw [j14] at B14 ⊢
      clear j14
      refine pX 19 fun hT K HK=>?_
      have K9:=B14.out.1
      have z9:=B14.out.2
      unfold zG at K9
      have D9:=blk_cell K9;have F9:=blk_free K9;have L9:=lt_of_block K9
      clear K9
      go_simp
      obtain ⟨v15,h15⟩:∃ x,x=stL v14 b14 0 [.int .i64 0,.int .i64 0,.string ⟨#[]⟩,.int .i64 0,.slice none 0 0,.int .i64 0]:=⟨_,rfl⟩
      have m15:Mod [] W3 v15:=by rw [h15];exact stL_mod (fun h=>absurd h (by omega)) _ 0 _ hT
      unfold stL stL stL stL stL stL stL at h15
      rw [← h15]
      refine HK.out _ _ _ m15 ?_
      clear HK K D9 F9 L9 hT h15 m15 z9
      refine pP 20 ?_
      refine pE fun hT=>?_
      go_wp2_with fail
      go_meet
      case rel=>exact ⟨rfl,hT⟩
    ·
      go_simp
      obtain ⟨v16,h16⟩:∃ x,x=(v12).alloc (.cells zG 35 (0,0)):=⟨_,rfl⟩
      have k16:v16.heap[(v12).heap.size]?=some (.cells zG 35 (0,0)):=by rw [h16];exact heap_alloc_new _ _
      have m16:Mod [] (v12) v16:=by rw [h16];exact (Mod.refl _ _).alloc _
      have B16:=hd2 k16 hT.size
      unfold zG at h16
      rw [← h16]
      refine HK.out _ _ _ (hT.then m16) ?_
      clear HK K hT m16 h16 k16
      obtain ⟨b16,j16⟩:∃ x,(v12).heap.size=x:=⟨_,rfl⟩
      rw [j16] at B16 ⊢
      clear j16
      refine pX 14 fun hT K HK=>?_
      go_simp
      refine (hrn _ _).mono ?_
      rintro e v17 ⟨rfl,m17⟩
      have B17:=hd2 (m17.at_ B16.out.1 (by simp)) B16.out.2
      refine HK.out _ _ _ (hT.then m17) ?_
      clear HK K hT m17
      refine pP 15 ?_;refine pP 16 ?_;refine pP 17 ?_
      refine pX 19 fun hT K HK=>?_
      have K9:=B17.out.1
      have z9:=B17.out.2
      unfold zG at K9
      have D9:=blk_cell K9;have F9:=blk_free K9;have L9:=lt_of_block K9
      clear K9
      go_simp
      obtain ⟨v18,h18⟩:∃ x,x=stL v17 b16 0 [.int .i64 0,.int .i64 0,.string ⟨#[]⟩,.int .i64 0,.slice none 0 0,.int .i64 0]:=⟨_,rfl⟩
      have m18:Mod [] W3 v18:=by rw [h18];exact stL_mod (fun h=>absurd h (by omega)) _ 0 _ hT
      unfold stL stL stL stL stL stL stL at h18
      rw [← h18]
      refine HK.out _ _ _ m18 ?_
      clear HK K D9 F9 L9 hT h18 m18 z9
      refine pP 20 ?_
      refine pE fun hT=>?_
      go_wp2_with fail
      go_meet
      case rel=>exact ⟨rfl,hT⟩
  ·
    go_simp
    obtain ⟨v19,h19⟩:∃ x,x=(V).alloc (.cells zG 35 (0,0)):=⟨_,rfl⟩
    have k19:v19.heap[(V).heap.size]?=some (.cells zG 35 (0,0)):=by rw [h19];exact heap_alloc_new _ _
    have m19:Mod [] (V) v19:=by rw [h19];exact (Mod.refl _ _).alloc _
    have B19:=hd2 k19 hT.size
    unfold zG at h19
    rw [← h19]
    refine HK.out _ _ _ (hT.then m19) ?_
    clear HK K hT m19 h19 k19
    obtain ⟨b19,j19⟩:∃ x,(V).heap.size=x:=⟨_,rfl⟩
    rw [j19] at B19 ⊢
    clear j19
    refine pX 5 fun hT K HK=>?_
    go_simp
    refine (how (HR.out.mod hT (by simp))).mono ?_
    rintro e v20 ⟨q20,c20,rfl,-,-,m20⟩
    have B20:=hd2 (m20.at_ B19.out.1 (by simp)) B19.out.2
    refine HK.out _ _ _ (hT.then m20) ?_
    clear HK K hT m20
    refine pX 14 fun hT K HK=>?_
    go_simp
    refine (hrn _ _).mono ?_
    rintro e v21 ⟨rfl,m21⟩
    have B21:=hd2 (m21.at_ B20.out.1 (by simp)) B20.out.2
    refine HK.out _ _ _ (hT.then m21) ?_
    clear HK K hT m21
    refine pP 15 ?_;refine pP 16 ?_;refine pP 17 ?_
    refine pX 19 fun hT K HK=>?_
    have K9:=B21.out.1
    have z9:=B21.out.2
    unfold zG at K9
    have D9:=blk_cell K9;have F9:=blk_free K9;have L9:=lt_of_block K9
    clear K9
    go_simp
    obtain ⟨v22,h22⟩:∃ x,x=stL v21 b19 0 [.int .i64 0,.int .i64 0,.string ⟨#[]⟩,.int .i64 0,.slice none 0 0,.int .i64 0]:=⟨_,rfl⟩
    have m22:Mod [] W3 v22:=by rw [h22];exact stL_mod (fun h=>absurd h (by omega)) _ 0 _ hT
    unfold stL stL stL stL stL stL stL at h22
    rw [← h22]
    refine HK.out _ _ _ m22 ?_
    clear HK K D9 F9 L9 hT h22 m22 z9
    refine pP 20 ?_
    refine pE fun hT=>?_
    go_wp2_with fail
    go_meet
    case rel=>exact ⟨rfl,hT⟩
 case rest =>
 as_aux_lemma =>
 obtain ⟨rfl,m6⟩:=hcut
 obtain ⟨X6,rfl⟩:∃ x:World,x=wc:=⟨_,rfl⟩
 clear m5 hrn how
 have C6:=HC.out _ m6
 have L6:B5<X6.heap.size:=Nat.lt_of_lt_of_le L5 m6.size
 have hh:=held_nil
 unfold HeldTo at hh
 simp only [Option.getD_none,Option.isSome_none,aggH,encH,Hld.zero,Grt.zero] at hh
 go_upto_region 9 with (first
  | (go_at_call 16;refine (end_nil _ _ _).mono ?_;rintro e wx ⟨rfl,hx⟩;rw [hx];clear hx)
  | (go_at_call 17;refine (done_nil _ _ _ _ _).mono ?_;rintro e wx ⟨rfl,hx⟩;rw [hx];clear hx)
  | (go_at_call 18;refine (hh _ _).mono ?_;rintro e w7 ⟨q7,c7,rfl,-,m7⟩;have M7:=hide (m6.then m7);clear m7 hh C6 L6 m6)
  | fail)
 obtain ⟨W7,hW7⟩:∃ x,x=w7.alloc (.cells #[.int .i64 0,.int .i64 0,.string ByteArray.empty,.int .i64 0,.slice q7 0 c7,.int .i64 0,.int .i64 0,.int .i64 0,.int .i64 0] 44 (0,0)):=⟨_,rfl⟩
 have m7:Mod [] W3 W7:=by rw [hW7];exact M7.out.alloc _
 have C7:=HC.out _ m7
 have L7:B5<W7.heap.size:=Nat.lt_of_lt_of_le L5 m7.size
 have MW7:=hide m7
 rw [← hW7]
 clear hW7 m7 M7
 have hop1:op.size≤9223372036854775807:=by omega
 go_upto_region 11 with (first
  | (go_at_call 19;refine (mark_nil _ _ _ _).mono ?_;rintro e w8 ⟨rfl,m8⟩;have M8:=hide (MW7.out.then m8);have C8:=HC.out _ M8.out;have L8:B5<w8.heap.size:=Nat.lt_of_lt_of_le L5 M8.out.size;clear m8 C7 L7)
  | (go_at_call 20;refine (blocks_nil _ _ _ _).mono ?_;rintro e wx ⟨rfl,hx⟩;rw [hx];clear hx)
  | (go_at_call 21;refine (gunder_nil _ _ _ hop1).mono ?_;rintro e w9 ⟨q9,c9,lh9,rfl,h9,-,m9⟩;obtain rfl:lh9=[]:=by simpa using h9
     have M9:=hide (M8.out.then m9);simp only [List.length_nil];clear m9 h9 C8 L8)
  | (go_at_call 22;refine (list_nil _).mono ?_;rintro e w10 ⟨q10,c10,lh10,rfl,h10,-,m10⟩;obtain rfl:lh10=[]:=by simpa using h10
     have M10:=hide (M9.out.then m10);simp only [List.length_nil];clear m10 h10)
  | (go_at_call 23;refine (quar_nil _).mono ?_;rintro e wx ⟨rfl,hx⟩;rw [hx];clear hx)
  | fail)
 go_upto_region 12 with (
  go_at_call 24
  refine (HF.out _).mono ?_
  rintro e w11 ⟨pd,pg,b1,rfl,-,s⟩
  have S11:=hide (show GS W w11 pg b1 d1 gF from ⟨s.gm,fun k hk=>Nat.le_trans (M3.out.then M10.out).size (s.lo k hk),(M3.out.then M10.out).then s.md,s.gi,s.n49⟩)
  clear s HF)
 clear M8 M9 M10 MW7 HC HR L5 hop1
 as_aux_lemma =>
 have hmk:=make9
 obtain ⟨gl,hgl⟩:∃ x,w11.heap.size=x:=⟨_,rfl⟩
 have hlo:W.heap.size≤gl∧∀ x,gl≤x→x ∉ b1.all pg:=by
  have h1:=S11.out.md.size
  exact ⟨by omega,fun x hx e=>by have:=S11.out.gm.lt _ e;omega⟩
 go_upto_region 13 with fail
 obtain ⟨w13,hw13⟩:∃ x,x=((w11.alloc (.cells #[.int .i64 7,.int .i64 8,.int .i64 0,.int .i64 0,.int .i64 0,.int .i64 0,.int .i64 0,.int .i64 0,.int .i64 0] 3 (0,0))).alloc (.cells #[.int .i64 7,.int .i64 8] 3 (0,0))).alloc (.cells #[.int .i64 0,.int .i64 0,.string ⟨#[]⟩,.int .i64 2,.slice (some ⟨gl,0,none⟩) 2 9,.int .i64 0,.int .i64 0,.int .i64 1099511627776,.bool false] 25 (0,0)):=⟨_,rfl⟩
 have k1:w13.heap[gl]?=some (.cells #[.int .i64 7,.int .i64 8,.int .i64 0,.int .i64 0,.int .i64 0,.int .i64 0,.int .i64 0,.int .i64 0,.int .i64 0] 3 (0,0)):=by rw [hw13,← hgl];exact blk_alloc (blk_alloc (heap_alloc_new w11 _) _) _
 have k2:w13.heap[gl+1+1]?=some (.cells #[.int .i64 0,.int .i64 0,.string ⟨#[]⟩,.int .i64 2,.slice (some ⟨gl,0,none⟩) 2 9,.int .i64 0,.int .i64 0,.int .i64 1099511627776,.bool false] 25 (0,0)):=by rw [hw13,← hgl];exact alloc_here (by simp)
 have m13:Mod [] w11 w13:=by rw [hw13];exact (((Mod.refl _ _).alloc _).alloc _).alloc _
 rw [← hw13]
 obtain ⟨bl,hbl⟩:∃ x,gl+1+1=x:=⟨_,rfl⟩
 rw [hbl] at k2
 try rw [hbl]
 have S13:=hd4 (S11.out.quiet m13) k1 k2 (show W.heap.size≤gl∧gl<bl∧(∀ x,gl≤x→x ∉ b1.all pg) from ⟨hlo.1,by omega,hlo.2⟩)
 have C13:=blk_cell k1;have F13:=blk_free k1;have L13:=lt_of_block k1
 have D13:=blk_cell k2;have G13:=blk_free k2;have K13:=lt_of_block k2
 clear hw13 hmk hgl hlo S11 hbl k1 k2 m13
 go_upto_region 14 with fail
 as_aux_lemma =>
 obtain ⟨w14,hw14⟩:∃ x,x=(w13.setCell ⟨gl,2,none⟩ (.int .i64 91)).alloc (.cells #[.int .i64 91] 3 (0,0)):=⟨_,rfl⟩
 have j1:w14.heap[gl]?=some (.cells #[.int .i64 7,.int .i64 8,.int .i64 91,.int .i64 0,.int .i64 0,.int .i64 0,.int .i64 0,.int .i64 0,.int .i64 0] 3 (0,0)):=by rw [hw14];exact blk_alloc (blk_set S13.out.2.1 2 _) _
 have j2:w14.heap[bl]?=some (.cells #[.int .i64 0,.int .i64 0,.string ⟨#[]⟩,.int .i64 2,.slice (some ⟨gl,0,none⟩) 2 9,.int .i64 0,.int .i64 0,.int .i64 1099511627776,.bool false] 25 (0,0)):=by rw [hw14];exact blk_alloc (blk_other S13.out.2.2.1 (by have:=S13.out.2.2.2.2.1;simp;omega) _) _
 have m14:Mod [gl] w13 w14:=by rw [hw14];exact ((Mod.refl _ _).setCell (fun _=>by simp) _).alloc _
 rw [← hw14]
 have s14:GS W w14 pg b1 d1 gF:=S13.out.1.box m14 (fun k hk=>by simp at hk;rw [hk];exact ⟨S13.out.2.2.2.1,S13.out.2.2.2.2.2 _ (Nat.le_refl _)⟩)
 have a1:Asd w14 pg b1 gl:=⟨lt_of_block j1,S13.out.2.2.2.2.2 _ (Nat.le_refl _)⟩
 have a2:Asd w14 pg b1 bl:=⟨lt_of_block j2,S13.out.2.2.2.2.2 _ (Nat.le_of_lt S13.out.2.2.2.2.1)⟩
 have hrw:w14.ownsRow 0 3 1 (sl gl 2 9) 2 ([7,8].map (Value.int .i64)):=⟨by simp,.inr ⟨gl,9,_,rfl,Nat.zero_le _,j1,by omega,by unfold maxLen;omega,by simp,by simp⟩⟩
 have S14:=hd6 s14 (And.intro j1 j2) (And.intro a1 a2) (rdN_of_row hrw) S13.out.2.2.2.1 S13.out.2.2.2.2.1
 have D14:=blk_cell j2;have G14:=blk_free j2;have K14:=lt_of_block j2
 clear hw14 j1 j2 m14 s14 a1 a2 hrw S13 C13 F13 L13 D13 G13 K13
 go_upto_region 15 with (
  go_at_call 13
  refine (grant_eq (r:=ro1) (q:=some ⟨gl,0,none⟩) (c:=9) S14.out.1 S14.out.2.2.2.1 (fun k hk=>by simp [ob,Value.ownBlock] at hk;rw [hk];exact S14.out.2.2.1.1.2) (by decide) (by decide)).mono ?_
  rw [HLA.out.1]
  intro e w15 h15
  obtain ⟨q15,cx,b2,rfl,s15,t15,ro15,na15⟩:=h15.out (x:=⟨1,2,⟨#[97]⟩,1,[7,8,1],10⟩) (k:=0) rfl rfl
  have ro:w15.ownsRow w14.heap.size 3 1 (.slice q15 3 cx) 3 [i4 7,i4 8,i4 1]:=ro15
  obtain ⟨gx,rfl,hg1,hg2⟩:=row_some ro (by decide)
  unfold aggG cellsG
  dsimp only
  have S15:=hd6 s15 t15 ro (na15 gx (by simp [ob,Value.ownBlock])) hg1 hg2
  clear h15 s15 t15 ro15 na15 ro hg1 hg2)
 as_aux_lemma =>
 obtain ⟨w16,hw16⟩:∃ x,x=w15.alloc (gObj (sl gx 3 cx)):=⟨_,rfl⟩
 have m16:Mod [] w15 w16:=by rw [hw16];exact (Mod.refl _ _).alloc _
 have kx:w16.heap[w15.heap.size]?=some (gObj (sl gx 3 cx)):=by rw [hw16];exact heap_alloc_new _ _
 obtain ⟨bx,hbx⟩:∃ x,w15.heap.size=x:=⟨_,rfl⟩
 have t16:GTo w14 pg b1 w16 b2:=S15.out.2.1.then m16
 have a1:=S14.out.2.2.1.1.to t16
 have a2:=S14.out.2.2.1.2.to t16
 have j1:=S14.out.2.2.1.1.blk t16 S14.out.2.1.1
 have j2:=S14.out.2.2.1.2.blk t16 S14.out.2.1.2
 have hrd:=S14.out.2.2.2.1.mod t16.mod (fun k hk=>by simp [ob,Value.ownBlock] at hk;rw [hk];exact S14.out.2.2.1.1.2)
 have ax:Asd w16 pg b2 bx:=hbx ▸ S15.out.1.asd m16 (Nat.le_refl _) (lt_of_block kx)
 have ag:Asd w16 pg b2 gx:=⟨Nat.lt_of_lt_of_le S15.out.2.2.2.2.2 m16.size,S15.out.2.2.2.1⟩
 have rx:=World.ownsRow.mono (m16.row S15.out.2.2.1 (fun _ _=>by simp)) (Nat.zero_le _)
 rw [hbx] at kx
 have S16:=hd6 (S15.out.1.quiet m16) (And.intro j1 (And.intro j2 kx)) (And.intro a1 (And.intro a2 (And.intro ax ag))) hrd rx (show W.heap.size≤gl∧gl<bl∧bl<gx∧gx<bx from ⟨S14.out.2.2.2.2.1,S14.out.2.2.2.2.2,Nat.lt_of_lt_of_le S14.out.2.2.1.2.1 S15.out.2.2.2.2.1,hbx ▸ S15.out.2.2.2.2.2⟩)
 have D16:=blk_cell j2;have G16:=blk_free j2;have K16:=lt_of_block j2
 unfold gObj at hw16
 rw [← hw16]
 try rw [hbx]
 clear hw16 m16 kx hbx t16 a1 a2 j1 j2 hrd ax ag rx S14 S15 D14 G14 K14
 go_upto_region 16 with (
  go_at_call 15
  refine (renew_eq (now:=6) (own:=leO) (id:=1) (holder:=2) (t:=10) (fresh:=true) (q:=some ⟨gl,0,none⟩) (c:=9) S16.out.1 S16.out.2.2.2.1 (fun k hk=>by simp [ob,Value.ownBlock] at hk;rw [hk];exact S16.out.2.2.1.1.2) (by decide)).mono ?_
  rw [HLA.out.2.1]
  intro e w17 h17
  obtain ⟨q17,cy,b3,rfl,s17,t17,ro17,na17⟩:=h17.out (x:=⟨1,2,⟨#[97]⟩,1,[7,8,2],10⟩) (k:=0) rfl rfl
  have ro:w17.ownsRow w16.heap.size 3 1 (.slice q17 3 cy) 3 [i4 7,i4 8,i4 2]:=ro17
  obtain ⟨gy,rfl,hg1,hg2⟩:=row_some ro (by decide)
  unfold aggG cellsG
  dsimp only
  have S17:=hd6 s17 t17 ro (na17 gy (by simp [ob,Value.ownBlock])) hg1 hg2
  clear h17 s17 t17 ro17 na17 ro hg1 hg2)
 as_aux_lemma =>
 obtain ⟨w18,hw18⟩:∃ x,x=w17.alloc (gObj (sl gy 3 cy)):=⟨_,rfl⟩
 have m18:Mod [] w17 w18:=by rw [hw18];exact (Mod.refl _ _).alloc _
 have ky:w18.heap[w17.heap.size]?=some (gObj (sl gy 3 cy)):=by rw [hw18];exact heap_alloc_new _ _
 obtain ⟨yb,hyb⟩:∃ x,w17.heap.size=x:=⟨_,rfl⟩
 have t18:GTo w16 pg b2 w18 b3:=S17.out.2.1.then m18
 have j1:=S16.out.2.2.1.1.blk t18 S16.out.2.1.1
 have j2:=S16.out.2.2.1.2.1.blk t18 S16.out.2.1.2.1
 have jx:=S16.out.2.2.1.2.2.1.blk t18 S16.out.2.1.2.2
 have ay:Asd w18 pg b3 yb:=hyb ▸ S17.out.1.asd m18 (Nat.le_refl _) (lt_of_block ky)
 have ag:Asd w18 pg b3 gy:=⟨Nat.lt_of_lt_of_le S17.out.2.2.2.2.2 m18.size,S17.out.2.2.2.1⟩
 have a1:=S16.out.2.2.1.1.to t18
 have ax:=S16.out.2.2.1.2.2.1.to t18
 have agx:=S16.out.2.2.1.2.2.2.to t18
 have rx:=row_far S16.out.2.2.2.2.1 t18.mod S16.out.2.2.1.2.2.2.2
 have ry:=World.ownsRow.mono (m18.row S17.out.2.2.1 (fun _ _=>by simp)) (Nat.zero_le _)
 rw [hyb] at ky
 have hO:W.heap.size≤gl∧gl<bl∧bl<gx∧gx<bx∧bx<gy∧gy<yb:=⟨S16.out.2.2.2.2.2.1,S16.out.2.2.2.2.2.2.1,S16.out.2.2.2.2.2.2.2.1,S16.out.2.2.2.2.2.2.2.2,Nat.lt_of_lt_of_le S16.out.2.2.1.2.2.1.1 S17.out.2.2.2.2.1,hyb ▸ S17.out.2.2.2.2.2⟩
 have D1:=blk_cell j1;have F1:=blk_free j1;have L1:=lt_of_block j1
 have D2:=blk_cell j2;have F2:=blk_free j2;have L2:=lt_of_block j2
 unfold gObj at jx ky hw18
 have D3:=blk_cell jx;have F3:=blk_free jx;have L3:=lt_of_block jx
 have D4:=blk_cell ky;have F4:=blk_free ky;have L4:=lt_of_block ky
 have S18:=hd5 (S17.out.1.quiet m18) (And.intro j1 (And.intro jx ky)) (And.intro a1 (And.intro ax (And.intro agx (And.intro ay ag)))) (And.intro rx ry) hO
 rw [← hw18]
 try rw [hyb]
 clear hw18 m18 ky hyb t18 a1 j1 j2 jx ax ag ay agx rx ry S16 S17 D16 G16 K16 hO
 as_aux_lemma =>
 go_upto_region 19 with fail
 as_aux_lemma =>
 obtain ⟨w19,hw19⟩:∃ x,x=w18.setCell ⟨gl,0,none⟩ (.int .i64 70):=⟨_,rfl⟩
 have m19:Mod [gl] w18 w19:=by rw [hw19];exact set_mod _ _ _ _
 have jx:=m19.at_ S18.out.2.1.2.1 (by have:=S18.out.2.2.2.2;simp;omega)
 have jy:=m19.at_ S18.out.2.1.2.2 (by have:=S18.out.2.2.2.2;simp;omega)
 have rx:=row_far S18.out.2.2.2.1.1 m19 (by have:=S18.out.2.2.2.2;simp;omega)
 have ry:=row_far S18.out.2.2.2.1.2 m19 (by have:=S18.out.2.2.2.2;simp;omega)
 have s19:GS W w19 pg b3 d3 g3:=S18.out.1.box m19 (fun k hk=>by simp at hk;rw [hk];exact ⟨S18.out.2.2.2.2.1,S18.out.2.2.1.1.2⟩)
 have S19:=hd4 s19 (And.intro jx jy) (And.intro rx ry) (show (bx ∉ b3.all pg∧gx ∉ b3.all pg∧yb ∉ b3.all pg∧gy ∉ b3.all pg)∧W.heap.size≤gx∧gx<bx∧bx<gy∧gy<yb∧yb<w19.heap.size from ⟨⟨S18.out.2.2.1.2.1.2,S18.out.2.2.1.2.2.1.2,S18.out.2.2.1.2.2.2.1.2,S18.out.2.2.1.2.2.2.2.2⟩,by have:=S18.out.2.2.2.2;have:=lt_of_block jy;omega⟩)
 rw [← hw19]
 clear hw19 m19 jx jy rx ry s19 S18 D1 F1 L1 D2 F2 L2 D3 F3 L3 D4 F4 L4
 have hls:∀ {w:World},Mod [] w19 w→Calls Tryz.prog 22 #[.pointer (some ⟨pg,0,none⟩)] w fun e w'=>ListTo w [xH] e w':=fun m=>list_eq (S19.out.1.quiet m) HLA.out.2.2.1
 have hun:∀ {w:World},Mod [] w19 w→Calls Tryz.prog 21 #[.pointer (some ⟨pg,0,none⟩),.int .i64 6,.string ⟨#[]⟩] w fun e w'=>ListTo w [xH] e w':=fun m=>by
  have h:=gunder_any (S19.out.1.quiet m).gm S19.out.1.gi 6 ⟨#[]⟩ (by decide)
  rwa [show underG g3 6 (ByteArray.mk #[]).data.toList=[xH] from HLA.out.2.2.2.2] at h
 have hhd:∀ {w:World},Mod [] w19 w→Calls Tryz.prog 18 #[.pointer (some ⟨pg,0,none⟩),.int .i64 1] w fun e w'=>∃ q c,e=.returned (.tuple #[.agg #[.int .i64 1,.int .i64 2,.string ⟨#[97]⟩,.int .i64 1,.slice q 3 c,.int .i64 10,.int .i64 16,.int .i64 0,.int .i64 0],.bool true])∧w'.ownsRow w.heap.size 3 1 (.slice q 3 c) 3 [i4 7,i4 8,i4 2]∧Mod [] w w':=fun m=>held_eq (S19.out.1.quiet m) 1 HLA.out.2.2.2.1
 have t1:Hid True:=hide trivial
 go_upto_region 20 with (first
  | (go_at_call 22;have tk:=t1;refine (hls (Mod.refl _ _)).mono ?_;intro e w20 h20;obtain ⟨pb,pc,gp,cp,rfl,p1,p2,p3,p4⟩:=list_parts h20
     have P20:=hd4 p3 p1 p2 p4;clear p1 p2 p3 p4 h20 t1 tk)
  | (go_at_call 21;refine (hun P20.out.1).mono ?_;intro e w21 h21;obtain ⟨qb,qc,gq,cq,rfl,p1,p2,p3,p4⟩:=list_parts h21
     have P21:=hd4 p3 p1 p2 p4;clear p1 p2 p3 p4 h21)
  | (go_at_call 22;refine (hls (P20.out.1.then P21.out.1)).mono ?_;intro e w22 h22;obtain ⟨rb,rc,gr,cr,rfl,p1,p2,p3,p4⟩:=list_parts h22
     have P22:=hd4 p3 p1 p2 p4;clear p1 p2 p3 p4 h22)
  | fail)
 go_upto_region 21 with (go_at_call 18;refine (hhd ((P20.out.1.then P21.out.1).then P22.out.1)).mono ?_;rintro e w23 ⟨q23,cs,rfl,p1,p2⟩;obtain ⟨gs,rfl,p3,p4⟩:=row_some p1 (by decide)
                         have P23:=hd4 p2 p1 p3 p4;clear p1 p2 p3 p4)
 clear hls hun hhd
 as_aux_lemma =>
 obtain ⟨Z,hZ⟩:∃ x,x=w23.alloc (.cells (hRow (sl gs 3 cs)).toArray 44 (0,0)):=⟨_,rfl⟩
 have mz:Mod [] w23 Z:=by rw [hZ];exact (Mod.refl _ _).alloc _
 have kz:Z.heap[w23.heap.size]?=some (.cells (hRow (sl gs 3 cs)).toArray 44 (0,0)):=by rw [hZ];exact heap_alloc_new _ _
 obtain ⟨bs,hbs⟩:∃ x,w23.heap.size=x:=⟨_,rfl⟩
 have m3:Mod [] w22 Z:=P23.out.1.then mz
 have m2:Mod [] w21 Z:=P22.out.1.then m3
 have m1:Mod [] w20 Z:=P21.out.1.then m2
 have m0:Mod [] w19 Z:=P20.out.1.then m1
 have hz0:=P21.out.1.size;have hz1:=P22.out.1.size;have hz2:=P23.out.1.size;have hz3:=P20.out.1.size
 obtain ⟨B,rfl,rfl,rfl,rfl,rfl,rfl,rfl,rfl,rfl,rfl,rfl,rfl,rfl,rfl,rfl,rfl,rfl,rfl,rfl,rfl,rfl⟩:∃ B:OB,bx=B.bx∧yb=B.by_∧pb=B.pb∧pc=B.pc∧qb=B.qb∧qc=B.qc∧rb=B.rb∧rc=B.rc∧bs=B.bs∧gx=B.gx∧cx=B.cx∧gy=B.gy∧cy=B.cy∧gp=B.gp∧cp=B.cp∧gq=B.gq∧cq=B.cq∧gr=B.gr∧cr=B.cr∧gs=B.gs∧cs=B.cs:=⟨⟨bx,yb,pb,pc,qb,qc,rb,rc,bs,gx,cx,gy,cy,gp,cp,gq,cq,gr,cr,gs,cs⟩,rfl,rfl,rfl,rfl,rfl,rfl,rfl,rfl,rfl,rfl,rfl,rfl,rfl,rfl,rfl,rfl,rfl,rfl,rfl,rfl,rfl⟩
 have hO:=S19.out.2.2.2
 have hB:B.ap:=by
  have p0:=P20.out.2.2.2;have p1:=P21.out.2.2.2;have p2:=P22.out.2.2.2;have p3:=P23.out.2.2
  unfold OB.ap
  omega
 have hO1:O1 W pg b3 d3 g3 B [7,8,1] [7,8,2] [7,8,2] Z:=by
  refine ⟨S19.out.1.quiet m0,m0.at_ S19.out.2.1.1 (by simp),m0.at_ S19.out.2.1.2 (by simp),row_far P20.out.2.1 m1 (by simp),row_far P21.out.2.1 m2 (by simp),row_far P22.out.2.1 m3 (by simp),hbs ▸ kz,row_far S19.out.2.2.1.1 m0 (by simp),row_far S19.out.2.2.1.2 m0 (by simp),row_far P20.out.2.2.1 m1 (by simp),row_far P21.out.2.2.1 m2 (by simp),row_far P22.out.2.2.1 m3 (by simp),row_far (World.ownsRow.mono P23.out.2.1 (Nat.zero_le _)) mz (by simp),fun k hk=>?_⟩
  have hlt:=S19.out.1.gm.lt
  have hw:=S19.out.1.md.size
  have p0:=P20.out.2.2.2;have p1:=P21.out.2.2.2;have p2:=P22.out.2.2.2;have p3:=P23.out.2.2
  obtain ⟨⟨e1,e2,e3,e4⟩,e5⟩:=hO
  simp only [List.mem_cons,List.not_mem_nil,or_false] at hk
  rcases hk with rfl | rfl | rfl | rfl | rfl | rfl | rfl | rfl
  · exact ⟨by omega,e2⟩
  · exact ⟨by omega,e4⟩
  · exact ⟨by omega,fun e=>by have:=hlt _ e;omega⟩
  · exact ⟨by omega,fun e=>by have:=hlt _ e;omega⟩
  · exact ⟨by omega,fun e=>by have:=hlt _ e;omega⟩
  · exact ⟨by omega,e1⟩
  · exact ⟨by omega,e3⟩
  · exact ⟨by omega,fun e=>by have:=hlt _ e;omega⟩
 have HB:=hide hB
 have HO:=hide hO1
 unfold hRow at hZ
 have hZ':Z=w23.alloc (.cells #[.int .i64 1,.int .i64 2,.string ⟨#[97]⟩,.int .i64 1,.slice (some ⟨B.gs,0,none⟩) 3 B.cs,.int .i64 10,.int .i64 16,.int .i64 0,.int .i64 0] 44 (0,0)):=hZ
 rw [← hZ']
 rw [hbs]
 unfold sl
 clear hZ hZ' mz kz hbs m3 m2 m1 m0 hz0 hz1 hz2 hz3 hO hB hO1 P20 P21 P22 P23 S19
 as_aux_lemma =>
 go_upto_region 23 with fail
 go_cut [] (fun wx=>O2 W pg b3 d3 g3 B wx)
 case first =>
  as_aux_lemma =>
  refine pB 999 (fun w2=>Mod [B.gx,B.gy,B.gp,B.gq,B.gs] Z.drew w2) (Mod.refl _ _) ?_
  have HO:=hide (HO.out.quiet ((Mod.refl [] Z).drew))
  generalize Z.drew=V at HO ⊢
  have sgx:V.ownsRow 0 3 1 (sl B.gx 3 B.cx) 3 [i4 7,i4 8,i4 1]:=HO.out.sx
  have sgy:V.ownsRow 0 3 1 (sl B.gy 3 B.cy) 3 [i4 7,i4 8,i4 2]:=HO.out.sy
  have sgp:V.ownsRow 0 3 1 (sl B.gp 3 B.cp) 3 [i4 7,i4 8,i4 2]:=HO.out.sp
  have sgq:=HO.out.sq
  have sgs:=HO.out.ss
  refine pP 0 ?_
  refine pH 1 rfl (fun w2 h=>by obtain ⟨D1,D2,D3,D4,D5⟩:=HO.out.cells HB.out h;go_simp;try with_reducible rfl) ?_
  refine pP 2 ?_
  refine pH 3 rfl (fun w2 h=>by obtain ⟨D1,D2,D3,D4,D5⟩:=HO.out.cells HB.out h;go_simp;try with_reducible rfl) ?_
  refine pP 4 ?_;refine pP 5 ?_;refine pP 6 ?_;refine pP 7 ?_
  refine pH 8 rfl (fun w2 h=>by obtain ⟨D1,D2,D3,D4,D5⟩:=HO.out.cells HB.out h;go_simp;try with_reducible rfl) ?_
  refine pP 9 ?_;refine pP 10 ?_;refine pP 11 ?_;refine pP 12 ?_
  refine pH 13 rfl (fun w2 h=>by obtain ⟨D1,D2,D3,D4,D5⟩:=HO.out.cells HB.out h;go_simp;try with_reducible rfl) ?_
  refine pP 14 ?_;refine pP 15 ?_
  refine pH 16 rfl (fun w2 h=>by obtain ⟨D1,D2,D3,D4,D5⟩:=HO.out.cells HB.out h;go_simp;try with_reducible rfl) ?_
  refine pP 17 ?_
  refine pX 18 fun hT K HK=>?_
  have D9:=(row_st sgx).1;have F9:=(row_st sgx).2.1;have L9:=(row_st sgx).2.2
  go_simp
  obtain ⟨x0,e0⟩:∃ x,x=V.setCell ⟨B.gx,0,none⟩ (.int .i64 81):=⟨_,rfl⟩
  have m0:Mod [B.gx] V x0:=by rw [e0];exact set_mod _ _ _ _
  have sgy:=row_far sgy m0 (by have hB:=HB.out;unfold OB.ap at hB;simp;omega)
  have sgp:=row_far sgp m0 (by have hB:=HB.out;unfold OB.ap at hB;simp;omega)
  have sgq:=row_far sgq m0 (by have hB:=HB.out;unfold OB.ap at hB;simp;omega)
  have sgs:=row_far sgs m0 (by have hB:=HB.out;unfold OB.ap at hB;simp;omega)
  rw [← e0]
  have E0:=hide e0
  refine HK.out _ _ _ (hT.trans m0 (fun _ x _=>x) (fun x hx _=>by simp at hx;simp [hx])) ?_
  clear HK K hT D9 F9 L9 m0 sgx e0
  refine pP 19 ?_
  refine pX 20 fun hT K HK=>?_
  have D9:=(row_st sgy).1;have F9:=(row_st sgy).2.1;have L9:=(row_st sgy).2.2
  go_simp
  obtain ⟨x1,e1⟩:∃ x,x=x0.setCell ⟨B.gy,0,none⟩ (.int .i64 82):=⟨_,rfl⟩
  have m1:Mod [B.gy] x0 x1:=by rw [e1];exact set_mod _ _ _ _
  have sgp:=row_far sgp m1 (by have hB:=HB.out;unfold OB.ap at hB;simp;omega)
  have sgq:=row_far sgq m1 (by have hB:=HB.out;unfold OB.ap at hB;simp;omega)
  have sgs:=row_far sgs m1 (by have hB:=HB.out;unfold OB.ap at hB;simp;omega)
  rw [← e1]
  have E1:=hide e1
  refine HK.out _ _ _ (hT.trans m1 (fun _ x _=>x) (fun x hx _=>by simp at hx;simp [hx])) ?_
  clear HK K hT D9 F9 L9 m1 sgy e1
  refine pP 21 ?_
  refine pX 22 fun hT K HK=>?_
  have D9:=(row_st sgp).1;have F9:=(row_st sgp).2.1;have L9:=(row_st sgp).2.2
  go_simp
  obtain ⟨x2,e2⟩:∃ x,x=x1.setCell ⟨B.gp,0,none⟩ (.int .i64 83):=⟨_,rfl⟩
  have m2:Mod [B.gp] x1 x2:=by rw [e2];exact set_mod _ _ _ _
  have sgq:=row_far sgq m2 (by have hB:=HB.out;unfold OB.ap at hB;simp;omega)
  have sgs:=row_far sgs m2 (by have hB:=HB.out;unfold OB.ap at hB;simp;omega)
  rw [← e2]
  have E2:=hide e2
  refine HK.out _ _ _ (hT.trans m2 (fun _ x _=>x) (fun x hx _=>by simp at hx;simp [hx])) ?_
  clear HK K hT D9 F9 L9 m2 sgp e2
  refine pP 23 ?_
  refine pX 24 fun hT K HK=>?_
  have D9:=(row_st sgq).1;have F9:=(row_st sgq).2.1;have L9:=(row_st sgq).2.2
  go_simp
  obtain ⟨x3,e3⟩:∃ x,x=x2.setCell ⟨B.gq,0,none⟩ (.int .i64 84):=⟨_,rfl⟩
  have m3:Mod [B.gq] x2 x3:=by rw [e3];exact set_mod _ _ _ _
  have sgs:=row_far sgs m3 (by have hB:=HB.out;unfold OB.ap at hB;simp;omega)
  rw [← e3]
  have E3:=hide e3
  refine HK.out _ _ _ (hT.trans m3 (fun _ x _=>x) (fun x hx _=>by simp at hx;simp [hx])) ?_
  clear HK K hT D9 F9 L9 m3 sgq e3
  refine pP 25 ?_
  refine pX 26 fun hT K HK=>?_
  have D9:=(row_st sgs).1;have F9:=(row_st sgs).2.1;have L9:=(row_st sgs).2.2
  go_simp
  obtain ⟨x4,e4⟩:∃ x,x=x3.setCell ⟨B.gs,0,none⟩ (.int .i64 85):=⟨_,rfl⟩
  have m4:Mod [B.gs] x3 x4:=by rw [e4];exact set_mod _ _ _ _
  rw [← e4]
  have E4:=hide e4
  refine HK.out _ _ _ (hT.trans m4 (fun _ x _=>x) (fun x hx _=>by simp at hx;simp [hx])) ?_
  clear HK K hT D9 F9 L9 m4 sgs e4
  refine pE fun _=>?_
  go_wp2_with fail
  go_meet
  case rel=>exact O1.end23 HB.out HO.out E0.out E1.out E2.out E3.out E4.out
 case rest =>
 as_aux_lemma =>
 obtain ⟨X,rfl⟩:∃ x:World,x=wc:=⟨_,rfl⟩
 have HO:=hide hcut
 clear hcut
 go_upto_region 24 with fail
 go_cut [] (fun wx=>O3 W pg b3 d3 g3 B wx)
 case first =>
  as_aux_lemma =>
  have HPW:=hide (HO.out.pw HB.out)
  refine pB 17 (fun w2=>Mod [B.gx,B.gy,B.gp] X w2) ((Mod.refl _ _).drew) ?_
  have h0:=HO.out.start
  generalize X.drew=V at h0 ⊢
  refine pP 0 ?_;refine pP 1 ?_
  refine pT 2 rfl [17] (fun w2 h=>by obtain ⟨D1,D2,D3⟩:=HO.out.cells HB.out h;go_simp;try with_reducible rfl) ?_
  refine pP 5 ?_
  refine pT 6 rfl [8,15,17] (fun w2 h=>by obtain ⟨D1,D2,D3⟩:=HO.out.cells HB.out h;go_simp;try with_reducible rfl) ?_
  refine pP 9 ?_;refine pP 10 ?_;refine pP 11 ?_;refine pP 12 ?_
  refine pT 13 rfl [15,17] (fun w2 h=>by obtain ⟨D1,D2,D3⟩:=HO.out.cells HB.out h;go_simp;try with_reducible rfl) ?_
  refine pX3 3 7 14 (fun hT K HK=>?_) (fun hT K HK=>?_) (fun hT K HK=>?_)
  ·
    as_aux_lemma =>
    refine step_b1 rfl rfl ?_
    have h1:=h0.alloc1
    refine HK.out _ _ _ h1.md ?_ (put_lit rfl (by dsimp only [List.set_cons_succ,List.set_cons_zero]))
    clear HK K hT h0
    generalize (V).alloc (.cells #[.int .i64 1] 3 (0,0))=x1 at h1 ⊢
    generalize (V).heap.size=n1 at h1 ⊢
    refine pX3 4 7 14 (fun hT K HK=>?_) (fun hT K HK=>?_) (fun hT K HK=>?_)
    ·
      as_aux_lemma =>
      refine h1.app1 HPW.out rfl _ _ rfl rfl rfl fun g2 d2 x2 h2=>?_
      refine HK.out _ _ _ h2.md ?_ (put_lit rfl (by dsimp only [List.set_cons_succ,List.set_cons_zero]))
      clear HK K hT h1
      refine pP 16 ?_
      refine pX2 7 14 (fun hT K HK=>?_) (fun hT K HK=>?_)
      ·
        as_aux_lemma =>
        refine step_b1 rfl rfl ?_
        have h3:=h2.alloc2
        refine HK.out _ _ _ h3.md ?_ (put_lit rfl (by dsimp only [List.set_cons_succ,List.set_cons_zero]))
        clear HK K hT h2
        generalize (x2).alloc (.cells #[.int .i64 2] 3 (0,0))=x3 at h3 ⊢
        generalize (x2).heap.size=n3 at h3 ⊢
        refine pX2 8 14 (fun hT K HK=>?_) (fun hT K HK=>?_)
        ·
          as_aux_lemma =>
          refine h3.app2 HPW.out rfl _ _ rfl rfl rfl fun g4 d4 x4 h4=>?_
          refine HK.out _ _ _ h4.md ?_ (put_lit rfl (by dsimp only [List.set_cons_succ,List.set_cons_zero]))
          clear HK K hT h3
          refine pX 14 fun hT K HK=>?_
          refine step_b1 rfl rfl ?_
          have h5:=h4.alloc3
          refine HK.out _ _ _ h5.md ?_ (put_lit rfl (by dsimp only [List.set_cons_succ,List.set_cons_zero]))
          clear HK K hT h4
          generalize (x4).alloc (.cells #[.int .i64 3] 3 (0,0))=x5 at h5 ⊢
          generalize (x4).heap.size=n5 at h5 ⊢
          refine pX 15 fun hT K HK=>?_
          refine h5.app3 HPW.out rfl _ _ rfl rfl rfl fun g6 d6 x6 h6=>?_
          refine HK.out _ _ _ h6.md ?_ (put_lit rfl (by dsimp only [List.set_cons_succ,List.set_cons_zero]))
          clear HK K hT h5
          refine pY 17 fun hT K HK=>?_
          have fin:=O2.fin24 HO.out HB.out h6
          obtain ⟨D1,D2,D3⟩:=HO.out.cells HB.out hT
          obtain ⟨F1,F2,F3,L1,L2,L3⟩:=HO.out.st HB.out hT
          obtain ⟨N1,N2,N3,N4,N5,N6⟩:=HB.out.ne
          go_simp
          refine HK.out _ _ _ ?_
          clear HK K
          refine pP 18 ?_
          refine pZ 19 fun K HK=>?_
          go_simp
          refine HK.out _ _ _ ?_
          clear HK K
          refine pP 20 ?_;refine pP 21 ?_;refine pP 22 ?_
          refine pZ 23 fun K HK=>?_
          go_simp
          refine HK.out _ _ _ ?_
          clear HK K
          refine pD ?_
          clear D1 D2 D3 F1 F2 F3 L1 L2 L3 N1 N2 N3 N4 N5 N6
          go_wp2_with fail
          go_meet
          case rel=>exact fin
        ·
          as_aux_lemma =>
          refine step_b1 rfl rfl ?_
          have h4:=h3.alloc3
          refine HK.out _ _ _ h4.md ?_ (put_lit rfl (by dsimp only [List.set_cons_succ,List.set_cons_zero]))
          clear HK K hT h3
          generalize (x3).alloc (.cells #[.int .i64 3] 3 (0,0))=x4 at h4 ⊢
          generalize (x3).heap.size=n4 at h4 ⊢
          refine pX 8 fun hT K HK=>?_
          refine h4.app2 HPW.out rfl _ _ rfl rfl rfl fun g5 d5 x5 h5=>?_
          refine HK.out _ _ _ h5.md ?_ (put_lit rfl (by dsimp only [List.set_cons_succ,List.set_cons_zero]))
          clear HK K hT h4
          refine pX 15 fun hT K HK=>?_
          refine h5.app3 HPW.out rfl _ _ rfl rfl rfl fun g6 d6 x6 h6=>?_
          refine HK.out _ _ _ h6.md ?_ (put_lit rfl (by dsimp only [List.set_cons_succ,List.set_cons_zero]))
          clear HK K hT h5
          refine pY 17 fun hT K HK=>?_
          have fin:=O2.fin24 HO.out HB.out h6
          obtain ⟨D1,D2,D3⟩:=HO.out.cells HB.out hT
          obtain ⟨F1,F2,F3,L1,L2,L3⟩:=HO.out.st HB.out hT
          obtain ⟨N1,N2,N3,N4,N5,N6⟩:=HB.out.ne
          go_simp
          refine HK.out _ _ _ ?_
          clear HK K
          refine pP 18 ?_
          refine pZ 19 fun K HK=>?_
          go_simp
          refine HK.out _ _ _ ?_
          clear HK K
          refine pP 20 ?_;refine pP 21 ?_;refine pP 22 ?_
          refine pZ 23 fun K HK=>?_
          go_simp
          refine HK.out _ _ _ ?_
          clear HK K
          refine pD ?_
          clear D1 D2 D3 F1 F2 F3 L1 L2 L3 N1 N2 N3 N4 N5 N6
          go_wp2_with fail
          go_meet
          case rel=>exact fin
      ·
        as_aux_lemma =>
        refine step_b1 rfl rfl ?_
        have h3:=h2.alloc3
        refine HK.out _ _ _ h3.md ?_ (put_lit rfl (by dsimp only [List.set_cons_succ,List.set_cons_zero]))
        clear HK K hT h2
        generalize (x2).alloc (.cells #[.int .i64 3] 3 (0,0))=x3 at h3 ⊢
        generalize (x2).heap.size=n3 at h3 ⊢
        refine pX 7 fun hT K HK=>?_
        refine step_b1 rfl rfl ?_
        have h4:=h3.alloc2
        refine HK.out _ _ _ h4.md ?_ (put_lit rfl (by dsimp only [List.set_cons_succ,List.set_cons_zero]))
        clear HK K hT h3
        generalize (x3).alloc (.cells #[.int .i64 2] 3 (0,0))=x4 at h4 ⊢
        generalize (x3).heap.size=n4 at h4 ⊢
        refine pX 8 fun hT K HK=>?_
        refine h4.app2 HPW.out rfl _ _ rfl rfl rfl fun g5 d5 x5 h5=>?_
        refine HK.out _ _ _ h5.md ?_ (put_lit rfl (by dsimp only [List.set_cons_succ,List.set_cons_zero]))
        clear HK K hT h4
        refine pX 15 fun hT K HK=>?_
        refine h5.app3 HPW.out rfl _ _ rfl rfl rfl fun g6 d6 x6 h6=>?_
        refine HK.out _ _ _ h6.md ?_ (put_lit rfl (by dsimp only [List.set_cons_succ,List.set_cons_zero]))
        clear HK K hT h5
        refine pY 17 fun hT K HK=>?_
        have fin:=O2.fin24 HO.out HB.out h6
        obtain ⟨D1,D2,D3⟩:=HO.out.cells HB.out hT
        obtain ⟨F1,F2,F3,L1,L2,L3⟩:=HO.out.st HB.out hT
        obtain ⟨N1,N2,N3,N4,N5,N6⟩:=HB.out.ne
        go_simp
        refine HK.out _ _ _ ?_
        clear HK K
        refine pP 18 ?_
        refine pZ 19 fun K HK=>?_
        go_simp
        refine HK.out _ _ _ ?_
        clear HK K
        refine pP 20 ?_;refine pP 21 ?_;refine pP 22 ?_
        refine pZ 23 fun K HK=>?_
        go_simp
        refine HK.out _ _ _ ?_
        clear HK K
        refine pD ?_
        clear D1 D2 D3 F1 F2 F3 L1 L2 L3 N1 N2 N3 N4 N5 N6
        go_wp2_with fail
        go_meet
        case rel=>exact fin
    ·
      as_aux_lemma =>
      refine step_b1 rfl rfl ?_
      have h2:=h1.alloc2
      refine HK.out _ _ _ h2.md ?_ (put_lit rfl (by dsimp only [List.set_cons_succ,List.set_cons_zero]))
      clear HK K hT h1
      generalize (x1).alloc (.cells #[.int .i64 2] 3 (0,0))=x2 at h2 ⊢
      generalize (x1).heap.size=n2 at h2 ⊢
      refine pX2 4 14 (fun hT K HK=>?_) (fun hT K HK=>?_)
      ·
        as_aux_lemma =>
        refine h2.app1 HPW.out rfl _ _ rfl rfl rfl fun g3 d3 x3 h3=>?_
        refine HK.out _ _ _ h3.md ?_ (put_lit rfl (by dsimp only [List.set_cons_succ,List.set_cons_zero]))
        clear HK K hT h2
        refine pP 16 ?_
        refine pX2 8 14 (fun hT K HK=>?_) (fun hT K HK=>?_)
        ·
          as_aux_lemma =>
          refine h3.app2 HPW.out rfl _ _ rfl rfl rfl fun g4 d4 x4 h4=>?_
          refine HK.out _ _ _ h4.md ?_ (put_lit rfl (by dsimp only [List.set_cons_succ,List.set_cons_zero]))
          clear HK K hT h3
          refine pX 14 fun hT K HK=>?_
          refine step_b1 rfl rfl ?_
          have h5:=h4.alloc3
          refine HK.out _ _ _ h5.md ?_ (put_lit rfl (by dsimp only [List.set_cons_succ,List.set_cons_zero]))
          clear HK K hT h4
          generalize (x4).alloc (.cells #[.int .i64 3] 3 (0,0))=x5 at h5 ⊢
          generalize (x4).heap.size=n5 at h5 ⊢
          refine pX 15 fun hT K HK=>?_
          refine h5.app3 HPW.out rfl _ _ rfl rfl rfl fun g6 d6 x6 h6=>?_
          refine HK.out _ _ _ h6.md ?_ (put_lit rfl (by dsimp only [List.set_cons_succ,List.set_cons_zero]))
          clear HK K hT h5
          refine pY 17 fun hT K HK=>?_
          have fin:=O2.fin24 HO.out HB.out h6
          obtain ⟨D1,D2,D3⟩:=HO.out.cells HB.out hT
          obtain ⟨F1,F2,F3,L1,L2,L3⟩:=HO.out.st HB.out hT
          obtain ⟨N1,N2,N3,N4,N5,N6⟩:=HB.out.ne
          go_simp
          refine HK.out _ _ _ ?_
          clear HK K
          refine pP 18 ?_
          refine pZ 19 fun K HK=>?_
          go_simp
          refine HK.out _ _ _ ?_
          clear HK K
          refine pP 20 ?_;refine pP 21 ?_;refine pP 22 ?_
          refine pZ 23 fun K HK=>?_
          go_simp
          refine HK.out _ _ _ ?_
          clear HK K
          refine pD ?_
          clear D1 D2 D3 F1 F2 F3 L1 L2 L3 N1 N2 N3 N4 N5 N6
          go_wp2_with fail
          go_meet
          case rel=>exact fin
        ·
          as_aux_lemma =>
          refine step_b1 rfl rfl ?_
          have h4:=h3.alloc3
          refine HK.out _ _ _ h4.md ?_ (put_lit rfl (by dsimp only [List.set_cons_succ,List.set_cons_zero]))
          clear HK K hT h3
          generalize (x3).alloc (.cells #[.int .i64 3] 3 (0,0))=x4 at h4 ⊢
          generalize (x3).heap.size=n4 at h4 ⊢
          refine pX 8 fun hT K HK=>?_
          refine h4.app2 HPW.out rfl _ _ rfl rfl rfl fun g5 d5 x5 h5=>?_
          refine HK.out _ _ _ h5.md ?_ (put_lit rfl (by dsimp only [List.set_cons_succ,List.set_cons_zero]))
          clear HK K hT h4
          refine pX 15 fun hT K HK=>?_
          refine h5.app3 HPW.out rfl _ _ rfl rfl rfl fun g6 d6 x6 h6=>?_
          refine HK.out _ _ _ h6.md ?_ (put_lit rfl (by dsimp only [List.set_cons_succ,List.set_cons_zero]))
          clear HK K hT h5
          refine pY 17 fun hT K HK=>?_
          have fin:=O2.fin24 HO.out HB.out h6
          obtain ⟨D1,D2,D3⟩:=HO.out.cells HB.out hT
          obtain ⟨F1,F2,F3,L1,L2,L3⟩:=HO.out.st HB.out hT
          obtain ⟨N1,N2,N3,N4,N5,N6⟩:=HB.out.ne
          go_simp
          refine HK.out _ _ _ ?_
          clear HK K
          refine pP 18 ?_
          refine pZ 19 fun K HK=>?_
          go_simp
          refine HK.out _ _ _ ?_
          clear HK K
          refine pP 20 ?_;refine pP 21 ?_;refine pP 22 ?_
          refine pZ 23 fun K HK=>?_
          go_simp
          refine HK.out _ _ _ ?_
          clear HK K
          refine pD ?_
          clear D1 D2 D3 F1 F2 F3 L1 L2 L3 N1 N2 N3 N4 N5 N6
          go_wp2_with fail
          go_meet
          case rel=>exact fin
      ·
        as_aux_lemma =>
        refine step_b1 rfl rfl ?_
        have h3:=h2.alloc3
        refine HK.out _ _ _ h3.md ?_ (put_lit rfl (by dsimp only [List.set_cons_succ,List.set_cons_zero]))
        clear HK K hT h2
        generalize (x2).alloc (.cells #[.int .i64 3] 3 (0,0))=x3 at h3 ⊢
        generalize (x2).heap.size=n3 at h3 ⊢
        refine pX 4 fun hT K HK=>?_
        refine h3.app1 HPW.out rfl _ _ rfl rfl rfl fun g4 d4 x4 h4=>?_
        refine HK.out _ _ _ h4.md ?_ (put_lit rfl (by dsimp only [List.set_cons_succ,List.set_cons_zero]))
        clear HK K hT h3
        refine pP 16 ?_
        refine pX 8 fun hT K HK=>?_
        refine h4.app2 HPW.out rfl _ _ rfl rfl rfl fun g5 d5 x5 h5=>?_
        refine HK.out _ _ _ h5.md ?_ (put_lit rfl (by dsimp only [List.set_cons_succ,List.set_cons_zero]))
        clear HK K hT h4
        refine pX 15 fun hT K HK=>?_
        refine h5.app3 HPW.out rfl _ _ rfl rfl rfl fun g6 d6 x6 h6=>?_
        refine HK.out _ _ _ h6.md ?_ (put_lit rfl (by dsimp only [List.set_cons_succ,List.set_cons_zero]))
        clear HK K hT h5
        refine pY 17 fun hT K HK=>?_
        have fin:=O2.fin24 HO.out HB.out h6
        obtain ⟨D1,D2,D3⟩:=HO.out.cells HB.out hT
        obtain ⟨F1,F2,F3,L1,L2,L3⟩:=HO.out.st HB.out hT
        obtain ⟨N1,N2,N3,N4,N5,N6⟩:=HB.out.ne
        go_simp
        refine HK.out _ _ _ ?_
        clear HK K
        refine pP 18 ?_
        refine pZ 19 fun K HK=>?_
        go_simp
        refine HK.out _ _ _ ?_
        clear HK K
        refine pP 20 ?_;refine pP 21 ?_;refine pP 22 ?_
        refine pZ 23 fun K HK=>?_
        go_simp
        refine HK.out _ _ _ ?_
        clear HK K
        refine pD ?_
        clear D1 D2 D3 F1 F2 F3 L1 L2 L3 N1 N2 N3 N4 N5 N6
        go_wp2_with fail
        go_meet
        case rel=>exact fin
    ·
      as_aux_lemma =>
      refine step_b1 rfl rfl ?_
      have h2:=h1.alloc3
      refine HK.out _ _ _ h2.md ?_ (put_lit rfl (by dsimp only [List.set_cons_succ,List.set_cons_zero]))
      clear HK K hT h1
      generalize (x1).alloc (.cells #[.int .i64 3] 3 (0,0))=x2 at h2 ⊢
      generalize (x1).heap.size=n2 at h2 ⊢
      refine pX2 4 7 (fun hT K HK=>?_) (fun hT K HK=>?_)
      ·
        as_aux_lemma =>
        refine h2.app1 HPW.out rfl _ _ rfl rfl rfl fun g3 d3 x3 h3=>?_
        refine HK.out _ _ _ h3.md ?_ (put_lit rfl (by dsimp only [List.set_cons_succ,List.set_cons_zero]))
        clear HK K hT h2
        refine pP 16 ?_
        refine pX 7 fun hT K HK=>?_
        refine step_b1 rfl rfl ?_
        have h4:=h3.alloc2
        refine HK.out _ _ _ h4.md ?_ (put_lit rfl (by dsimp only [List.set_cons_succ,List.set_cons_zero]))
        clear HK K hT h3
        generalize (x3).alloc (.cells #[.int .i64 2] 3 (0,0))=x4 at h4 ⊢
        generalize (x3).heap.size=n4 at h4 ⊢
        refine pX 8 fun hT K HK=>?_
        refine h4.app2 HPW.out rfl _ _ rfl rfl rfl fun g5 d5 x5 h5=>?_
        refine HK.out _ _ _ h5.md ?_ (put_lit rfl (by dsimp only [List.set_cons_succ,List.set_cons_zero]))
        clear HK K hT h4
        refine pX 15 fun hT K HK=>?_
        refine h5.app3 HPW.out rfl _ _ rfl rfl rfl fun g6 d6 x6 h6=>?_
        refine HK.out _ _ _ h6.md ?_ (put_lit rfl (by dsimp only [List.set_cons_succ,List.set_cons_zero]))
        clear HK K hT h5
        refine pY 17 fun hT K HK=>?_
        have fin:=O2.fin24 HO.out HB.out h6
        obtain ⟨D1,D2,D3⟩:=HO.out.cells HB.out hT
        obtain ⟨F1,F2,F3,L1,L2,L3⟩:=HO.out.st HB.out hT
        obtain ⟨N1,N2,N3,N4,N5,N6⟩:=HB.out.ne
        go_simp
        refine HK.out _ _ _ ?_
        clear HK K
        refine pP 18 ?_
        refine pZ 19 fun K HK=>?_
        go_simp
        refine HK.out _ _ _ ?_
        clear HK K
        refine pP 20 ?_;refine pP 21 ?_;refine pP 22 ?_
        refine pZ 23 fun K HK=>?_
        go_simp
        refine HK.out _ _ _ ?_
        clear HK K
        refine pD ?_
        clear D1 D2 D3 F1 F2 F3 L1 L2 L3 N1 N2 N3 N4 N5 N6
        go_wp2_with fail
        go_meet
        case rel=>exact fin
      ·
        as_aux_lemma =>
        refine step_b1 rfl rfl ?_
        have h3:=h2.alloc2
        refine HK.out _ _ _ h3.md ?_ (put_lit rfl (by dsimp only [List.set_cons_succ,List.set_cons_zero]))
        clear HK K hT h2
        generalize (x2).alloc (.cells #[.int .i64 2] 3 (0,0))=x3 at h3 ⊢
        generalize (x2).heap.size=n3 at h3 ⊢
        refine pX 4 fun hT K HK=>?_
        refine h3.app1 HPW.out rfl _ _ rfl rfl rfl fun g4 d4 x4 h4=>?_
        refine HK.out _ _ _ h4.md ?_ (put_lit rfl (by dsimp only [List.set_cons_succ,List.set_cons_zero]))
        clear HK K hT h3
        refine pP 16 ?_
        refine pX 8 fun hT K HK=>?_
        refine h4.app2 HPW.out rfl _ _ rfl rfl rfl fun g5 d5 x5 h5=>?_
        refine HK.out _ _ _ h5.md ?_ (put_lit rfl (by dsimp only [List.set_cons_succ,List.set_cons_zero]))
        clear HK K hT h4
        refine pX 15 fun hT K HK=>?_
        refine h5.app3 HPW.out rfl _ _ rfl rfl rfl fun g6 d6 x6 h6=>?_
        refine HK.out _ _ _ h6.md ?_ (put_lit rfl (by dsimp only [List.set_cons_succ,List.set_cons_zero]))
        clear HK K hT h5
        refine pY 17 fun hT K HK=>?_
        have fin:=O2.fin24 HO.out HB.out h6
        obtain ⟨D1,D2,D3⟩:=HO.out.cells HB.out hT
        obtain ⟨F1,F2,F3,L1,L2,L3⟩:=HO.out.st HB.out hT
        obtain ⟨N1,N2,N3,N4,N5,N6⟩:=HB.out.ne
        go_simp
        refine HK.out _ _ _ ?_
        clear HK K
        refine pP 18 ?_
        refine pZ 19 fun K HK=>?_
        go_simp
        refine HK.out _ _ _ ?_
        clear HK K
        refine pP 20 ?_;refine pP 21 ?_;refine pP 22 ?_
        refine pZ 23 fun K HK=>?_
        go_simp
        refine HK.out _ _ _ ?_
        clear HK K
        refine pD ?_
        clear D1 D2 D3 F1 F2 F3 L1 L2 L3 N1 N2 N3 N4 N5 N6
        go_wp2_with fail
        go_meet
        case rel=>exact fin
  ·
    as_aux_lemma =>
    refine step_b1 rfl rfl ?_
    have h1:=h0.alloc2
    refine HK.out _ _ _ h1.md ?_ (put_lit rfl (by dsimp only [List.set_cons_succ,List.set_cons_zero]))
    clear HK K hT h0
    generalize (V).alloc (.cells #[.int .i64 2] 3 (0,0))=x1 at h1 ⊢
    generalize (V).heap.size=n1 at h1 ⊢
    refine pX2 3 14 (fun hT K HK=>?_) (fun hT K HK=>?_)
    ·
      as_aux_lemma =>
      refine step_b1 rfl rfl ?_
      have h2:=h1.alloc1
      refine HK.out _ _ _ h2.md ?_ (put_lit rfl (by dsimp only [List.set_cons_succ,List.set_cons_zero]))
      clear HK K hT h1
      generalize (x1).alloc (.cells #[.int .i64 1] 3 (0,0))=x2 at h2 ⊢
      generalize (x1).heap.size=n2 at h2 ⊢
      refine pX2 4 14 (fun hT K HK=>?_) (fun hT K HK=>?_)
      ·
        as_aux_lemma =>
        refine h2.app1 HPW.out rfl _ _ rfl rfl rfl fun g3 d3 x3 h3=>?_
        refine HK.out _ _ _ h3.md ?_ (put_lit rfl (by dsimp only [List.set_cons_succ,List.set_cons_zero]))
        clear HK K hT h2
        refine pP 16 ?_
        refine pX2 8 14 (fun hT K HK=>?_) (fun hT K HK=>?_)
        ·
          as_aux_lemma =>
          refine h3.app2 HPW.out rfl _ _ rfl rfl rfl fun g4 d4 x4 h4=>?_
          refine HK.out _ _ _ h4.md ?_ (put_lit rfl (by dsimp only [List.set_cons_succ,List.set_cons_zero]))
          clear HK K hT h3
          refine pX 14 fun hT K HK=>?_
          refine step_b1 rfl rfl ?_
          have h5:=h4.alloc3
          refine HK.out _ _ _ h5.md ?_ (put_lit rfl (by dsimp only [List.set_cons_succ,List.set_cons_zero]))
          clear HK K hT h4
          generalize (x4).alloc (.cells #[.int .i64 3] 3 (0,0))=x5 at h5 ⊢
          generalize (x4).heap.size=n5 at h5 ⊢
          refine pX 15 fun hT K HK=>?_
          refine h5.app3 HPW.out rfl _ _ rfl rfl rfl fun g6 d6 x6 h6=>?_
          refine HK.out _ _ _ h6.md ?_ (put_lit rfl (by dsimp only [List.set_cons_succ,List.set_cons_zero]))
          clear HK K hT h5
          refine pY 17 fun hT K HK=>?_
          have fin:=O2.fin24 HO.out HB.out h6
          obtain ⟨D1,D2,D3⟩:=HO.out.cells HB.out hT
          obtain ⟨F1,F2,F3,L1,L2,L3⟩:=HO.out.st HB.out hT
          obtain ⟨N1,N2,N3,N4,N5,N6⟩:=HB.out.ne
          go_simp
          refine HK.out _ _ _ ?_
          clear HK K
          refine pP 18 ?_
          refine pZ 19 fun K HK=>?_
          go_simp
          refine HK.out _ _ _ ?_
          clear HK K
          refine pP 20 ?_;refine pP 21 ?_;refine pP 22 ?_
          refine pZ 23 fun K HK=>?_
          go_simp
          refine HK.out _ _ _ ?_
          clear HK K
          refine pD ?_
          clear D1 D2 D3 F1 F2 F3 L1 L2 L3 N1 N2 N3 N4 N5 N6
          go_wp2_with fail
          go_meet
          case rel=>exact fin
        ·
          as_aux_lemma =>
          refine step_b1 rfl rfl ?_
          have h4:=h3.alloc3
          refine HK.out _ _ _ h4.md ?_ (put_lit rfl (by dsimp only [List.set_cons_succ,List.set_cons_zero]))
          clear HK K hT h3
          generalize (x3).alloc (.cells #[.int .i64 3] 3 (0,0))=x4 at h4 ⊢
          generalize (x3).heap.size=n4 at h4 ⊢
          refine pX 8 fun hT K HK=>?_
          refine h4.app2 HPW.out rfl _ _ rfl rfl rfl fun g5 d5 x5 h5=>?_
          refine HK.out _ _ _ h5.md ?_ (put_lit rfl (by dsimp only [List.set_cons_succ,List.set_cons_zero]))
          clear HK K hT h4
          refine pX 15 fun hT K HK=>?_
          refine h5.app3 HPW.out rfl _ _ rfl rfl rfl fun g6 d6 x6 h6=>?_
          refine HK.out _ _ _ h6.md ?_ (put_lit rfl (by dsimp only [List.set_cons_succ,List.set_cons_zero]))
          clear HK K hT h5
          refine pY 17 fun hT K HK=>?_
          have fin:=O2.fin24 HO.out HB.out h6
          obtain ⟨D1,D2,D3⟩:=HO.out.cells HB.out hT
          obtain ⟨F1,F2,F3,L1,L2,L3⟩:=HO.out.st HB.out hT
          obtain ⟨N1,N2,N3,N4,N5,N6⟩:=HB.out.ne
          go_simp
          refine HK.out _ _ _ ?_
          clear HK K
          refine pP 18 ?_
          refine pZ 19 fun K HK=>?_
          go_simp
          refine HK.out _ _ _ ?_
          clear HK K
          refine pP 20 ?_;refine pP 21 ?_;refine pP 22 ?_
          refine pZ 23 fun K HK=>?_
          go_simp
          refine HK.out _ _ _ ?_
          clear HK K
          refine pD ?_
          clear D1 D2 D3 F1 F2 F3 L1 L2 L3 N1 N2 N3 N4 N5 N6
          go_wp2_with fail
          go_meet
          case rel=>exact fin
      ·
        as_aux_lemma =>
        refine step_b1 rfl rfl ?_
        have h3:=h2.alloc3
        refine HK.out _ _ _ h3.md ?_ (put_lit rfl (by dsimp only [List.set_cons_succ,List.set_cons_zero]))
        clear HK K hT h2
        generalize (x2).alloc (.cells #[.int .i64 3] 3 (0,0))=x3 at h3 ⊢
        generalize (x2).heap.size=n3 at h3 ⊢
        refine pX 4 fun hT K HK=>?_
        refine h3.app1 HPW.out rfl _ _ rfl rfl rfl fun g4 d4 x4 h4=>?_
        refine HK.out _ _ _ h4.md ?_ (put_lit rfl (by dsimp only [List.set_cons_succ,List.set_cons_zero]))
        clear HK K hT h3
        refine pP 16 ?_
        refine pX 8 fun hT K HK=>?_
        refine h4.app2 HPW.out rfl _ _ rfl rfl rfl fun g5 d5 x5 h5=>?_
        refine HK.out _ _ _ h5.md ?_ (put_lit rfl (by dsimp only [List.set_cons_succ,List.set_cons_zero]))
        clear HK K hT h4
        refine pX 15 fun hT K HK=>?_
        refine h5.app3 HPW.out rfl _ _ rfl rfl rfl fun g6 d6 x6 h6=>?_
        refine HK.out _ _ _ h6.md ?_ (put_lit rfl (by dsimp only [List.set_cons_succ,List.set_cons_zero]))
        clear HK K hT h5
        refine pY 17 fun hT K HK=>?_
        have fin:=O2.fin24 HO.out HB.out h6
        obtain ⟨D1,D2,D3⟩:=HO.out.cells HB.out hT
        obtain ⟨F1,F2,F3,L1,L2,L3⟩:=HO.out.st HB.out hT
        obtain ⟨N1,N2,N3,N4,N5,N6⟩:=HB.out.ne
        go_simp
        refine HK.out _ _ _ ?_
        clear HK K
        refine pP 18 ?_
        refine pZ 19 fun K HK=>?_
        go_simp
        refine HK.out _ _ _ ?_
        clear HK K
        refine pP 20 ?_;refine pP 21 ?_;refine pP 22 ?_
        refine pZ 23 fun K HK=>?_
        go_simp
        refine HK.out _ _ _ ?_
        clear HK K
        refine pD ?_
        clear D1 D2 D3 F1 F2 F3 L1 L2 L3 N1 N2 N3 N4 N5 N6
        go_wp2_with fail
        go_meet
        case rel=>exact fin
    ·
      as_aux_lemma =>
      refine step_b1 rfl rfl ?_
      have h2:=h1.alloc3
      refine HK.out _ _ _ h2.md ?_ (put_lit rfl (by dsimp only [List.set_cons_succ,List.set_cons_zero]))
      clear HK K hT h1
      generalize (x1).alloc (.cells #[.int .i64 3] 3 (0,0))=x2 at h2 ⊢
      generalize (x1).heap.size=n2 at h2 ⊢
      refine pX 3 fun hT K HK=>?_
      refine step_b1 rfl rfl ?_
      have h3:=h2.alloc1
      refine HK.out _ _ _ h3.md ?_ (put_lit rfl (by dsimp only [List.set_cons_succ,List.set_cons_zero]))
      clear HK K hT h2
      generalize (x2).alloc (.cells #[.int .i64 1] 3 (0,0))=x3 at h3 ⊢
      generalize (x2).heap.size=n3 at h3 ⊢
      refine pX 4 fun hT K HK=>?_
      refine h3.app1 HPW.out rfl _ _ rfl rfl rfl fun g4 d4 x4 h4=>?_
      refine HK.out _ _ _ h4.md ?_ (put_lit rfl (by dsimp only [List.set_cons_succ,List.set_cons_zero]))
      clear HK K hT h3
      refine pP 16 ?_
      refine pX 8 fun hT K HK=>?_
      refine h4.app2 HPW.out rfl _ _ rfl rfl rfl fun g5 d5 x5 h5=>?_
      refine HK.out _ _ _ h5.md ?_ (put_lit rfl (by dsimp only [List.set_cons_succ,List.set_cons_zero]))
      clear HK K hT h4
      refine pX 15 fun hT K HK=>?_
      refine h5.app3 HPW.out rfl _ _ rfl rfl rfl fun g6 d6 x6 h6=>?_
      refine HK.out _ _ _ h6.md ?_ (put_lit rfl (by dsimp only [List.set_cons_succ,List.set_cons_zero]))
      clear HK K hT h5
      refine pY 17 fun hT K HK=>?_
      have fin:=O2.fin24 HO.out HB.out h6
      obtain ⟨D1,D2,D3⟩:=HO.out.cells HB.out hT
      obtain ⟨F1,F2,F3,L1,L2,L3⟩:=HO.out.st HB.out hT
      obtain ⟨N1,N2,N3,N4,N5,N6⟩:=HB.out.ne
      go_simp
      refine HK.out _ _ _ ?_
      clear HK K
      refine pP 18 ?_
      refine pZ 19 fun K HK=>?_
      go_simp
      refine HK.out _ _ _ ?_
      clear HK K
      refine pP 20 ?_;refine pP 21 ?_;refine pP 22 ?_
      refine pZ 23 fun K HK=>?_
      go_simp
      refine HK.out _ _ _ ?_
      clear HK K
      refine pD ?_
      clear D1 D2 D3 F1 F2 F3 L1 L2 L3 N1 N2 N3 N4 N5 N6
      go_wp2_with fail
      go_meet
      case rel=>exact fin
  ·
    as_aux_lemma =>
    refine step_b1 rfl rfl ?_
    have h1:=h0.alloc3
    refine HK.out _ _ _ h1.md ?_ (put_lit rfl (by dsimp only [List.set_cons_succ,List.set_cons_zero]))
    clear HK K hT h0
    generalize (V).alloc (.cells #[.int .i64 3] 3 (0,0))=x1 at h1 ⊢
    generalize (V).heap.size=n1 at h1 ⊢
    refine pX2 3 7 (fun hT K HK=>?_) (fun hT K HK=>?_)
    ·
      as_aux_lemma =>
      refine step_b1 rfl rfl ?_
      have h2:=h1.alloc1
      refine HK.out _ _ _ h2.md ?_ (put_lit rfl (by dsimp only [List.set_cons_succ,List.set_cons_zero]))
      clear HK K hT h1
      generalize (x1).alloc (.cells #[.int .i64 1] 3 (0,0))=x2 at h2 ⊢
      generalize (x1).heap.size=n2 at h2 ⊢
      refine pX2 4 7 (fun hT K HK=>?_) (fun hT K HK=>?_)
      ·
        as_aux_lemma =>
        refine h2.app1 HPW.out rfl _ _ rfl rfl rfl fun g3 d3 x3 h3=>?_
        refine HK.out _ _ _ h3.md ?_ (put_lit rfl (by dsimp only [List.set_cons_succ,List.set_cons_zero]))
        clear HK K hT h2
        refine pP 16 ?_
        refine pX 7 fun hT K HK=>?_
        refine step_b1 rfl rfl ?_
        have h4:=h3.alloc2
        refine HK.out _ _ _ h4.md ?_ (put_lit rfl (by dsimp only [List.set_cons_succ,List.set_cons_zero]))
        clear HK K hT h3
        generalize (x3).alloc (.cells #[.int .i64 2] 3 (0,0))=x4 at h4 ⊢
        generalize (x3).heap.size=n4 at h4 ⊢
        refine pX 8 fun hT K HK=>?_
        refine h4.app2 HPW.out rfl _ _ rfl rfl rfl fun g5 d5 x5 h5=>?_
        refine HK.out _ _ _ h5.md ?_ (put_lit rfl (by dsimp only [List.set_cons_succ,List.set_cons_zero]))
        clear HK K hT h4
        refine pX 15 fun hT K HK=>?_
        refine h5.app3 HPW.out rfl _ _ rfl rfl rfl fun g6 d6 x6 h6=>?_
        refine HK.out _ _ _ h6.md ?_ (put_lit rfl (by dsimp only [List.set_cons_succ,List.set_cons_zero]))
        clear HK K hT h5
        refine pY 17 fun hT K HK=>?_
        have fin:=O2.fin24 HO.out HB.out h6
        obtain ⟨D1,D2,D3⟩:=HO.out.cells HB.out hT
        obtain ⟨F1,F2,F3,L1,L2,L3⟩:=HO.out.st HB.out hT
        obtain ⟨N1,N2,N3,N4,N5,N6⟩:=HB.out.ne
        go_simp
        refine HK.out _ _ _ ?_
        clear HK K
        refine pP 18 ?_
        refine pZ 19 fun K HK=>?_
        go_simp
        refine HK.out _ _ _ ?_
        clear HK K
        refine pP 20 ?_;refine pP 21 ?_;refine pP 22 ?_
        refine pZ 23 fun K HK=>?_
        go_simp
        refine HK.out _ _ _ ?_
        clear HK K
        refine pD ?_
        clear D1 D2 D3 F1 F2 F3 L1 L2 L3 N1 N2 N3 N4 N5 N6
        go_wp2_with fail
        go_meet
        case rel=>exact fin
      ·
        as_aux_lemma =>
        refine step_b1 rfl rfl ?_
        have h3:=h2.alloc2
        refine HK.out _ _ _ h3.md ?_ (put_lit rfl (by dsimp only [List.set_cons_succ,List.set_cons_zero]))
        clear HK K hT h2
        generalize (x2).alloc (.cells #[.int .i64 2] 3 (0,0))=x3 at h3 ⊢
        generalize (x2).heap.size=n3 at h3 ⊢
        refine pX 4 fun hT K HK=>?_
        refine h3.app1 HPW.out rfl _ _ rfl rfl rfl fun g4 d4 x4 h4=>?_
        refine HK.out _ _ _ h4.md ?_ (put_lit rfl (by dsimp only [List.set_cons_succ,List.set_cons_zero]))
        clear HK K hT h3
        refine pP 16 ?_
        refine pX 8 fun hT K HK=>?_
        refine h4.app2 HPW.out rfl _ _ rfl rfl rfl fun g5 d5 x5 h5=>?_
        refine HK.out _ _ _ h5.md ?_ (put_lit rfl (by dsimp only [List.set_cons_succ,List.set_cons_zero]))
        clear HK K hT h4
        refine pX 15 fun hT K HK=>?_
        refine h5.app3 HPW.out rfl _ _ rfl rfl rfl fun g6 d6 x6 h6=>?_
        refine HK.out _ _ _ h6.md ?_ (put_lit rfl (by dsimp only [List.set_cons_succ,List.set_cons_zero]))
        clear HK K hT h5
        refine pY 17 fun hT K HK=>?_
        have fin:=O2.fin24 HO.out HB.out h6
        obtain ⟨D1,D2,D3⟩:=HO.out.cells HB.out hT
        obtain ⟨F1,F2,F3,L1,L2,L3⟩:=HO.out.st HB.out hT
        obtain ⟨N1,N2,N3,N4,N5,N6⟩:=HB.out.ne
        go_simp
        refine HK.out _ _ _ ?_
        clear HK K
        refine pP 18 ?_
        refine pZ 19 fun K HK=>?_
        go_simp
        refine HK.out _ _ _ ?_
        clear HK K
        refine pP 20 ?_;refine pP 21 ?_;refine pP 22 ?_
        refine pZ 23 fun K HK=>?_
        go_simp
        refine HK.out _ _ _ ?_
        clear HK K
        refine pD ?_
        clear D1 D2 D3 F1 F2 F3 L1 L2 L3 N1 N2 N3 N4 N5 N6
        go_wp2_with fail
        go_meet
        case rel=>exact fin
    ·
      as_aux_lemma =>
      refine step_b1 rfl rfl ?_
      have h2:=h1.alloc2
      refine HK.out _ _ _ h2.md ?_ (put_lit rfl (by dsimp only [List.set_cons_succ,List.set_cons_zero]))
      clear HK K hT h1
      generalize (x1).alloc (.cells #[.int .i64 2] 3 (0,0))=x2 at h2 ⊢
      generalize (x1).heap.size=n2 at h2 ⊢
      refine pX 3 fun hT K HK=>?_
      refine step_b1 rfl rfl ?_
      have h3:=h2.alloc1
      refine HK.out _ _ _ h3.md ?_ (put_lit rfl (by dsimp only [List.set_cons_succ,List.set_cons_zero]))
      clear HK K hT h2
      generalize (x2).alloc (.cells #[.int .i64 1] 3 (0,0))=x3 at h3 ⊢
      generalize (x2).heap.size=n3 at h3 ⊢
      refine pX 4 fun hT K HK=>?_
      refine h3.app1 HPW.out rfl _ _ rfl rfl rfl fun g4 d4 x4 h4=>?_
      refine HK.out _ _ _ h4.md ?_ (put_lit rfl (by dsimp only [List.set_cons_succ,List.set_cons_zero]))
      clear HK K hT h3
      refine pP 16 ?_
      refine pX 8 fun hT K HK=>?_
      refine h4.app2 HPW.out rfl _ _ rfl rfl rfl fun g5 d5 x5 h5=>?_
      refine HK.out _ _ _ h5.md ?_ (put_lit rfl (by dsimp only [List.set_cons_succ,List.set_cons_zero]))
      clear HK K hT h4
      refine pX 15 fun hT K HK=>?_
      refine h5.app3 HPW.out rfl _ _ rfl rfl rfl fun g6 d6 x6 h6=>?_
      refine HK.out _ _ _ h6.md ?_ (put_lit rfl (by dsimp only [List.set_cons_succ,List.set_cons_zero]))
      clear HK K hT h5
      refine pY 17 fun hT K HK=>?_
      have fin:=O2.fin24 HO.out HB.out h6
      obtain ⟨D1,D2,D3⟩:=HO.out.cells HB.out hT
      obtain ⟨F1,F2,F3,L1,L2,L3⟩:=HO.out.st HB.out hT
      obtain ⟨N1,N2,N3,N4,N5,N6⟩:=HB.out.ne
      go_simp
      refine HK.out _ _ _ ?_
      clear HK K
      refine pP 18 ?_
      refine pZ 19 fun K HK=>?_
      go_simp
      refine HK.out _ _ _ ?_
      clear HK K
      refine pP 20 ?_;refine pP 21 ?_;refine pP 22 ?_
      refine pZ 23 fun K HK=>?_
      go_simp
      refine HK.out _ _ _ ?_
      clear HK K
      refine pD ?_
      clear D1 D2 D3 F1 F2 F3 L1 L2 L3 N1 N2 N3 N4 N5 N6
      go_wp2_with fail
      go_meet
      case rel=>exact fin
 case rest =>
 as_aux_lemma =>
 obtain ⟨X2,rfl⟩:∃ x:World,x=wc:=⟨_,rfl⟩
 have H3:=hide hcut
 clear hcut
 have hhd:Calls Tryz.prog 18 #[.pointer (some ⟨pg,0,none⟩),.int .i64 1] X2 fun e w'=>∃ q c,e=.returned (.tuple #[.agg #[.int .i64 1,.int .i64 2,.string ⟨#[97]⟩,.int .i64 1,.slice q 3 c,.int .i64 10,.int .i64 16,.int .i64 0,.int .i64 0],.bool true])∧w'.ownsRow X2.heap.size 3 1 (.slice q 3 c) 3 [i4 7,i4 8,i4 2]∧Mod [] X2 w':=held_eq H3.out.s 1 HLA.out.2.2.2.1
 go_upto_region 26 with (go_at_call 18;refine hhd.mono ?_;rintro e w3 ⟨q3,cu,rfl,p1,p2⟩;obtain ⟨gu,rfl,p3,p4⟩:=row_some p1 (by decide)
                         have P3:=hd2 p2 p1;clear p1 p2 p3 p4 hhd)
 as_aux_lemma =>
 obtain ⟨Y,hY⟩:∃ x,x=w3.alloc (.cells #[.int .i64 1,.int .i64 2,.string ⟨#[97]⟩,.int .i64 1,.slice (some ⟨gu,0,none⟩) 3 cu,.int .i64 10,.int .i64 16,.int .i64 0,.int .i64 0] 44 (0,0)):=⟨_,rfl⟩
 have my:Mod [] w3 Y:=by rw [hY];exact (Mod.refl _ _).alloc _
 have ky:Y.heap[w3.heap.size]?=some (.cells #[.int .i64 1,.int .i64 2,.string ⟨#[97]⟩,.int .i64 1,.slice (some ⟨gu,0,none⟩) 3 cu,.int .i64 10,.int .i64 16,.int .i64 0,.int .i64 0] 44 (0,0)):=by rw [hY];exact heap_alloc_new _ _
 obtain ⟨bu,hbu⟩:∃ x,w3.heap.size=x:=⟨_,rfl⟩
 rw [hbu] at ky
 have mY:Mod [] X2 Y:=P3.out.1.then my
 have ru:RdN Y (.slice (some ⟨gu,0,none⟩) 3 cu) [7,8,2]:=(rdN_of_row (m:=[7,8,2]) P3.out.2).mod my (by simp)
 have rr:RdN Y (.slice (some ⟨B.gr,0,none⟩) 3 B.cr) [7,8,2]:=(rdN_of_row (m:=[7,8,2]) H3.out.sr).mod mY (by simp)
 obtain ⟨k1,c1,k2,c2,k3,c3,hcells⟩:=H3.out.cells
 have HC:=hide hcells
 have HR:=hd3 rr ru (H3.out.s.md.then mY)
 obtain ⟨D1,D2,D3,D4,D5,D6,D7,L1,L2,L3,L4⟩:=hcells _ mY
 have D8:=blk_cell ky
 have L8:=lt_of_block ky
 have MY:=hd2 mY ky
 rw [← hY]
 rw [hbu]
 clear hY my ky hbu mY ru rr hcells P3 H3 HLA
 have t1:Hid True:=hide trivial
 go_wp2_with (first
  | (go_at_call 25
     have tk:=t1
     refine (same3 HR.out.1).mono ?_
     rintro e v1 ⟨rfl,g1⟩
     have G1:=hide g1
     clear D1 D2 D3 D4 D5 D6 D7 L1 L2 L3 L4 D8 L8
     obtain ⟨D1,D2,D3,D4,D5,D6,D7,L1,L2,L3,L4⟩:=HC.out _ (MY.out.1.then g1)
     have D8:=blk_cell (g1.at_ MY.out.2 (by simp))
     have L8:=lt_of_block (g1.at_ MY.out.2 (by simp))
     clear g1 t1 tk)
  | (go_at_call 25
     refine (same3 (HR.out.2.1.mod G1.out (by simp))).mono ?_
     rintro e v2 ⟨rfl,g2⟩
     have G2:=hide (G1.out.then g2)
     clear D1 D2 D3 D4 D5 D6 D7 L1 L2 L3 L4 D8 L8
     obtain ⟨D1,D2,D3,D4,D5,D6,D7,L1,L2,L3,L4⟩:=HC.out _ (MY.out.1.then G2.out)
     clear g2)
  | fail)
 go_ret
 exact ⟨rfl,HR.out.2.2.then G2.out⟩
end Go.Proofs.YtllljngpgjkdiaaGreatDoor
