/-
  GtOl GtPl GtAp GtGv: see the remarks below.
-/
import Derived.Test.YtllljngpgjkdiaaGreatDoorMGtAk
import Derived.Test.YtllljngpgjkdiaaGreatDoorMGtGp
import Derived.Test.YtllljngpgjkdiaaGreatDoorMLawEnd
import Derived.Deep.Slices
import Derived.ChangeSlices
import Derived.Lib.SmallJoins
import Derived.Test.YtllljngpgjkdiaaGreatDoorMWc
import Derived.Deep.CutBlock
import Derived.Deep.DeepCutAuto
import Derived.Test.YtllljngpgjkdiaaGreatDoorMDisk2
import Derived.Deep.MidRow
import Derived.Deep.WholeRow
/-
  ARGUMENTS OPENED: leases, calls on a grantor, slices of such.
-/
namespace Go.Proofs.YtllljngpgjkdiaaGreatDoor
set_option maxRecDepth 100000
open Go.ChangeShapes Go.WideShapes Go.ChangeAt Go.RowKit Go.Deep Go.Joins

theorem cells_lease:Tryz.prog.cellsOf 25=9:=by kernel_rfl
theorem cells_int:Tryz.prog.cellsOf 3=1:=by kernel_rfl
theorem cells_str:Tryz.prog.cellsOf 9=1:=by kernel_rfl
theorem cells_mode:Tryz.prog.cellsOf 22=1:=by kernel_rfl
theorem cells_ints:Tryz.prog.cellsOf 23=1:=by kernel_rfl
theorem cells_bool:Tryz.prog.cellsOf 4=1:=by kernel_rfl
theorem bytes_int:Tryz.prog.bytesOf 3=8:=by kernel_rfl
def i64w (n:Int):Prop:=(Lit.int .i64 n).wf=true
theorem i64w_iff {n:Int}:i64w n ↔ -9223372036854775808≤n∧n≤9223372036854775807:=by
 unfold i64w
 have e1:IntKind.i64.min = -9223372036854775808:=rfl
 have e2:IntKind.i64.max=9223372036854775807:=rfl
 simp [Lit.wf,e1,e2]
def inW (x:Lease):Prop:=(i64w x.frm∧i64w x.id∧i64w x.mode∧i64w x.term∧i64w x.sent∧i64w x.expiry)∧x.path.size≤9223372036854775806∧x.stamp.length * 8≤140737488355328
theorem trod_ints {H:Type} {enc:TypeId × Value→H} {W:World} {base:Nat} {held:Bool} {fuel:Nat} {cs:List Value} {x:DataW H × List MemPlace}
 (h:DataW.trod enc Tryz.prog W base (fun _=>true) held fuel 23 cs=some x) (hw:∀ n,n∈x.1.weights Tryz.prog 23→n≤reachBytes):∃ q c a,cs=[.slice q a.length c]∧RdN W (.slice q a.length c) a∧a.length * 8≤140737488355328:=by
 rcases open_ints Tryz.underlying23 Tryz.underlying3 cells_int h with ⟨rfl,rfl⟩ | ⟨ad,len,cap,zs,rfl,_,hl,hm,hz,rfl,hc,_⟩
 · exact ⟨none,0,[],rfl,⟨by simp,.inl ⟨none,0,rfl,rfl⟩⟩,by simp⟩
 · simp only [if_true] at hz
   have h1:((lits (H:=H) .i64 (zs.take len)).length+(lits (H:=H) .i64 (zs.drop len)).length) * Tryz.prog.bytesOf 3≤reachBytes:=by
    refine hw _ ?_
    simp only [DataW.weights,Tryz.underlying23]
    exact List.mem_cons_self
   rw [bytes_int] at h1
   simp only [lits,List.length_map,List.length_take,List.length_drop] at h1
   unfold reachBytes at h1
   have ht:(zs.take len).length=len:=by rw [List.length_take];omega
   by_cases h0:len=0
   · subst h0
     exact ⟨some ad,cap,[],rfl,⟨by simp,.inl ⟨_,_,rfl,rfl⟩⟩,by simp⟩
   · obtain ⟨b,off,spot⟩:=ad
     have hc0:=hc 0 (by omega)
     have hsp:spot=none:=by
      simp only [Addr.add] at hc0
      cases spot with
      | none=>rfl
      | some s =>
        exfalso
        revert hc0
        unfold World.cell?
        split <;> simp
     subst hsp
     refine ⟨some ⟨b,off,none⟩,cap,zs.take len,by rw [ht],⟨by rw [ht];omega,.inr ⟨b,off,cap,rfl,World.block_lt_of_cell? W _ hc0,fun i hi=>?_⟩⟩,by rw [ht];omega⟩
     rw [ht] at hi
     have q:=hc i (by omega)
     rw [Addr.add_lit] at q
     rw [q]
     simp [List.getD,hi]
theorem lease_fields:∃ f0 f1 f2 f3 f4 f5 f6 f7 f8,Tryz.prog.underlying 25=some (.struct #[f0,f1,f2,f3,f4,f5,f6,f7,f8])∧(f0.type=3∧f0.offset=0)∧(f1.type=3∧f1.offset=1)∧(f2.type=9∧f2.offset=2) ∧
 (f3.type=22∧f3.offset=3)∧(f4.type=23∧f4.offset=4)∧(f5.type=3∧f5.offset=5)∧(f6.type=3∧f6.offset=6)∧(f7.type=3∧f7.offset=7)∧(f8.type=4∧f8.offset=8) :=
 ⟨_,_,_,_,_,_,_,_,_,Tryz.underlying25,⟨rfl,rfl⟩,⟨rfl,rfl⟩,⟨rfl,rfl⟩,⟨rfl,rfl⟩,⟨rfl,rfl⟩,⟨rfl,rfl⟩,⟨rfl,rfl⟩,⟨rfl,rfl⟩,⟨rfl,rfl⟩⟩
theorem trod_lease {H:Type} {enc:TypeId × Value→H} {W:World} {base:Nat} {held:Bool} {fuel:Nat} {cs:List Value} {x:DataW H × List MemPlace}
 (h:DataW.trod enc Tryz.prog W base (fun _=>true) held fuel 25 cs=some x) (hw:∀ n,n∈x.1.weights Tryz.prog 25→n≤reachBytes) :
 ∃ (y:Lease) (q:Option Addr) (c:Nat),cs=(cellsL y (.slice q y.stamp.length c)).toList∧RdN W (.slice q y.stamp.length c) y.stamp∧inW y:=by
 obtain ⟨f0,f1,f2,f3,f4,f5,f6,f7,f8,hs,⟨t0,o0⟩,⟨t1,o1⟩,⟨t2,o2⟩,⟨t3,o3⟩,⟨t4,o4⟩,⟨t5,o5⟩,⟨t6,o6⟩,⟨t7,o7⟩,⟨t8,o8⟩⟩:=lease_fields
 obtain ⟨xs,n,_,rfl,hl,hxl,hf⟩:=DataW.trod_struct hs h
 rw [cells_lease] at hl
 match cs,hl,xs,hxl with
 | [v0,v1,v2,v3,v4,v5,v6,v7,v8],_,[y0,y1,y2,y3,y4,y5,y6,y7,y8],_ =>
   have g0:=hf 0 f0 rfl
   have g1:=hf 1 f1 rfl
   have g2:=hf 2 f2 rfl
   have g3:=hf 3 f3 rfl
   have g4:=hf 4 f4 rfl
   have g5:=hf 5 f5 rfl
   have g6:=hf 6 f6 rfl
   have g7:=hf 7 f7 rfl
   have g8:=hf 8 f8 rfl
   simp [t0,t1,t2,t3,t4,t5,t6,t7,t8,o0,o1,o2,o3,o4,o5,o6,o7,o8,cells_int,cells_str,cells_mode,cells_ints,cells_bool] at g0 g1 g2 g3 g4 g5 g6 g7 g8
   obtain ⟨a0,ha0,_,w0⟩:=DataW.trod_int Tryz.underlying3 g0
   obtain ⟨a1,ha1,_,w1⟩:=DataW.trod_int Tryz.underlying3 g1
   obtain ⟨a2,ha2,hx2,w2⟩:=DataW.trod_string Tryz.underlying9 g2
   have hlen2:a2.size≤reachBytes:=by
    have:=hw a2.data.toList.length (by
     simp only [DataW.weights,hs,List.map_cons,List.map_nil,DataW.weightsEach,List.mem_append]
     have e:y2.1=.lit (.string a2.data.toList):=congrArg Prod.fst hx2
     rw [e,t2]
     exact .inr (.inr (.inl (by simp [DataW.weights]))))
    simpa using this
   obtain ⟨a3,ha3,_,w3⟩:=DataW.trod_int Tryz.underlying22 g3
   obtain ⟨a5,ha5,_,w5⟩:=DataW.trod_int Tryz.underlying3 g5
   obtain ⟨a6,ha6,_,w6⟩:=DataW.trod_int Tryz.underlying3 g6
   obtain ⟨a7,ha7,_,w7⟩:=DataW.trod_int Tryz.underlying3 g7
   obtain ⟨a8,ha8,_⟩:=DataW.trod_bool Tryz.underlying4 g8
   obtain ⟨q,c,a,ha4,hr,hb⟩:=trod_ints g4 (fun n hn=>hw n (by
    simp only [DataW.weights,hs,List.map_cons,List.map_nil,DataW.weightsEach,t4,List.mem_append]
    exact .inr (.inr (.inr (.inr (.inl hn))))))
   simp at ha0 ha1 ha2 ha3 ha4 ha5 ha6 ha7 ha8
   unfold reachBytes at hlen2
   clear w2 hx2
   exact ⟨⟨a0,a1,a2,a3,a,a5,a6,a7,a8⟩,q,c,by rw [ha0,ha1,ha2,ha3,ha4,ha5,ha6,ha7,ha8];rfl,hr,⟨w0,w1,w3,w5,w6,w7⟩,by simp only;omega,hb⟩
theorem weightsAll_mem {H:Type} {P:Program} {e:TypeId} {d:DataW H} {l:List (DataW H)} (hd:d∈l) {n:Nat} (hn:n∈d.weights P e):n∈DataW.weightsAll P e l:=by
 induction l with
 | nil=>cases hd
 | cons x r ih =>
   simp only [DataW.weightsAll,List.mem_append]
   rcases List.mem_cons.1 hd with e | e
   · subst e;exact .inl hn
   · exact .inr (ih e)
instance:Inhabited OpG:=⟨⟨0,0,⟨0,0,⟨#[]⟩,0,[],0,0,0,false⟩,0,0,⟨#[]⟩,0,0,0,false,0,0⟩⟩
def opCells (o:OpG) (v:Value):List Value:=[.int .i64 o.kind,.int .i64 o.now,.int .i64 o.own.frm,.int .i64 o.own.id,.string o.own.path,.int .i64 o.own.mode,v,.int .i64 o.own.term,.int .i64 o.own.sent,.int .i64 o.own.expiry,.bool o.own.recd,.int .i64 o.id,.int .i64 o.holder,.string o.path,.int .i64 o.mode,.int .i64 o.t,.int .i64 o.k,.bool o.fresh,.int .i64 o.origin,.int .i64 o.number]
def inO (o:OpG):Prop:=(i64w o.kind∧i64w o.now∧i64w o.id∧i64w o.holder∧i64w o.mode∧i64w o.t∧i64w o.k∧i64w o.origin∧i64w o.number)∧inW o.own∧o.path.size≤9223372036854775806
theorem cells_op:Tryz.prog.cellsOf 33=20:=by kernel_rfl
theorem op_fields:∃ f0 f1 f2 f3 f4 f5 f6 f7 f8 f9 f10 f11,Tryz.prog.underlying 33=some (.struct #[f0,f1,f2,f3,f4,f5,f6,f7,f8,f9,f10,f11])∧(f0.type=3∧f0.offset=0)∧(f1.type=3∧f1.offset=1)∧(f2.type=25∧f2.offset=2)∧(f3.type=3∧f3.offset=11)∧(f4.type=3∧f4.offset=12)∧(f5.type=9∧f5.offset=13)∧(f6.type=22∧f6.offset=14)∧(f7.type=3∧f7.offset=15)∧(f8.type=3∧f8.offset=16)∧(f9.type=4∧f9.offset=17)∧(f10.type=3∧f10.offset=18)∧(f11.type=3∧f11.offset=19) :=
 ⟨_,_,_,_,_,_,_,_,_,_,_,_,Tryz.underlying33,⟨rfl,rfl⟩,⟨rfl,rfl⟩,⟨rfl,rfl⟩,⟨rfl,rfl⟩,⟨rfl,rfl⟩,⟨rfl,rfl⟩,⟨rfl,rfl⟩,⟨rfl,rfl⟩,⟨rfl,rfl⟩,⟨rfl,rfl⟩,⟨rfl,rfl⟩,⟨rfl,rfl⟩⟩
theorem trod_op {H:Type} {enc:TypeId × Value→H} {W:World} {base:Nat} {held:Bool} {fuel:Nat} {cs:List Value} {x:DataW H × List MemPlace}
 (h:DataW.trod enc Tryz.prog W base (fun _=>true) held fuel 33 cs=some x) (hw:∀ n,n∈x.1.weights Tryz.prog 33→n≤reachBytes) :
 ∃ (o:OpG) (q:Option Addr) (c:Nat),cs=opCells o (.slice q o.own.stamp.length c)∧RdN W (.slice q o.own.stamp.length c) o.own.stamp∧inO o:=by
 obtain ⟨f0,f1,f2,f3,f4,f5,f6,f7,f8,f9,f10,f11,hs,⟨t0,o0⟩,⟨t1,o1⟩,⟨t2,o2⟩,⟨t3,o3⟩,⟨t4,o4⟩,⟨t5,o5⟩,⟨t6,o6⟩,⟨t7,o7⟩,⟨t8,o8⟩,⟨t9,o9⟩,⟨t10,o10⟩,⟨t11,o11⟩⟩:=op_fields
 obtain ⟨xs,n,_,rfl,hl,hxl,hf⟩:=DataW.trod_struct hs h
 rw [cells_op] at hl
 match cs,hl,xs,hxl with
 | [v0,v1,v2,v3,v4,v5,v6,v7,v8,v9,v10,v11,v12,v13,v14,v15,v16,v17,v18,v19],_,[y0,y1,y2,y3,y4,y5,y6,y7,y8,y9,y10,y11],_ =>
   have g0:=hf 0 f0 rfl
   have g1:=hf 1 f1 rfl
   have g2:=hf 2 f2 rfl
   have g3:=hf 3 f3 rfl
   have g4:=hf 4 f4 rfl
   have g5:=hf 5 f5 rfl
   have g6:=hf 6 f6 rfl
   have g7:=hf 7 f7 rfl
   have g8:=hf 8 f8 rfl
   have g9:=hf 9 f9 rfl
   have g10:=hf 10 f10 rfl
   have g11:=hf 11 f11 rfl
   simp [t0,o0,t1,o1,t2,o2,t3,o3,t4,o4,t5,o5,t6,o6,t7,o7,t8,o8,t9,o9,t10,o10,t11,o11,cells_int,cells_str,cells_mode,cells_bool,cells_lease] at g0 g1 g2 g3 g4 g5 g6 g7 g8 g9 g10 g11
   obtain ⟨a0,ha0,_,w0⟩:=DataW.trod_int Tryz.underlying3 g0
   obtain ⟨a1,ha1,_,w1⟩:=DataW.trod_int Tryz.underlying3 g1
   obtain ⟨a3,ha3,_,w3⟩:=DataW.trod_int Tryz.underlying3 g3
   obtain ⟨a4,ha4,_,w4⟩:=DataW.trod_int Tryz.underlying3 g4
   obtain ⟨a5,ha5,hx5,w5⟩:=DataW.trod_string Tryz.underlying9 g5
   have hlen5:a5.size≤reachBytes:=by
    have:=hw a5.data.toList.length (by
     simp only [DataW.weights,hs,List.map_cons,List.map_nil,DataW.weightsEach,List.mem_append]
     have e:y5.1=.lit (.string a5.data.toList):=congrArg Prod.fst hx5
     rw [e,t5]
     exact .inr (.inr (.inr (.inr (.inr (.inl (by simp [DataW.weights])))))))
    simpa using this
   obtain ⟨a6,ha6,_,w6⟩:=DataW.trod_int Tryz.underlying22 g6
   obtain ⟨a7,ha7,_,w7⟩:=DataW.trod_int Tryz.underlying3 g7
   obtain ⟨a8,ha8,_,w8⟩:=DataW.trod_int Tryz.underlying3 g8
   obtain ⟨a9,ha9,_⟩:=DataW.trod_bool Tryz.underlying4 g9
   obtain ⟨a10,ha10,_,w10⟩:=DataW.trod_int Tryz.underlying3 g10
   obtain ⟨a11,ha11,_,w11⟩:=DataW.trod_int Tryz.underlying3 g11
   obtain ⟨y,q,c,hy,hr,hi⟩:=trod_lease g2 (fun n hn=>hw n (by
    simp only [DataW.weights,hs,List.map_cons,List.map_nil,DataW.weightsEach,t2,List.mem_append]
    exact .inr (.inr (.inl hn))))
   simp at ha0 ha1 ha3 ha4 ha5 ha6 ha7 ha8 ha9 ha10 ha11
   simp only [cellsL,List.cons.injEq,and_true] at hy
   obtain ⟨e0,e1,e2,e3,e4,e5,e6,e7,e8⟩:=hy
   unfold reachBytes at hlen5
   clear w5 hx5
   exact ⟨⟨a0,a1,y,a3,a4,a5,a6,a7,a8,a9,a10,a11⟩,q,c,by rw [ha0,ha1,ha3,ha4,ha5,ha6,ha7,ha8,ha9,ha10,ha11,e0,e1,e2,e3,e4,e5,e6,e7,e8];rfl,hr,⟨w0,w1,w3,w4,w6,w7,w8,w10,w11⟩,hi,by simp only;omega⟩
def RdOp (w:World) (v:Value) (l:List OpG):Prop :=
 l.length≤maxLen∧((∃ p c,v=.slice p 0 c∧l=[])∨∃ b off cap,v=.slice (some ⟨b,off,none⟩) l.length cap∧b<w.heap.size ∧
  ∀ i,i<l.length→∃ q c,(∀ j,j<20→w.cell? ⟨b,off+i * 20+j,none⟩=(opCells (l.getD i default) (.slice q (l.getD i default).own.stamp.length c))[j]?)∧RdN w (.slice q (l.getD i default).own.stamp.length c) (l.getD i default).own.stamp∧inO (l.getD i default))
theorem RdOp.same {w w':World} {v:Value} {l:List OpG} (h:RdOp w v l) (m:Mod [] w w'):RdOp w' v l:=by
 refine ⟨h.1,h.2.imp id ?_⟩
 rintro ⟨b,off,cap,rfl,hb,hc⟩
 refine ⟨b,off,cap,rfl,Nat.lt_of_lt_of_le hb m.size,fun i hi=>?_⟩
 obtain ⟨q,c,h1,h2,h3⟩:=hc i hi
 exact ⟨q,c,fun j hj=>(m.cell (x:=⟨b,off+i * 20+j,none⟩) hb (by simp)).trans (h1 j hj),h2.mod m (by simp),h3⟩
theorem RdOp.len {w:World} {v:Value} {l:List OpG} (h:RdOp w v l):∃ p c,v=.slice p l.length c:=by
 rcases h.2 with ⟨p,c,rfl,rfl⟩ | ⟨b,off,cap,rfl,_⟩
 · exact ⟨p,c,rfl⟩
 · exact ⟨_,cap,rfl⟩
theorem RdOp.at_ {w:World} {p:Option Addr} {n c:Nat} {l:List OpG} (h:RdOp w (.slice p n c) l) (i:Nat) (hi:i<l.length) :
 ∃ b off q c',p=some ⟨b,off,none⟩∧b<w.heap.size∧(∀ j,j<20→w.cell? ⟨b,off+i * 20+j,none⟩=(opCells (l.getD i default) (.slice q (l.getD i default).own.stamp.length c'))[j]?)∧RdN w (.slice q (l.getD i default).own.stamp.length c') (l.getD i default).own.stamp∧inO (l.getD i default):=by
 rcases h.2 with ⟨_,c,_,rfl⟩ | ⟨b,off,cap,hv,hb,hc⟩
 · simp at hi
 · simp only [Value.slice.injEq] at hv
   obtain ⟨q,c',h1,h2,h3⟩:=hc i hi
   exact ⟨b,off,q,c',hv.1,hb,h1,h2,h3⟩
theorem trod_ops {H:Type} {enc:TypeId × Value→H} {W:World} {base:Nat} {held:Bool} {fuel:Nat} {cs:List Value} {x:DataW H × List MemPlace}
 (h:DataW.trod enc Tryz.prog W base (fun _=>true) held fuel 58 cs=some x) (hw:∀ n,n∈x.1.weights Tryz.prog 58→n≤reachBytes):∃ p n c l,cs=[.slice p n c]∧RdOp W (.slice p n c) l:=by
 rcases open_slice Tryz.underlying58 h with ⟨rfl,_⟩ | ⟨a,len,cap,m,n,D,Pl,rfl,_,hl,hm,hmm,rfl,hx⟩
 · exact ⟨none,0,0,[],rfl,by simp,.inl ⟨none,0,rfl,rfl⟩⟩
 · simp only [if_true] at hmm
   subst hmm
   by_cases h0:len=0
   · subst h0
     exact ⟨_,_,_,[],rfl,by simp,.inl ⟨_,_,rfl,rfl⟩⟩
   · have each:∀ i,i<len→∃ y:OpG × Option Addr × Nat,(∀ j,j<20→W.cell? (a.add (i * 20+j))=(opCells y.1 (.slice y.2.1 y.1.own.stamp.length y.2.2))[j]?)∧RdN W (.slice y.2.1 y.1.own.stamp.length y.2.2) y.1.own.stamp∧inO y.1:=by
      intro i hi
      obtain ⟨cs',h1,h2⟩:=hx i (by omega)
      rw [cells_op] at h1
      obtain ⟨_,hlen,hcell⟩:=World.cells?_some h1
      obtain ⟨y,q,c,rfl,hr,hi'⟩:=trod_op h2 (fun n' hn'=>hw n' (by
       simp only [DataW.weights,Tryz.underlying58]
       refine List.mem_cons_of_mem _ (List.mem_append_left _ ?_)
       exact weightsAll_mem (List.mem_map.2 ⟨i,List.mem_range.2 hi,rfl⟩) hn'))
      refine ⟨(y,q,c),fun j hj=>?_,hr,hi'⟩
      have e0:=hcell j (by simpa [opCells] using hj)
      rw [add_add] at e0
      rw [e0]
     obtain ⟨f,hf'⟩:=choose_lt each
     obtain ⟨b,off,spot⟩:=a
     have hc00:W.cell? ((⟨b,off,spot⟩:Addr).add 0)=some (.int .i64 (f 0).1.kind):=by
      have:=(hf' 0 (by omega)).1 0 (by omega)
      simpa [opCells] using this
     have hsp:spot=none:=by
      cases spot with
      | none=>rfl
      | some s =>
        exfalso
        revert hc00
        simp only [Addr.add]
        unfold World.cell?
        split <;> simp
     subst hsp
     have hlenr:((List.range len).map fun i=>(f i).1).length=len:=by simp
     refine ⟨_,_,_,(List.range len).map fun i=>(f i).1,rfl,by rw [hlenr];omega,.inr ⟨b,off,_,by rw [hlenr],?_,fun i hi=>?_⟩⟩
     · rw [Addr.add_lit] at hc00
       exact World.block_lt_of_cell? W _ hc00
     · rw [hlenr] at hi
       obtain ⟨q0,q1,q2⟩:=hf' i hi
       have eg:((List.range len).map fun i=>(f i).1).getD i default=(f i).1:=by simp [hi]
       rw [eg]
       refine ⟨(f i).2.1,(f i).2.2,fun j hj=>?_,q1,q2⟩
       have:=q0 j hj
       rw [Addr.add_lit,← Nat.add_assoc] at this
       exact this
theorem weights_cons {H:Type} {P:Program} {t:TypeId} {ts:List TypeId} {d:DataW H} {ds:List (DataW H)} (h:(DataW.weightsEach P (t::ts) (d::ds)).all (·≤reachBytes)=true) :
 (∀ n,n∈d.weights P t→n≤reachBytes)∧(DataW.weightsEach P ts ds).all (·≤reachBytes)=true:=by
 simp only [DataW.weightsEach,List.all_append,Bool.and_eq_true] at h
 exact ⟨fun n hn=>by have:=List.all_eq_true.1 h.1 n hn;simpa using this,h.2⟩
theorem open_ops {H:Type} {enc:TypeId × Value→H} {W:World} {v:Value} {d:DataW H} {p:List MemPlace} {base:Nat}
 (hv:Value.okWide Tryz.prog W .any base 58 v) (h:DataW.Trod enc Tryz.prog W 0 (fun _=>true) true 58 v d p) (hw:∀ n,n∈d.weights Tryz.prog 58→n≤reachBytes):∃ l,RdOp W v l:=by
 obtain ⟨a0,len,cap,rfl⟩:=okWide_slice Tryz.underlying58 hv
 obtain ⟨fuel,hf⟩:=h
 obtain ⟨p',n',c',l,hcs,hl⟩:=trod_ops hf hw
 simp [Value.cells] at hcs
 obtain ⟨rfl,rfl,rfl⟩:=hcs
 exact ⟨l,hl⟩
theorem open_op {H:Type} {enc:TypeId × Value→H} {W:World} {v:Value} {d:DataW H} {p:List MemPlace} {base:Nat}
 (hv:Value.okWide Tryz.prog W .any base 33 v) (h:DataW.Trod enc Tryz.prog W 0 (fun _=>true) true 33 v d p) (hw:∀ n,n∈d.weights Tryz.prog 33→n≤reachBytes) :
 ∃ o q c,v=.agg (opCells o (.slice q o.own.stamp.length c)).toArray∧RdN W (.slice q o.own.stamp.length c) o.own.stamp∧inO o:=by
 obtain ⟨f0,f1,f2,f3,f4,f5,f6,f7,f8,f9,f10,f11,hs,_⟩:=op_fields
 obtain ⟨cs,rfl,hsz⟩:=okWide_struct hs hv
 obtain ⟨fuel,hf⟩:=h
 obtain ⟨o,q,c,hcs,hr,hi⟩:=trod_op hf hw
 simp only [Value.cells] at hcs
 refine ⟨o,q,c,?_,hr,hi⟩
 congr 1
 exact Array.toList_inj.1 hcs
end Go.Proofs.YtllljngpgjkdiaaGreatDoor
/-
  WALKS: the laws of layer 16: played.
-/
namespace Go.Proofs.YtllljngpgjkdiaaGreatDoor
set_option maxRecDepth 100000
set_option maxHeartbeats 4000000
open Go.RowKit Go.Maps

theorem res_tct {P:Program} {fn:Func} {p q u:Tmp} {ty:TypeId} (h:fn.results=#[.tmp p,.cell q ty,.tmp u]) (tmps:Array Value) (w:World) {r:Nat} {cs:Array Value} {T:TypeId} (hp:tmps.getD q undef=.pointer (some ⟨r,0,none⟩))
 (hb:w.heap[r]?=some (.cells cs T (0,0))) (aE:∀ w,(isAgg ty).run P w=.ok true w) (zE:∀ w,(Go.sizeOf ty).run P w=.ok cs.size w) {e:Value} (he:e=.tuple #[tmps.getD p undef,.agg cs,tmps.getD u undef]):(results fn tmps).run P w=.ok e w:=by
 subst he
 have e1:(asAddr (.pointer (some ⟨r,0,none⟩))).run P w=.ok ⟨r,0,none⟩ w:=rfl
 have e2:(loadVar ty ⟨r,0,none⟩).run P w=.ok (.agg cs) w:=by
  have e3:=run_loadCells_list (P:=P) (w:=w) ⟨r,0,none⟩ cs.toList (fun i v hi=>by
   rw [Addr.add_lit,Nat.zero_add,blk_cell hb];simpa using hi)
  rw [Array.length_toList] at e3
  unfold loadVar
  simp only [Sem.run_bind,aE,Result.andThen,if_true,zE]
  simp [e3]
 have e0:(results fn tmps).run P w=((asAddr (tmps.getD q undef)).run P w).andThen fun a w₁=>((loadVar ty a).run P w₁).andThen fun v w₂=>.ok (.tuple #[tmps.getD p undef,v,tmps.getD u undef]) w₂:=by
  simp only [results,h]
  simp [Sem.run_bind,Result.andThen]
 rw [e0,hp,e1]
 simp only [Result.andThen]
 rw [e2]
section
variable {d d':Dk} {g g':Gtr} {o:OpG} {x:Grt} {e:Int}
theorem pl_renew (h:o.kind=1) (hp:renewG d g o.now o.own o.id o.holder o.t o.fresh=(x,e,d',g')):playG d g o=(d',g',x,e):=by unfold playG;rw [if_pos h,hp]
theorem pl_end (h:o.kind=2) {t:Bool} (hp:endG d g o.id o.holder=(t,e,d',g')):playG d g o=(d',g',Grt.zero,e):=by unfold playG;rw [if_neg (by rw [h];decide),if_pos h,hp]
theorem pl_mark (h:o.kind=3) {t:Bool} (hp:markG g o.id o.origin o.number=(t,g')):playG d g o=(d,g',Grt.zero,0):=by unfold playG;rw [if_neg (by rw [h];decide),if_neg (by rw [h];decide),if_pos h,hp]
theorem pl_done (h:o.kind=4) {t:Bool} (hp:doneG d g o.id o.holder o.origin o.number=(t,e,d',g')):playG d g o=(d',g',Grt.zero,e):=by unfold playG;rw [if_neg (by rw [h];decide),if_neg (by rw [h];decide),if_neg (by rw [h];decide),if_pos h,hp]
theorem pl_arm (h:o.kind=7):playG d g o=(armD d o.k,g,Grt.zero,0):=by unfold playG;rw [if_neg (by rw [h];decide),if_neg (by rw [h];decide),if_neg (by rw [h];decide),if_neg (by rw [h];decide),if_pos h]
theorem pl_on (h:o.kind=8) (hp:reopG d g o.now=(d',g')):playG d g o=(d',g',Grt.zero,0):=by unfold playG;rw [if_neg (by rw [h];decide),if_neg (by rw [h];decide),if_neg (by rw [h];decide),if_neg (by rw [h];decide),if_neg (by rw [h];decide),if_pos h,hp]
theorem pl_grant (h:o.kind≠1∧o.kind≠2∧o.kind≠3∧o.kind≠4∧o.kind≠7∧o.kind≠8) (hp:grantG d g o.req=(x,e,d',g')):playG d g o=(d',g',x,e):=by
 obtain ⟨h1,h2,h3,h4,h5,h6⟩:=h
 unfold playG
 rw [if_neg h1,if_neg h2,if_neg h3,if_neg h4,if_neg h5,if_neg h6,hp]
end
theorem GS.box {w0 w w':World} {pg:Nat} {b:GB} {d:Dk} {g:Gtr} (s:GS w0 w pg b d g) {S:List Nat} (m:Mod S w w') (hS:∀ k,k∈S→w0.heap.size≤k∧k ∉ b.all pg):GS w0 w' pg b d g :=
 ⟨s.gm.other m (fun k hk e=>(hS k e).2 hk),s.lo,mod_fresh s.md m (fun k hk=>(hS k hk).1),s.gi,s.n49⟩
def PlTo (w0 w:World) (pg:Nat) (b:GB) (R:Dk × Gtr × Grt × Int) (e:Ending) (w':World):Prop :=
 ∃ pg' b' q c,e=.returned (.tuple #[.pointer (some ⟨pg',0,none⟩),aggG R.2.2.1 (.slice q R.2.2.1.stamp.length c),.int .i64 R.2.2.2])∧GS w0 w' pg' b' R.1 R.2.1∧GTx w pg b w' pg' b'∧RdN w' (.slice q R.2.2.1.stamp.length c) R.2.2.1.stamp∧R.2.2.1.stamp.length≤c
def PlMid (w0 w:World) (pg:Nat) (b:GB) (b7 b9:Nat) (R:Dk × Gtr × Grt × Int) (s1 s10:Value) (wx:World):Prop :=
 ∃ pg' b' q c,s1=.pointer (some ⟨pg',0,none⟩)∧s10=.int .i64 R.2.2.2∧GS w0 wx pg' b' R.1 R.2.1∧GTx w pg b wx pg' b'∧Asd wx pg' b' b7∧wx.heap[b7]?=some (.cells #[.int .i64 0,.int .i64 0,.string ⟨#[]⟩,.int .i64 0,.slice none 0 0,.int .i64 0] 35 (0,0)) ∧
   wx.heap[b9]?=some (.cells #[.int .i64 R.2.2.1.id,.int .i64 R.2.2.1.holder,.string R.2.2.1.path,.int .i64 R.2.2.1.mode,.slice q R.2.2.1.stamp.length c,.int .i64 R.2.2.1.term] 35 (0,0))∧RdN wx (.slice q R.2.2.1.stamp.length c) R.2.2.1.stamp∧(∀ k,k∈ob (.slice q R.2.2.1.stamp.length c)→k≠b7)∧R.2.2.1.stamp.length≤c
theorem row_cap {w:World} {base sz n c:Nat} {T:TypeId} {q:Option Addr} {vs:List Value} (h:w.ownsRow base T sz (.slice q n c) n vs):n≤c:=by
 rcases h.2 with ⟨hv,hn⟩ | ⟨_,_,_,hv,_,_,hh1,hh2,_⟩
 · omega
 · simp only [Value.slice.injEq] at hv
   omega
theorem pl_box {w0 w W3 w5 w7 W8:World} {pg:Nat} {b b':GB} {b7 b9:Nat} {x:Grt} {e:Int} {d':Dk} {g':Gtr} {q:Option Addr} {c:Nat} (m3:Mod [] w W3) (h7:W3.heap[b7]?=some (.cells #[.int .i64 0,.int .i64 0,.string ⟨#[]⟩,.int .i64 0,.slice none 0 0,.int .i64 0] 35 (0,0)))
 (h9:W3.heap[b9]?=some (.cells #[.int .i64 0,.int .i64 0,.string ⟨#[]⟩,.int .i64 0,.slice none 0 0,.int .i64 0] 35 (0,0))) (hw0:w0.heap.size≤b9) (hw9:w.heap.size≤b9) (a7:Asd W3 pg b b7) (a9:Asd W3 pg b b9) (h79:b7≠b9) (m35:Mod [] W3 w5)
 (s:GS w0 w7 pg b' d' g') (t:GTo w5 pg b w7 b') (ho:w7.ownsRow w5.heap.size 3 1 (.slice q x.stamp.length c) x.stamp.length (x.stamp.map (Value.int .i64))) (hW:W8=stL w7 b9 0 [.int .i64 x.id,.int .i64 x.holder,.string x.path,.int .i64 x.mode,.slice q x.stamp.length c,.int .i64 x.term]) :
 PlMid w0 w pg b b7 b9 (d',g',x,e) (.pointer (some ⟨pg,0,none⟩)) (.int .i64 e) W8:=by
 have t3:GTo W3 pg b w7 b':=(GTo.quiet m35).trans t
 have k9:=t3.mod.at_ h9 a9.2
 have k7:=t3.mod.at_ h7 a7.2
 have n9:=(Asd.to a9 t3).2
 have m8:Mod [b9] w7 W8:=by rw [hW];exact stL_mod (fun _=>by simp) _ 0 w7 (Mod.refl _ _)
 have z:=stL_all k9 [.int .i64 x.id,.int .i64 x.holder,.string x.path,.int .i64 x.mode,.slice q x.stamp.length c,.int .i64 x.term] rfl
 rw [← hW] at z
 have s8:=s.box m8 (fun k hk=>by simp at hk;rw [hk];exact ⟨hw0,n9⟩)
 have a7':=Asd.to a7 t3
 refine ⟨pg,b',q,c,rfl,rfl,s8,⟨(m3.mono (by simp)).trans (t3.mod.trans m8 (T:=[b9]) (U:=b9::b.all pg) (fun _ h _=>List.mem_cons_of_mem _ h) (fun k hk _=>by simp at hk;rw [hk];simp)) (fun _ h _=>h) (fun k hk hlt=>?_),fun k hk=>?_,t3.dk.1⟩,⟨Nat.lt_of_lt_of_le a7'.1 m8.size,a7'.2⟩,m8.at_ k7 (by simpa using h79),z,(rdN_of_row ho).mod m8 (fun k hk e=>?_),fun k hk=>?_,row_cap ho⟩
 · rcases List.mem_cons.1 hk with e | e
   · omega
   · exact e
 · rcases t3.own k hk with e | e
   · exact .inl e
   · have:=m3.size;exact .inr (by omega)
 · have h1:=(ob_of_row ho k hk).1
   have h2:=a9.1
   have h3:=m35.size
   simp at e
   omega
 · have h1:=(ob_of_row ho k hk).1
   have h2:=a7.1
   have h3:=m35.size
   omega
theorem pl_none {w0 w W3 wx:World} {pg pg':Nat} {b b':GB} {b7 b9:Nat} {e:Int} {d':Dk} {g':Gtr} (m3:Mod [] w W3) (h7:W3.heap[b7]?=some (.cells #[.int .i64 0,.int .i64 0,.string ⟨#[]⟩,.int .i64 0,.slice none 0 0,.int .i64 0] 35 (0,0)))
 (h9:W3.heap[b9]?=some (.cells #[.int .i64 0,.int .i64 0,.string ⟨#[]⟩,.int .i64 0,.slice none 0 0,.int .i64 0] 35 (0,0))) (a7:Asd W3 pg b b7) (a9:Asd W3 pg b b9) (s:GS w0 wx pg' b' d' g') (t:GTx W3 pg b wx pg' b') :
 PlMid w0 w pg b b7 b9 (d',g',Grt.zero,e) (.pointer (some ⟨pg',0,none⟩)) (.int .i64 e) wx :=
 ⟨pg',b',none,0,rfl,rfl,s,(GTx.quiet m3).trans t,t.asd a7,t.blk a7 h7,t.blk a9 h9,rdN_nil _,by simp [ob,Value.ownBlock],Nat.le_refl _⟩
theorem played_any {w0 w:World} {pg k:Nat} {b:GB} {d:Dk} {g:Gtr} {o:OpG} {q:Option Addr} {c:Nat} (s:GS w0 w pg b d g) (hn:Rn k d g) (hr:RdN w (.slice q o.own.stamp.length c) o.own.stamp) (hi:inO o) :
 Calls Tryz.prog 26 #[.pointer (some ⟨b.pd,0,none⟩),.pointer (some ⟨pg,0,none⟩),.agg (opCells o (.slice q o.own.stamp.length c)).toArray] w fun e w'=>PlTo w0 w pg b (playG d g o) e w':=by
 obtain ⟨R,hR⟩:∃ R,playG d g o=R:=⟨_,rfl⟩
 rw [hR]
 obtain ⟨⟨-,-,-,-,-,-,hk7,-,-⟩,⟨-,hlp,hls⟩,hop⟩:=hi
 have hk7':=(i64w_iff.1 hk7).2
 obtain ⟨kd,nw,⟨lf,li,lp,lm,la,lt,ls,le,lr⟩,oi,oh,op,om,ot,ok,ofr,oo,on⟩:=o
 simp only at hlp hls hop hr hk7'
 obtain ⟨n,hna⟩:∃ n,la.length=n:=⟨_,rfl⟩
 have how:=fun {W:World} (h:RdN W (.slice q la.length c) la)=>own_any (w:=W) (l:=⟨lf,li,lp,lm,la,lt,ls,le,lr⟩) (q:=q) (c:=c) h hls
 unfold opCells aggL cellsL at *
 unfold OwnTo aggL cellsL at how
 simp only at how ⊢
 rw [hna] at how hr ⊢
 obtain ⟨W3,hW3⟩:∃ W3,W3=((w.alloc (.cells #[.int .i64 kd,.int .i64 nw,.int .i64 lf,.int .i64 li,.string lp,.int .i64 lm,.slice q n c,.int .i64 lt,.int .i64 ls,.int .i64 le,.bool lr,.int .i64 oi,.int .i64 oh,.string op,.int .i64 om,.int .i64 ot,.int .i64 ok,.bool ofr,.int .i64 oo,.int .i64 on] 33 (0,0))).alloc (.cells #[.int .i64 0,.int .i64 0,.string ⟨#[]⟩,.int .i64 0,.slice none 0 0,.int .i64 0] 35 (0,0))).alloc (.cells #[.int .i64 0,.int .i64 0,.string ⟨#[]⟩,.int .i64 0,.slice none 0 0,.int .i64 0] 35 (0,0)):=⟨_,rfl⟩
 have m3:Mod [] w W3:=by rw [hW3];exact (((Mod.refl _ _).alloc _).alloc _).alloc _
 have h5:W3.heap[w.heap.size]?=some (.cells #[.int .i64 kd,.int .i64 nw,.int .i64 lf,.int .i64 li,.string lp,.int .i64 lm,.slice q n c,.int .i64 lt,.int .i64 ls,.int .i64 le,.bool lr,.int .i64 oi,.int .i64 oh,.string op,.int .i64 om,.int .i64 ot,.int .i64 ok,.bool ofr,.int .i64 oo,.int .i64 on] 33 (0,0)):=by rw [hW3];exact blk_alloc (blk_alloc (heap_alloc_new w _) _) _
 have h7:W3.heap[w.heap.size+1]?=some (.cells #[.int .i64 0,.int .i64 0,.string ⟨#[]⟩,.int .i64 0,.slice none 0 0,.int .i64 0] 35 (0,0)):=by
  rw [hW3,← World.size_alloc w (.cells #[.int .i64 kd,.int .i64 nw,.int .i64 lf,.int .i64 li,.string lp,.int .i64 lm,.slice q n c,.int .i64 lt,.int .i64 ls,.int .i64 le,.bool lr,.int .i64 oi,.int .i64 oh,.string op,.int .i64 om,.int .i64 ot,.int .i64 ok,.bool ofr,.int .i64 oo,.int .i64 on] 33 (0,0))]
  exact blk_alloc (heap_alloc_new _ _) _
 have h9:W3.heap[w.heap.size+1+1]?=some (.cells #[.int .i64 0,.int .i64 0,.string ⟨#[]⟩,.int .i64 0,.slice none 0 0,.int .i64 0] 35 (0,0)):=by
  rw [hW3,← World.size_alloc w (.cells #[.int .i64 kd,.int .i64 nw,.int .i64 lf,.int .i64 li,.string lp,.int .i64 lm,.slice q n c,.int .i64 lt,.int .i64 ls,.int .i64 le,.bool lr,.int .i64 oi,.int .i64 oh,.string op,.int .i64 om,.int .i64 ot,.int .i64 ok,.bool ofr,.int .i64 oo,.int .i64 on] 33 (0,0)),← World.size_alloc (w.alloc _) (.cells #[.int .i64 0,.int .i64 0,.string ⟨#[]⟩,.int .i64 0,.slice none 0 0,.int .i64 0] 35 (0,0))]
  exact heap_alloc_new _ _
 have a5:=s.asd m3 (Nat.le_refl _) (lt_of_block h5)
 have a7:=s.asd m3 (by omega) (lt_of_block h7)
 have a9:=s.asd m3 (by omega) (lt_of_block h9)
 have hz0:=s.md.size
 have s3:=s.quiet m3
 have hr3:=hr.mod m3 (by simp)
 have HB:=hd7 m3 h5 h7 h9 a5 a7 a9
 have HS:=hd4 s3 hr3 hn hR
 have hC5:∀ W,Mod (b.all pg) W3 W→∀ i,W.cell? ⟨w.heap.size,i,none⟩=_:=fun W m=>blk_cell (m.at_ h5 a5.2)
 have HC:=hide hC5
 have C5:=blk_cell h5
 have L5:=lt_of_block h5
 clear s hr hk7 m3 h5 h7 h9 a5 a7 a9 s3 hr3 hn hR hC5
 go_enter Tryz.func26,Tryz.ntmps26
 go_upto_block 0 with fail
 rw [← hW3]
 clear hW3
 go_cut [1,10] (fun s1 s10 wx=>PlMid w0 w pg b (w.heap.size+1) (w.heap.size+1+1) R s1 s10 wx)
 case first =>
  by_cases k1:kd=1
  · subst k1
    obtain ⟨P,hP⟩:∃ P,renewG d g nw ⟨lf,li,lp,lm,la,lt,ls,le,lr⟩ oi oh ot ofr=P:=⟨_,rfl⟩
    obtain ⟨⟨xi,xh,xp,xm,xs,xt⟩,xe,d',g'⟩:=P
    obtain rfl:R=(d',g',⟨xi,xh,xp,xm,xs,xt⟩,xe):=HS.out.2.2.2.symm.trans (pl_renew rfl hP)
    have hcall:=fun {W:World} {q':Option Addr} {c':Nat} (s:GS w0 W pg b d g) h1 h2=>renew_eq (now:=nw) (id:=oi) (holder:=oh) (t:=ot) (own:=⟨lf,li,lp,lm,la,lt,ls,le,lr⟩) (fresh:=ofr) (q:=q') (c:=c') s h1 h2 (by simp only;omega)
    unfold aggL cellsL at hcall
    rw [hP] at hcall
    simp only at hcall
    rw [hna] at hcall
    clear hP
    go_upto_region 6 with fail
    refine pB 18 (fun w'=>Mod (b.all pg) W3 w') ((Mod.refl _ _).drew) ?_
    refine pP 0 ?_;refine pP 1 ?_;refine pP 3 ?_;refine pP 6 ?_;refine pP 8 ?_;refine pP 10 ?_;refine pP 12 ?_
    refine pT 2 rfl [14,15,16,18] (fun w' h=>by have D:=HC.out _ h;go_simp;try with_reducible rfl) ?_
    refine pT 4 rfl [5,14,15,16,18] (fun w' h=>by have D:=HC.out _ h;go_simp;try with_reducible rfl) ?_
    refine pT 7 rfl [14,15,16,18] (fun w' h=>by have D:=HC.out _ h;go_simp;try with_reducible rfl) ?_
    refine pT 9 rfl [14,15,16,18] (fun w' h=>by have D:=HC.out _ h;go_simp;try with_reducible rfl) ?_
    refine pT 11 rfl [14,15,16,18] (fun w' h=>by have D:=HC.out _ h;go_simp;try with_reducible rfl) ?_
    refine pT 13 rfl [14,15,16,18] (fun w' h=>by have D:=HC.out _ h;go_simp;try with_reducible rfl) ?_
    refine pX 5 fun hT K HK=>?_
    go_simp
    refine (how (HS.out.2.1.mod ((Mod.refl [] W3).drew) (by simp))).mono ?_
    rintro e w5 ⟨q5,c5,rfl,hr5,ho5,m5⟩
    have hap:∀ k,k∈ob (.slice q5 n c5)→k ∉ b.all pg:=fun k hk e=>by have h1:=HS.out.1.gm.lt k e;have h2:=(ho5 k hk).1;simp at h2;omega
    have m35:Mod [] W3 w5:=((Mod.refl [] W3).drew).then m5
    have H5:=hd4 (HS.out.1.quiet m35) hr5 hap m35
    refine HK.out _ _ _ (m35.mono (by simp)) ?_
    clear HK K hT hr5 ho5 m5 hap m35 how
    refine pX 14 fun hT K HK=>?_
    go_simp
    refine (hcall H5.out.1 H5.out.2.1 H5.out.2.2.1).mono ?_
    rintro e w7 ⟨q7,c7,b7,rfl,s7,t7,ro7,-⟩
    unfold aggG cellsG
    dsimp only
    have m37:Mod (b.all pg) W3 w7:=hT.then t7.mod
    have H7:=hd3 s7 t7 ro7
    refine HK.out _ _ _ m37 ?_
    clear HK K hT s7 t7 ro7 m37 hcall
    refine pP 15 ?_;refine pP 16 ?_;refine pP 17 ?_
    refine pY 18 fun hT K HK=>?_
    have k9:=hT.at_ HB.out.2.2.2.1 HB.out.2.2.2.2.2.2.2
    have D9:=blk_cell k9
    have F9:=blk_free k9
    have L9:=lt_of_block k9
    clear k9 hT C5 L5
    go_simp
    obtain ⟨W8,hW8⟩:∃ W8,W8=stL w7 (w.heap.size+1+1) 0 [.int .i64 xi,.int .i64 xh,.string xp,.int .i64 xm,.slice q7 xs.length c7,.int .i64 xt]:=⟨_,rfl⟩
    have HW8:=hide hW8
    unfold stL stL stL stL stL stL stL at hW8
    rw [← hW8]
    refine HK.out _ _ _ ?_
    clear HK K D9 F9 L9 hW8
    refine pP 19 ?_
    refine pD ?_
    go_wp2_with fail
    go_meet
    case rel=>exact pl_box (x:=⟨xi,xh,xp,xm,xs,xt⟩) HB.out.1 HB.out.2.2.1 HB.out.2.2.2.1 (by omega) (by omega) HB.out.2.2.2.2.2.1 HB.out.2.2.2.2.2.2 (by omega) H5.out.2.2.2 H7.out.1 H7.out.2.1 H7.out.2.2 HW8.out
  have k1b:(kd==1)=false:=by simpa using k1
  by_cases k2:kd=2
  · subst k2
    clear how
    obtain ⟨⟨xb,xe,d',g'⟩,hP⟩:∃ P,endG d g oi oh=P:=⟨_,rfl⟩
    obtain rfl:R=(d',g',Grt.zero,xe):=HS.out.2.2.2.symm.trans (pl_end rfl hP)
    have hcall:=end_eq HS.out.1 oi oh
    unfold BvS at hcall
    rw [hP] at hcall
    go_wp2_with (go_at_call 16;refine hcall.mono ?_;rintro e w4 ⟨rfl,b4,s4,t4⟩;have H4:=hd2 s4 t4;clear s4 t4 C5 L5 hcall)
    go_meet
    case rel=>exact pl_none HB.out.1 HB.out.2.2.1 HB.out.2.2.2.1 HB.out.2.2.2.2.2.1 HB.out.2.2.2.2.2.2 H4.out.1 H4.out.2.x
  have k2b:(kd==2)=false:=by simpa using k2
  by_cases k3:kd=3
  · subst k3
    clear how k2b
    obtain ⟨⟨xb,g'⟩,hP⟩:∃ P,markG g oi oo on=P:=⟨_,rfl⟩
    obtain rfl:R=(d,g',Grt.zero,0):=HS.out.2.2.2.symm.trans (pl_mark rfl hP)
    have hcall:=mark_eq HS.out.1 oi oo on hP
    go_wp2_with (go_at_call 19;refine hcall.mono ?_;rintro e w4 ⟨rfl,b4,s4,t4⟩;have H4:=hd2 s4 t4;clear s4 t4 C5 L5 hcall)
    go_meet
    case rel=>exact pl_none HB.out.1 HB.out.2.2.1 HB.out.2.2.2.1 HB.out.2.2.2.2.2.1 HB.out.2.2.2.2.2.2 H4.out.1 H4.out.2.x
  have k3b:(kd==3)=false:=by simpa using k3
  by_cases k4:kd=4
  · subst k4
    clear how k2b k3b
    obtain ⟨⟨xb,xe,d',g'⟩,hP⟩:∃ P,doneG d g oi oh oo on=P:=⟨_,rfl⟩
    obtain rfl:R=(d',g',Grt.zero,xe):=HS.out.2.2.2.symm.trans (pl_done rfl hP)
    have hcall:=done_eq HS.out.1 oi oh oo on
    unfold BvS at hcall
    rw [hP] at hcall
    go_wp2_with (go_at_call 17;refine hcall.mono ?_;rintro e w4 ⟨rfl,b4,s4,t4⟩;have H4:=hd2 s4 t4;clear s4 t4 C5 L5 hcall)
    go_meet
    case rel=>exact pl_none HB.out.1 HB.out.2.2.1 HB.out.2.2.2.1 HB.out.2.2.2.2.2.1 HB.out.2.2.2.2.2.2 H4.out.1 H4.out.2.x
  have k4b:(kd==4)=false:=by simpa using k4
  by_cases k7:kd=7
  · subst k7
    clear how k2b k3b k4b
    obtain rfl:R=(armD d ok,g,Grt.zero,0):=HS.out.2.2.2.symm.trans (pl_arm rfl)
    have hcall:=arm_eq HS.out.1 ok hk7'
    go_wp2_with (go_at_call 30;refine hcall.mono ?_;rintro e w4 ⟨rfl,s4,t4⟩;have H4:=hd2 s4 t4;clear s4 t4 C5 L5 hcall)
    go_meet
    case rel=>exact pl_none HB.out.1 HB.out.2.2.1 HB.out.2.2.2.1 HB.out.2.2.2.2.2.1 HB.out.2.2.2.2.2.2 H4.out.1 H4.out.2.x
  have k7b:(kd==7)=false:=by simpa using k7
  by_cases k8:kd=8
  · subst k8
    clear how k2b k3b k4b k7b
    obtain ⟨l',o1,o2,o3,o4⟩:=reop_st HS.out.2.2.1.lg nw
    obtain rfl:R=(onD d,openG l' (clampN nw),Grt.zero,0):=HS.out.2.2.2.symm.trans (pl_on rfl o4)
    have htm:timeOk (clampN nw):=by unfold timeOk clampN;omega
    have hcl:min (max nw 0) 1152921504606846976=clampN nw:=rfl
    have HO:=hd3 o1 o3 htm
    have hcall:=on_eq HS.out.1
    clear o1 o2 o3 o4 htm
    go_wp2_with (first
     | (go_at_call 29;refine hcall.mono ?_;rintro e w4 ⟨rfl,s4,t4⟩;have H4:=hd2 s4 t4.x;have D5:=HC.out _ t4.mod;clear s4 t4 C5 L5 hcall)
     | (go_at_call 31;refine (ledopen_eq H4.out.1 HO.out.1).mono ?_;rintro e w5 ⟨pl,gv,lv,rfl,s5⟩;have H5:=hide s5;have C5:=HC.out _ (H4.out.2.mod.then s5.tw);clear s5)
     | (go_at_call 11;refine (gopen_eq H5.out HO.out.2.1.lok HO.out.2.1.n49 HO.out.2.2).mono ?_;rintro e w6 ⟨pg',b',rfl,s6,t6⟩;have H6:=hd2 s6 (H4.out.2.trans t6);clear s6 t6 C5)
     | fail)
    go_meet
    case rel=>exact pl_none HB.out.1 HB.out.2.2.1 HB.out.2.2.2.1 HB.out.2.2.2.2.2.1 HB.out.2.2.2.2.2.2 H6.out.1 H6.out.2
  have k8b:(kd==8)=false:=by simpa using k8
  · obtain ⟨P,hP⟩:∃ P,grantG d g ⟨nw,oh,ot,⟨lf,li,lp,lm,la,lt,ls,le,lr⟩,op,om⟩=P:=⟨_,rfl⟩
    obtain ⟨⟨xi,xh,xp,xm,xs,xt⟩,xe,d',g'⟩:=P
    obtain rfl:R=(d',g',⟨xi,xh,xp,xm,xs,xt⟩,xe):=HS.out.2.2.2.symm.trans (pl_grant ⟨k1,k2,k3,k4,k7,k8⟩ hP)
    have hcall:=fun {W:World} {q':Option Addr} {c':Nat} (s:GS w0 W pg b d g) h1 h2=>grant_eq (r:=⟨nw,oh,ot,⟨lf,li,lp,lm,la,lt,ls,le,lr⟩,op,om⟩) (q:=q') (c:=c') s h1 h2 (by simp only;omega) (by simp only;omega)
    unfold aggL cellsL at hcall
    rw [hP] at hcall
    simp only at hcall
    rw [hna] at hcall
    clear hP k1 k2 k3 k4 k7 k8
    go_upto_region 4 with fail
    refine pB 18 (fun w'=>Mod (b.all pg) W3 w') ((Mod.refl _ _).drew) ?_
    refine pP 0 ?_;refine pP 1 ?_;refine pP 3 ?_;refine pP 6 ?_;refine pP 8 ?_;refine pP 10 ?_;refine pP 12 ?_
    refine pT 2 rfl [14,15,16,18] (fun w' h=>by have D:=HC.out _ h;go_simp;try with_reducible rfl) ?_
    refine pT 4 rfl [5,14,15,16,18] (fun w' h=>by have D:=HC.out _ h;go_simp;try with_reducible rfl) ?_
    refine pT 7 rfl [14,15,16,18] (fun w' h=>by have D:=HC.out _ h;go_simp;try with_reducible rfl) ?_
    refine pT 9 rfl [14,15,16,18] (fun w' h=>by have D:=HC.out _ h;go_simp;try with_reducible rfl) ?_
    refine pT 11 rfl [14,15,16,18] (fun w' h=>by have D:=HC.out _ h;go_simp;try with_reducible rfl) ?_
    refine pT 13 rfl [14,15,16,18] (fun w' h=>by have D:=HC.out _ h;go_simp;try with_reducible rfl) ?_
    refine pX 5 fun hT K HK=>?_
    go_simp
    refine (how (HS.out.2.1.mod ((Mod.refl [] W3).drew) (by simp))).mono ?_
    rintro e w5 ⟨q5,c5,rfl,hr5,ho5,m5⟩
    have hap:∀ k,k∈ob (.slice q5 n c5)→k ∉ b.all pg:=fun k hk e=>by have h1:=HS.out.1.gm.lt k e;have h2:=(ho5 k hk).1;simp at h2;omega
    have m35:Mod [] W3 w5:=((Mod.refl [] W3).drew).then m5
    have H5:=hd4 (HS.out.1.quiet m35) hr5 hap m35
    refine HK.out _ _ _ (m35.mono (by simp)) ?_
    clear HK K hT hr5 ho5 m5 hap m35 how
    refine pX 14 fun hT K HK=>?_
    go_simp
    refine (hcall H5.out.1 H5.out.2.1 H5.out.2.2.1).mono ?_
    rintro e w7 ⟨q7,c7,b7,rfl,s7,t7,ro7,-⟩
    unfold aggG cellsG
    dsimp only
    have m37:Mod (b.all pg) W3 w7:=hT.then t7.mod
    have H7:=hd3 s7 t7 ro7
    refine HK.out _ _ _ m37 ?_
    clear HK K hT s7 t7 ro7 m37 hcall
    refine pP 15 ?_;refine pP 16 ?_;refine pP 17 ?_
    refine pY 18 fun hT K HK=>?_
    have k9:=hT.at_ HB.out.2.2.2.1 HB.out.2.2.2.2.2.2.2
    have D9:=blk_cell k9
    have F9:=blk_free k9
    have L9:=lt_of_block k9
    clear k9 hT C5 L5
    go_simp
    obtain ⟨W8,hW8⟩:∃ W8,W8=stL w7 (w.heap.size+1+1) 0 [.int .i64 xi,.int .i64 xh,.string xp,.int .i64 xm,.slice q7 xs.length c7,.int .i64 xt]:=⟨_,rfl⟩
    have HW8:=hide hW8
    unfold stL stL stL stL stL stL stL at hW8
    rw [← hW8]
    refine HK.out _ _ _ ?_
    clear HK K D9 F9 L9 hW8
    refine pP 19 ?_
    refine pD ?_
    go_wp2_with fail
    go_meet
    case rel=>exact pl_box (x:=⟨xi,xh,xp,xm,xs,xt⟩) HB.out.1 HB.out.2.2.1 HB.out.2.2.2.1 (by omega) (by omega) HB.out.2.2.2.2.2.1 HB.out.2.2.2.2.2.2 (by omega) H5.out.2.2.2 H7.out.1 H7.out.2.1 H7.out.2.2 HW8.out
 case rest =>
  obtain ⟨pg',b',q',c',rfl,rfl,s8,t8,a7,k7,k9,hrd,hne,hcp⟩:=hcut
  obtain ⟨X,rfl⟩:∃ x:World,x=wc:=⟨_,rfl⟩
  obtain ⟨d',g',⟨xi,xh,xp,xm,xs,xt⟩,xe⟩:=R
  dsimp only at s8 k9 hrd hcp ⊢
  obtain ⟨nx,hnx⟩:∃ n,xs.length=n:=⟨_,rfl⟩
  have HZ:=hd6 s8 t8 a7 k7 k9 hrd
  rw [hnx] at k9
  have HK9:=hide k9
  clear s8 t8 a7 k7 k9 how C5 L5
  go_upto_region 21 with fail
  refine pB 4 (fun w'=>Mod [] X w') ((Mod.refl _ _).drew) ?_
  obtain ⟨Y,hY⟩:∃ Y,Y=X.drew:=⟨_,rfl⟩
  rw [← hY]
  clear hY
  refine pP 0 ?_
  refine pT 1 rfl [4] (fun w' h=>by have D:=blk_cell (h.at_ HK9.out (by simp));go_simp;try with_reducible rfl) ?_
  refine pP 2 ?_;refine pP 3 ?_
  refine pY 4 fun hT K HK=>?_
  have k7:=hT.at_ HZ.out.2.2.2.1 (by simp)
  have D7:=blk_cell k7
  have F7:=blk_free k7
  have L7:=lt_of_block k7
  have HT:=hd2 hT k7
  clear hT k7
  go_simp
  obtain ⟨W8,hW8⟩:∃ W8,W8=stL Y (w.heap.size+1) 0 [.int .i64 xi,.int .i64 xh,.string xp,.int .i64 xm,.slice q' nx c',.int .i64 xt]:=⟨_,rfl⟩
  have HW8:=hide hW8
  unfold stL stL stL stL stL stL stL at hW8
  rw [← hW8]
  refine HK.out _ _ _ ?_
  clear HK K D7 F7 L7 hW8
  refine pP 5 ?_
  refine pD ?_
  go_wp2_with fail
  have z:=stL_all HT.out.2 [.int .i64 xi,.int .i64 xh,.string xp,.int .i64 xm,.slice q' nx c',.int .i64 xt] rfl
  have m8:Mod [w.heap.size+1] X W8:=by rw [HW8.out];exact stL_mod (fun _=>by simp) _ 0 Y (HT.out.1.mono (by simp))
  rw [← HW8.out] at z
  refine bodyPost_ret (res_tct Tryz.results26 _ _ rfl z Tryz.isAgg35 Tryz.sizeOf35 rfl) rfl ?_
  have h2:=HZ.out
  rw [hnx] at h2
  refine ⟨pg',b',q',c',by rw [hnx];rfl,h2.1.box m8 (fun k hk=>by simp at hk;rw [hk];exact ⟨by omega,h2.2.2.1.2⟩),⟨h2.2.1.mod.trans m8 (fun _ x _=>x) (fun k hk hlt=>by simp at hk;omega),h2.2.1.own,h2.2.1.pd⟩,?_,hcp⟩
  exact hrd.mod m8 (fun k hk e=>by simp at e;exact hne k hk e)
end Go.Proofs.YtllljngpgjkdiaaGreatDoor
/-
  THE LAW GrantorApart: its walk.
-/
namespace Go.Proofs.YtllljngpgjkdiaaGreatDoor
open Go.RowKit Go.Maps

theorem op_range {w:World} {b off:Nat} {o:OpG} {v:Value} (h:∀ j,j<20→w.cell? ⟨b,off+j,none⟩=(opCells o v)[j]?):w.rangeAt b off (opCells o v):=fun j _ hj=>(h j (List.getElem?_eq_some_iff.1 hj).1).trans hj
theorem op_size (o:OpG) (v:Value):(Tryz.prog.info? 33).map (·.size)=some (opCells o v).length:=by
 show _=some 20
 kernel_rfl
theorem op_one (o:OpG) (q:Option Addr) (n c:Nat):(opCells o (.slice q n c)).toArray.all (·.oneCell')=true:=all_oneCell_toArray (fun v hv=>by
 simp only [opCells,List.mem_cons,List.not_mem_nil,or_false] at hv
 rcases hv with rfl | rfl | rfl | rfl | rfl | rfl | rfl | rfl | rfl | rfl | rfl | rfl | rfl | rfl | rfl | rfl | rfl | rfl | rfl | rfl <;> rfl)
end Go.Proofs.YtllljngpgjkdiaaGreatDoor
/-
  THE LAW GrantorGives: its walk. (Written by wip/gen_gtgv.py.)
-/
namespace Go.Proofs.YtllljngpgjkdiaaGreatDoor
set_option maxRecDepth 100000
set_option maxHeartbeats 8000000
open Go.RowKit Go.Maps

theorem wpList_app_gv {ops:Array Oper} {rest:List Oper} {o:Oper} {a:Act} {Q:Exit→Act→World→Prop} (w:World) (hgd:o.guard=none) (s x:Operand)
 (ho:o.op=.call { callee:=.builtin .append,args:=#[s,x],argTypes:=#[23,23] }) {bS:Nat} (hs:a.eval s=.slice (some ⟨bS,0,none⟩) 3 3) (hS:w.heap[bS]?=some (.cells #[.int .i64 7,.int .i64 8,.int .i64 9] 3 (0,0)))
 {k:Nat} (hx:a.eval x=.slice (some ⟨k,0,none⟩) 1 1) (hk:w.heap[k]?=some (.cells #[.int .i64 1] 3 (0,0)))
 (hK:∀ q c w',RdN w' (.slice q 4 c) [7,8,9,1]→Mod [bS] w w'→(∀ k,k∈ob (.slice q 4 c)→k=bS∨w.heap.size≤k)→wpList Tryz.prog ops Q rest (a.put o.dst (.slice q 4 c)) w'):wpList Tryz.prog ops Q (o::rest) a w:=by
 obtain ⟨i0,hi0,hz0,hs0,hb0⟩:=info_parts info_int
 have hown:w.ownsRow bS 3 1 (.slice (some ⟨bS,0,none⟩) 3 3) 3 ([7,8,9].map (Value.int .i64)):=⟨by simp,.inr ⟨bS,3,#[.int .i64 7,.int .i64 8,.int .i64 9],rfl,Nat.le_refl _,hS,by omega,by unfold maxLen;omega,by simp,by simp⟩⟩
 refine wpList_append_lies w hgd s x 23 ho bS 3 i0 _ 1 8 Tryz.underlying23 hi0 hz0 hs0 hb0 rfl (by decide) _ _ _ hs hown ⟨k,0,none⟩ 1 1 [.int .i64 1] hx rfl (World.news_of_block (cs:=#[.int .i64 1]) (t:=3) (fr:=(0,0)) hk) (by simp [Value.oneCell']) (by decide) (by unfold maxLen;omega) (by omega) (Nat.le_of_lt (lt_of_block hS)) ?_
 intro g' cap w' hr hg hat
 refine hK _ _ w' (rdN_of_row (m:=[7,8,9,1]) hr) ((Mod.refl [bS] w).grown hg (fun k e _=>by simp [Value.ownBlock] at e;simp [e])) (fun k hk=>?_)
 have:k=g':=by simpa [ob,Value.ownBlock] using hk
 subst this
 rcases hat with e | e
 · left
   exact (show bS=k by simpa [Value.ownBlock] using e).symm
 · exact .inr (by omega)
def GvRel (W:World) (pd N b3:Nat) (C3:Array Value) (s6 s25:Value) (wr:World):Prop :=
 ∃ (j pg:Nat) (b:GB) (d:Dk) (g:Gtr),s25=.int .i64 (j:Int)∧s6=.pointer (some ⟨pg,0,none⟩)∧j≤N∧b.pd=pd∧GS W wr pg b d g∧Rn j d g∧Asd wr pg b b3∧wr.heap[b3]?=some (.cells C3 33 (0,0))∧j≤101
theorem gives_any {W:World} {q0 qa:Option Addr} {c0 ca:Nat} {l0:List OpG} {o:OpG} (hl:RdOp W (.slice q0 l0.length c0) l0) (hra:RdN W (.slice qa o.own.stamp.length ca) o.own.stamp) (hi:inO o) :
 Calls Tryz.prog 7 #[.slice q0 l0.length c0,.agg (opCells o (.slice qa o.own.stamp.length ca)).toArray] W fun e w'=>e=.returned (.bool true)∧Mod [] W w':=by
 obtain ⟨d1,f1,f2,f3,f4⟩:=fresh_law
 have hfr:=fun (W:World)=>fresh_any f1 f2 f4 W
 have HF:=hide (Rn.begin f2 f3)
 have hll:l0.length≤9223372036854775807:=hl.1
 obtain ⟨C3,hC3⟩:∃ C3,(opCells o (.slice qa o.own.stamp.length ca)).toArray=C3:=⟨_,rfl⟩
 rw [hC3]
 obtain ⟨W0,hW0⟩:∃ W0,W0=W.alloc (.cells C3 33 (0,0)):=⟨_,rfl⟩
 have hb3:W0.heap[W.heap.size]?=some (.cells C3 33 (0,0)):=by rw [hW0];exact heap_alloc_new W _
 have m0:Mod [] W W0:=by rw [hW0];exact (Mod.refl _ _).alloc _
 have HL:=hd6 hl m0 hb3 hra hi hC3
 clear hl f1 f2 f3 f4 hb3 m0 hra hi hC3
 go_enter Tryz.func7,Tryz.ntmps7
 go_upto_region 1 with fail
 rw [← hW0]
 clear hW0
 go_upto_block 0 with (first
  | (go_at_call 12;refine (awake_any _).mono ?_;rintro e w1 ⟨rfl,m⟩;have H1:=hd2 m (HL.out.2.1.then m);clear m)
  | (go_at_call 24
     refine (hfr _).mono ?_
     rintro e w2 ⟨pd,pg,b,rfl,hpd,s⟩
     have hz1:=lt_of_block (H1.out.1.at_ HL.out.2.2.1 (by simp))
     have a3:Asd w2 pg b W.heap.size:=⟨Nat.lt_of_lt_of_le hz1 s.md.size,fun e=>by have:=s.lo _ e;omega⟩
     have H2:=hd4 hpd (show GS W w2 pg b d1 gF from ⟨s.gm,fun k hk=>Nat.le_trans H1.out.2.size (s.lo k hk),H1.out.2.then s.md,s.gi,s.n49⟩) a3 ((H1.out.1.then s.md).at_ HL.out.2.2.1 (by simp))
     clear s hpd hfr hz1 a3)
  | fail)
 go_cut [6] (fun s6 wx=>∃ s25,GvRel W pd l0.length W.heap.size C3 s6 s25 wx)
 case first =>
  go_wp2_with fail
  go_loopw [6,32] (fun s6 s25 wr=>GvRel W pd l0.length W.heap.size C3 s6 s25 wr) (fun _ i _=>l0.length - (intOf i).toNat)
  case atStart=>exact ⟨0,pg,b,d1,gF,rfl,rfl,Nat.zero_le _,H2.out.1,H2.out.2.1,HF.out,H2.out.2.2.1,H2.out.2.2.2,by omega⟩
  case round =>
   as_aux_lemma =>
   obtain ⟨wo,rfl⟩:∃ x:World,x=wr:=⟨_,rfl⟩
   obtain ⟨j,pg1,b1,d,g,rfl,rfl,hj,hpd,hs,hn,ha3,hb3,hj1⟩:=hrel
   by_cases hlt:j<l0.length
   · have hji:(j:Int)<(l0.length:Int):=by omega
     obtain ⟨ob0,off,q,c,rfl,hobw,hcs,hra,hin⟩:=(HL.out.1.same hs.md).at_ j hlt
     generalize l0.getD j default=oj at hcs hra hin
     have hrg:=op_range hcs
     have hsz:=op_size oj (.slice q oj.own.stamp.length c)
     have hone:=op_one oj q oj.own.stamp.length c
     obtain ⟨R,hR⟩:∃ R,playG d g oj=R:=⟨_,rfl⟩
     have hpl:=fun {w:World} (s:GS W w pg1 b1 d g) h=>played_any (q:=q) (c:=c) s hn h hin
     have hrn:=fun (h:j≤1000)=>rn_play hn h oj (i64w_iff.1 hin.1.2.2.2.2.2.2.1).2
     rw [hR] at hrn hpl
     have HRN:=hide hrn
     have hs20:20=(opCells oj (.slice q oj.own.stamp.length c)).toArray.size:=rfl
     obtain ⟨C8,hC8⟩:∃ C8,(opCells oj (.slice q oj.own.stamp.length c)).toArray=C8:=⟨_,rfl⟩
     have hsz2:(Tryz.prog.info? 33).map (·.size)=some C8.size:=by rw [← hC8];exact hsz
     have hrg2:C8.toList=opCells oj (.slice q oj.own.stamp.length c):=by rw [← hC8]
     rw [hC8] at hpl hone hs20
     have HS:=hd5 hs hra hn hC8 hrg2
     clear hR hrn hcs hs hra hn hin hC8 hrg2
     obtain ⟨W1,hW1⟩:∃ W1,W1=wo.alloc (.cells C8 33 (0,0)):=⟨_,rfl⟩
     have hb1:W1.heap[wo.heap.size]?=some (.cells C8 33 (0,0)):=by rw [hW1];exact heap_alloc_new wo _
     have hma:Mod [] wo W1:=by rw [hW1];exact (Mod.refl _ _).alloc _
     have HB:=hd3 hb1 hma (HS.out.1.quiet hma)
     have hrb:W1.rangeAt wo.heap.size 0 C8.toList:=fun i _ hi=>by rw [Nat.zero_add,blk_cell hb1,← hi];simp
     have hszb:(Tryz.prog.info? 33).map (·.size)=some C8.toList.length:=by simpa using hsz2
     have hst:=run_storeCells_new (P:=Tryz.prog) wo 33 #[.int .i64 0,.int .i64 0,.int .i64 0,.int .i64 0,.string ⟨#[]⟩,.int .i64 0,.slice none 0 0,.int .i64 0,.int .i64 0,.int .i64 0,.bool false,.int .i64 0,.int .i64 0,.string ⟨#[]⟩,.int .i64 0,.int .i64 0,.int .i64 0,.bool false,.int .i64 0,.int .i64 0] C8 hsz2 hs20 hone
     rw [← hW1] at hst
     have hs20':=hs20.symm
     clear hb1 hma hW1 hs20 hone hsz2
     have HA:=hd2 ha3 hb3
     clear ha3 hb3
     by_cases h100:(100:Int)<(j:Int)
     · clear hpl
       go_wp2_with (first
        | (refine wpList_load_mid rfl 33 _ rfl ob0 (off+j * 20) rfl _ _ hrg Tryz.underlying33 rfl hsz ?_;rw [HS.out.2.2.2.1])
        | fail)
       go_meet
       case rel=>exact ⟨_,j,pg1,b1,d,g,rfl,rfl,hj,hpd,HB.out.2.2,HS.out.2.2.1,HA.out.1.quiet' HB.out.2.1,HB.out.2.1.at_ HA.out.2 (by simp),hj1⟩
     go_upto_region 7 with (first
      | (refine wpList_load_mid rfl 33 _ rfl ob0 (off+j * 20) rfl _ _ hrg Tryz.underlying33 rfl hsz ?_;rw [HS.out.2.2.2.1])
      | fail)
     clear hst hrg hsz hs20'
     have hpl2:=hpl (HB.out.2.2) (HS.out.2.1.mod HB.out.2.1 (by simp))
     rw [hpd] at hpl2
     go_upto_region 9 with (first
      | (refine wpList_load_mid rfl 33 _ rfl wo.heap.size 0 rfl _ _ hrb Tryz.underlying33 rfl hszb ?_)
      | (go_at_call 26
         refine hpl2.mono ?_
         rintro e w3 ⟨pg3,b3,q3,c3,rfl,s3,t3,-⟩
         have H3:=hd2 s3 t3
         clear s3 t3 hpl2 hpl hrb)
      | fail)
     have hr3:=HRN.out (by omega)
     have ha4:=HA.out.1.quiet' HB.out.2.1
     have hb4:=H3.out.2.blk ha4 (HB.out.2.1.at_ HA.out.2 (by simp))
     have H4:=hd3 hr3 (H3.out.2.asd ha4) hb4
     clear hr3 ha4 hb4
     go_wp2_with fail
     go_roundw
     case rel=>exact ⟨j+1,pg3,b3,R.1,R.2.1,by go_num,rfl,by omega,H3.out.2.pd.trans hpd,H3.out.1,H4.out.1,H4.out.2.1,H4.out.2.2,by omega⟩
     case measure=>simp [intOf];omega
   · have HS:=hd4 hs hn ha3 hb3
     clear hs hn ha3 hb3
     go_wp2_with fail
     go_meet
     case rel=>exact ⟨_,j,pg1,b1,d,g,rfl,rfl,hj,hpd,HS.out.1,HS.out.2.1,HS.out.2.2.1,HS.out.2.2.2,hj1⟩
 case rest =>
  as_aux_lemma =>
  obtain ⟨s25,j,pg1,b1,d,g,-,rfl,-,hpd,hs,hn,ha3,hb3,hj1⟩:=hcut
  obtain ⟨X0,rfl⟩:∃ x:World,x=wc:=⟨_,rfl⟩
  obtain ⟨⟨-,-,-,-,-,-,-,-,-⟩,-,hop⟩:=HL.out.2.2.2.2.1
  have hC3:=HL.out.2.2.2.2.2
  obtain ⟨l',g1,n1,n2,n3,n4,n5,n6,n7,n8,-⟩:=anew_facts hn 0
  have HA:=hd3 n1 n2 n3
  have HA2:=hd5 n4 n5 n6 n7 n8
  have hoc:=on_eq hs
  rw [hpd] at hoc
  have H3:=hd3 hs ha3 hb3
  clear hs hn ha3 hb3 n1 n2 n3 n4 n5 n6 n7 n8
  obtain ⟨kd,nw,⟨lf,li,lp,lm,la,lt,ls,le,lr⟩,oi,oh,op,om,ot,ok,ofr,oo,on⟩:=o
  obtain ⟨n,hna⟩:∃ n,la.length=n:=⟨_,rfl⟩
  unfold opCells at hC3
  simp only at hC3 hop
  rw [hna] at hC3
  go_upto_region 14 with (first
   | (go_at_call 29
      refine hoc.mono ?_
      rintro e w1 ⟨rfl,s1,t1⟩
      have H4:=hide t1.x
      have har:=arm_eq s1 (-1) (by decide)
      rw [hpd] at har
      clear s1 t1 hoc)
   | (go_at_call 30
      refine har.mono ?_
      rintro e w2 ⟨rfl,s2,t2⟩
      have H5:=hide (H4.out.trans t2.x)
      have hlo:=ledopen_eq s2 (show openD (armD (onD d) (-1))=_ from HA.out.1)
      rw [hpd] at hlo
      clear s2 t2 har)
   | (go_at_call 31
      refine hlo.mono ?_
      rintro e w3 ⟨pl,gv,lv,rfl,s3⟩
      have H6:=hide s3
      clear s3 hlo)
   | (go_at_call 11
      refine (gopen_eq H6.out HA.out.2.1 HA2.out.1.n49 (now:=0) (by decide)).mono ?_
      rintro e X1 ⟨pg4,b4,rfl,s4,t4⟩
      rw [HA.out.2.2] at s4
      have H7:=hd2 s4 (H5.out.trans t4)
      clear s4 t4)
   | fail)
  have a3:=H7.out.2.asd H3.out.2.1
  have h3:=H7.out.2.blk H3.out.2.1 H3.out.2.2
  have HC:Hid (∀ w,Mod [] X1 w→∀ i,w.cell? ⟨W.heap.size,i,none⟩=_):=hide (fun w m=>blk_cell (m.at_ h3 (by simp)))
  rw [← hC3] at HC
  have HL3:=hide (lt_of_block h3)
  clear a3 h3 hC3
  obtain ⟨E,hE⟩:∃ E,g1.ends=E:=⟨_,rfl⟩
  obtain ⟨NW,hNW⟩:∃ N,E+min (max nw 0) 1125899906842624=N:=⟨_,rfl⟩
  have hEb:0≤E∧E≤1048576:=by have h1:=HA2.out.2.2.1;have h2:=HA2.out.2.2.2.1;omega
  have hNb:E≤NW∧NW≤1125899907891200:=by omega
  have hwr:IntKind.i64.wrap (E+min (max nw 0) 1125899906842624)=NW:=by rw [hNW,IntKind.wrap_i64];omega
  have HE:=hide hE
  clear hNW hE
  go_upto_region 16 with fail
  go_cut [12] (fun s wx=>s=.int .i64 NW∧Mod [] X1 wx)
  case first =>
   as_aux_lemma =>
   refine pB 999 (Mod [] X1) ((Mod.refl [] X1).drew) ?_
   refine pP 0 ?_;refine pP 2 ?_
   refine pH 3 rfl (fun w' h=>by have D:=HC.out _ h;go_simp;try with_reducible rfl) ?_
   refine pP 4 ?_;refine pP 5 ?_
   refine pX 1 fun hT K HK=>?_
   go_simp
   refine (quar_eq (H7.out.1.quiet hT) HE.out).mono ?_;rintro e x1 ⟨rfl,hx⟩;rw [hx]
   refine HK.out _ _ _ hT ?_
   clear HK K hT hx x1
   refine pP 6 ?_;refine pP 7 ?_
   refine pE fun hT=>?_
   go_wp2_with fail
   go_meet
   case rel=>exact ⟨rfl,hT⟩
  case rest =>
  as_aux_lemma =>
  obtain ⟨rfl,hcut⟩:=hcut
  obtain ⟨X2,rfl⟩:∃ x:World,x=wc:=⟨_,rfl⟩
  have H8:=hide hcut
  have D3:=HC.out _ hcut
  have L3:W.heap.size<X2.heap.size:=Nat.lt_of_lt_of_le HL3.out hcut.size
  have hpv:=fun (w:World)=>pvalid_any op (by omega) w
  obtain ⟨pv,hpo⟩:∃ v,pathOk op.data.toList=v:=⟨_,rfl⟩
  rw [hpo] at hpv
  have HPV:=hide hpo
  clear hcut hpo hwr
  go_upto_if 79 with (go_at_call 32;refine (hpv _).mono ?_;rintro e wx ⟨rfl,hx⟩;rw [hx];clear hx hpv)
  go_cut [13] (fun s wx=>(∃ P:ByteArray,s=.string P∧pathOk P.data.toList=true∧P.size≤9223372036854775806)∧wx=X2)
  case first =>
   as_aux_lemma =>
   cases pv
   · go_wp2_with fail
     go_meet
     case rel=>exact ⟨⟨_,rfl,by decide,by decide⟩,rfl⟩
   · go_wp2_with fail
     go_meet
     case rel=>exact ⟨⟨_,rfl,HPV.out,hop⟩,rfl⟩
  case rest =>
  as_aux_lemma =>
  obtain ⟨⟨P,rfl,hP,hPs⟩,hcut⟩:=hcut
  rw [hcut]
  clear hcut
  obtain ⟨T,hT⟩:∃ T,min (max ot 4) 1048576=T:=⟨_,rfl⟩
  have hTb:legalT T:=by unfold legalT;omega
  have hTb':=hTb
  unfold legalT at hTb'
  obtain ⟨EX,hEX⟩:∃ x,NW+T+2=x:=⟨_,rfl⟩
  have w1:IntKind.i64.wrap (NW+T)=NW+T:=by rw [IntKind.wrap_i64];omega
  have w2:IntKind.i64.wrap (NW+T+2)=EX:=by rw [IntKind.wrap_i64];omega
  obtain ⟨R,hR⟩:∃ R,grantG (newD2 d) g1 ⟨NW,3,T,gvL (NW+T+2) [7,8,9],P,2⟩=R:=⟨_,rfl⟩
  have hV:=gives_law (T:=T) (P:=P) HA2.out.1 (by omega) (fun x hx=>by rw [HA2.out.2.1 x hx];show g1.ends≤NW;rw [HE.out];omega) (show timeOk NW by unfold timeOk;omega) (by rw [HE.out];omega) hTb hP (by have:=HA2.out.2.2.2.2;omega)
  rw [hR] at hV
  have HV:=hide hV
  have HEX:=hd2 hEX hR
  have c1:=fun {w:World} {q':Option Addr} {c':Nat} (s:GS W w pg4 b4 (newD2 d) g1) h1 h2=>grant_eq (r:=⟨NW,3,T,gvL EX [7,8,9],P,2⟩) (q:=q') (c:=c') s h1 h2 (by simp only;omega) (by show (0:Nat)≤_;omega)
  have e1:gvL EX [7,8,9]=gvL (NW+T+2) [7,8,9]:=by rw [hEX]
  unfold aggL cellsL at c1
  rw [e1,hR] at c1
  unfold gvL at c1
  simp only at c1
  rw [hEX,show ([7,8,9]:List Int).length=3 from rfl] at c1
  obtain ⟨W5,hW5⟩:∃ W5,W5=X2.alloc (.cells #[.int .i64 7,.int .i64 8,.int .i64 9] 3 (0,0)):=⟨_,rfl⟩
  obtain ⟨W6,hW6⟩:∃ W6,W6=W5.alloc (.cells #[.int .i64 0,.int .i64 0,.string ⟨#[]⟩,.int .i64 2,.slice (some ⟨X2.heap.size,0,none⟩) 3 3,.int .i64 0,.int .i64 0,.int .i64 EX,.bool false] 25 (0,0)):=⟨_,rfl⟩
  have h5:W5.heap[X2.heap.size]?=some (.cells #[.int .i64 7,.int .i64 8,.int .i64 9] 3 (0,0)):=by rw [hW5];exact heap_alloc_new X2 _
  have m5:Mod [] X2 W5:=by rw [hW5];exact (Mod.refl _ _).alloc _
  have e5:W5.heap.size=X2.heap.size+1:=by rw [hW5];simp
  have h6:W6.heap[X2.heap.size+1]?=some (.cells #[.int .i64 0,.int .i64 0,.string ⟨#[]⟩,.int .i64 2,.slice (some ⟨X2.heap.size,0,none⟩) 3 3,.int .i64 0,.int .i64 0,.int .i64 EX,.bool false] 25 (0,0)):=by rw [hW6,← e5];exact heap_alloc_new W5 _
  have m6:Mod [] W5 W6:=by rw [hW6];exact (Mod.refl _ _).alloc _
  have r6:RdN W6 (.slice (some ⟨X2.heap.size,0,none⟩) 3 3) [7,8,9]:=⟨by show 3≤maxLen;unfold maxLen;omega,.inr ⟨X2.heap.size,0,3,rfl,Nat.lt_of_lt_of_le (lt_of_block h5) m6.size,fun i hi=>by
   have hb:=blk_cell (m6.at_ h5 (by simp)) i
   rw [Nat.zero_add,hb]
   simp at hi
   rcases (show i=0∨i=1∨i=2 by omega) with rfl | rfl | rfl <;> rfl⟩⟩
  have s6:=H7.out.1.quiet ((H8.out.then m5).then m6)
  have hz5:=m5.size
  have hz8:=H8.out.size
  have H9:=hd6 s6 h6 r6 (show ∀ k,k∈ob (.slice (some ⟨X2.heap.size,0,none⟩) 3 3)→k ∉ b4.all pg4 from fun k hk e=>by have h1:=H7.out.1.gm.lt k e;simp [ob,Value.ownBlock] at hk;omega) (show Asd W6 pg4 b4 (X2.heap.size+1) from ⟨lt_of_block h6,fun e=>by have h1:=H7.out.1.gm.lt _ e;omega⟩) (m6.at_ h5 (by simp))
  have B15:=blk_cell h6
  have L15:=lt_of_block h6
  clear hV hEX hR e1 e5 h5 m5 h6 m6 r6 s6
  go_upto_region 22 with fail
  rw [← hW5,← hW6]
  clear hW5 hW6 D3 L3
  go_upto_region 23 with (
   go_at_call 13
   refine (c1 H9.out.1 H9.out.2.2.1 H9.out.2.2.2.1).mono ?_
   intro e w7 h7
   obtain ⟨q7,c7,b7,rfl,s7,t7,-,-⟩:=h7.out HV.out.x HV.out.e
   unfold aggG cellsG
   simp only [show ([7,8,9,g1.l.book.next]:List Int).length=4 from rfl]
   have H10:=hd2 s7 t7
   clear s7 t7 h7 c1 B15 L15)
  obtain ⟨W8,hW8⟩:∃ W8,W8=w7.alloc (.cells #[.int .i64 g1.l.book.next,.int .i64 3,.string P,.int .i64 2,.slice q7 4 c7,.int .i64 T] 35 (0,0)):=⟨_,rfl⟩
  have h16:W8.heap[w7.heap.size]?=some (.cells #[.int .i64 g1.l.book.next,.int .i64 3,.string P,.int .i64 2,.slice q7 4 c7,.int .i64 T] 35 (0,0)):=by rw [hW8];exact heap_alloc_new w7 _
  have m8:Mod [] w7 W8:=by rw [hW8];exact (Mod.refl _ _).alloc _
  rw [← hW8]
  have aL:=(Asd.to H9.out.2.2.2.2.1 H10.out.2).quiet' m8
  have hL:=m8.at_ (H10.out.2.mod.at_ H9.out.2.1 H9.out.2.2.2.2.1.2) (by simp)
  have aS:Asd W8 pg4 b7 X2.heap.size:=(Asd.to (w:=W6) (b:=b4) ⟨lt_of_block H9.out.2.2.2.2.2,H9.out.2.2.2.1 _ (by simp [ob,Value.ownBlock])⟩ H10.out.2).quiet' m8
  have hS:=m8.at_ (H10.out.2.mod.at_ H9.out.2.2.2.2.2 (H9.out.2.2.2.1 _ (by simp [ob,Value.ownBlock]))) (by simp)
  have H11:=hd5 (H10.out.1.quiet m8) aL hL aS hS
  have B16:=blk_cell h16
  have L16:=lt_of_block h16
  have w3:IntKind.i64.wrap (NW+T - 1)=NW+T - 1:=by rw [IntKind.wrap_i64];omega
  have hPs':P.size≤9223372036854775807:=by omega
  have tb1:Hid True:=hide trivial
  have tb2:Hid True:=hide trivial
  clear hW8 h16 m8 aL hL aS hS
  go_upto_region 25 with (first
   | (have tk:=tb1;go_at_call 20;refine (blocks_eq H11.out.1 NW P hPs' 1 HV.out.b1).mono ?_;rintro e w9 ⟨rfl,m9⟩;have M9:=hide m9;clear m9 tb1 tk B16 L16)
   | (have tk:=tb2;go_at_call 20;refine (blocks_eq (H11.out.1.quiet M9.out) (NW+T - 1) P hPs' 1 HV.out.b2).mono ?_;rintro e w10 ⟨rfl,m10⟩;have M10:=hide (M9.out.then m10);clear m10 tb2 tk M9)
   | (go_at_call 20;refine (blocks_eq (H11.out.1.quiet M10.out) (NW+T) P hPs' 1 HV.out.b3).mono ?_;rintro e w11 ⟨rfl,m11⟩;have M11:=hide (M10.out.then m11);clear m11 M10)
   | fail)
  clear w3
  obtain ⟨d3,hd3⟩:∃ d3,R.2.2.1=d3:=⟨_,rfl⟩
  obtain ⟨g3,hg3⟩:∃ g3,R.2.2.2=g3:=⟨_,rfl⟩
  have r1:=HV.out.r1
  have r2:=HV.out.r2
  have r3:=HV.out.r3
  have S11:=H11.out.1
  rw [hd3,hg3] at r1 r2 r3 S11
  have rS:∀ w,w.heap[X2.heap.size]?=some (.cells #[.int .i64 7,.int .i64 8,.int .i64 9] 3 (0,0))→RdN w (.slice (some ⟨X2.heap.size,0,none⟩) 3 3) [7,8,9]:=fun w h=>⟨by show 3≤maxLen;unfold maxLen;omega,.inr ⟨X2.heap.size,0,3,rfl,lt_of_block h,fun i hi=>by
   have hb:=blk_cell h i
   rw [Nat.zero_add,hb]
   simp at hi
   rcases (show i=0∨i=1∨i=2 by omega) with rfl | rfl | rfl <;> rfl⟩⟩
  have c2:=fun {w:World} {b':GB} {q':Option Addr} {c':Nat} (s:GS W w pg4 b' d3 g3) h1 h2=>grant_eq (r:=⟨NW,4,T,gvL (NW+T+2) [7,8,9],P,1⟩) (q:=q') (c:=c') s h1 h2 (by simp only;omega) (by show (0:Nat)≤_;omega)
  have c3:=fun {w:World} {b':GB} {q':Option Addr} {c':Nat} (s:GS W w pg4 b' d3 g3) h1 h2=>grant_eq (r:=⟨NW,3,T,gvL (NW+T+1) [7,8,9],P,2⟩) (q:=q') (c:=c') s h1 h2 (by simp only;omega) (by show (0:Nat)≤_;omega)
  have c4:=fun {w:World} {b':GB} {q':Option Addr} {c':Nat} (s:GS W w pg4 b' d3 g3) h1 h2=>grant_eq (r:=⟨NW,3,T,gvL (NW+T+1) [7,8,9,1],P,2⟩) (q:=q') (c:=c') s h1 h2 (by simp only;omega) (by show (0:Nat)≤_;omega)
  rw [r1] at c2
  rw [r2] at c3
  rw [r3] at c4
  unfold aggL cellsL gvL at c2 c3 c4
  simp only at c2 c3 c4
  rw [HEX.out.1,show ([7,8,9]:List Int).length=3 from rfl] at c2
  rw [show ([7,8,9]:List Int).length=3 from rfl] at c3
  rw [show ([7,8,9,1]:List Int).length=4 from rfl] at c4
  have hE1:NW+T+1=EX - 1:=by have:=HEX.out.1;omega
  rw [hE1] at c3 c4
  have hL:=M11.out.at_ H11.out.2.2.1 (by simp)
  have hS:=M11.out.at_ H11.out.2.2.2.2 (by simp)
  have H12:=hd5 (S11.quiet M11.out) (H11.out.2.1.quiet' M11.out) hL (H11.out.2.2.2.1.quiet' M11.out) hS
  have HrS:=hide rS
  have B15:=blk_cell hL
  have L15:=lt_of_block hL
  have w4:IntKind.i64.wrap (EX - 1)=EX - 1:=by have:=HEX.out.1;rw [IntKind.wrap_i64];omega
  clear hd3 hg3 r1 r2 r3 S11 hL hS rS hE1
  go_upto_region 26 with (
   go_at_call 13
   refine (c2 H12.out.1 (HrS.out _ H12.out.2.2.2.2) (fun k hk e=>H12.out.2.2.2.1.2 (by simp [ob,Value.ownBlock] at hk;rwa [hk] at e))).mono ?_
   intro e w12 h0
   obtain ⟨q8,c8,b8,rfl,s0,t0,-,-⟩:=h0.out (x:=⟨0,0,⟨#[]⟩,0,[],0⟩) rfl rfl
   unfold aggG cellsG
   dsimp only
   have H13:=hd2 s0 t0
   clear s0 t0 h0 c2 B15 L15)
  obtain ⟨W13,hW13⟩:∃ W,W=w12.alloc (.cells #[.int .i64 0,.int .i64 0,.string ⟨#[]⟩,.int .i64 0,.slice q8 0 c8,.int .i64 0] 35 (0,0)):=⟨_,rfl⟩
  have m13:Mod [] w12 W13:=by rw [hW13];exact (Mod.refl _ _).alloc _
  rw [← hW13]
  have hL13:=m13.at_ (H13.out.2.mod.at_ H12.out.2.2.1 H12.out.2.1.2) (by simp)
  have aL13:=(Asd.to H12.out.2.1 H13.out.2).quiet' m13
  have hS13:=m13.at_ (H13.out.2.mod.at_ H12.out.2.2.2.2 H12.out.2.2.2.1.2) (by simp)
  have aS13:=(Asd.to H12.out.2.2.2.1 H13.out.2).quiet' m13
  have H14:=hd5 (H13.out.1.quiet m13) aL13 hL13 aS13 hS13
  have B15:=blk_cell hL13
  have L15:=lt_of_block hL13
  have F15:=blk_free hL13
  clear hW13 m13 hL13 aL13 hS13 aS13
  go_upto_region 27 with fail
  obtain ⟨W14,hW14⟩:∃ W,W=W13.setCell ⟨X2.heap.size+1,7,none⟩ (.int .i64 (EX - 1)):=⟨_,rfl⟩
  rw [← hW14]
  have hL14:W14.heap[X2.heap.size+1]?=some (.cells #[.int .i64 0,.int .i64 0,.string ⟨#[]⟩,.int .i64 2,.slice (some ⟨X2.heap.size,0,none⟩) 3 3,.int .i64 0,.int .i64 0,.int .i64 (EX - 1),.bool false] 25 (0,0)):=by rw [hW14];exact blk_set H14.out.2.2.1 7 _
  have hS14:W14.heap[X2.heap.size]?=some (.cells #[.int .i64 7,.int .i64 8,.int .i64 9] 3 (0,0)):=by rw [hW14];exact blk_other H14.out.2.2.2.2 (by simp) _
  have m14:Mod [X2.heap.size+1] W13 W14:=by rw [hW14];exact (Mod.refl _ _).setCell (fun _=>by simp) _
  have hz2:=H9.out.1.md.size
  have hz0:=H7.out.1.md.size
  have s14:=H14.out.1.box m14 (fun k hk=>by simp at hk;rw [hk];exact ⟨by omega,H14.out.2.1.2⟩)
  have H15:=hd5 s14 (show Asd W14 pg4 b8 (X2.heap.size+1) from ⟨lt_of_block hL14,H14.out.2.1.2⟩) hL14 (show Asd W14 pg4 b8 X2.heap.size from ⟨lt_of_block hS14,H14.out.2.2.2.1.2⟩) hS14
  clear B15 L15 F15
  have B15:=blk_cell hL14
  have L15:=lt_of_block hL14
  clear hW14 hL14 hS14 m14 s14
  go_upto_region 28 with (
   go_at_call 13
   refine (c3 H15.out.1 (HrS.out _ H15.out.2.2.2.2) (fun k hk e=>H15.out.2.2.2.1.2 (by simp [ob,Value.ownBlock] at hk;rwa [hk] at e))).mono ?_
   intro e w15 h0
   obtain ⟨q9,c9,b9,rfl,s0,t0,-,-⟩:=h0.out (x:=⟨0,0,⟨#[]⟩,0,[],0⟩) rfl rfl
   unfold aggG cellsG
   dsimp only
   have H16:=hd2 s0 t0
   clear s0 t0 h0 c3 B15 L15)
  obtain ⟨W16,hW16⟩:∃ W,W=w15.alloc (.cells #[.int .i64 0,.int .i64 0,.string ⟨#[]⟩,.int .i64 0,.slice q9 0 c9,.int .i64 0] 35 (0,0)):=⟨_,rfl⟩
  have m16:Mod [] w15 W16:=by rw [hW16];exact (Mod.refl _ _).alloc _
  rw [← hW16]
  obtain ⟨W17,hW17⟩:∃ W,W=W16.alloc (.cells #[.int .i64 1] 3 (0,0)):=⟨_,rfl⟩
  have hN17:W17.heap[W16.heap.size]?=some (.cells #[.int .i64 1] 3 (0,0)):=by rw [hW17];exact heap_alloc_new W16 _
  have m17:Mod [] w15 W17:=m16.then (by rw [hW17];exact (Mod.refl _ _).alloc _)
  have hL17:=m17.at_ (H16.out.2.mod.at_ H15.out.2.2.1 H15.out.2.1.2) (by simp)
  have aL17:=(Asd.to H15.out.2.1 H16.out.2).quiet' m17
  have hS17:=m17.at_ (H16.out.2.mod.at_ H15.out.2.2.2.2 H15.out.2.2.2.1.2) (by simp)
  have aS17:=(Asd.to H15.out.2.2.2.1 H16.out.2).quiet' m17
  have H17:=hd6 (H16.out.1.quiet m17) aL17 hL17 aS17 hS17 hN17
  have HW17:=hide hW17
  have hL16:=m16.at_ (H16.out.2.mod.at_ H15.out.2.2.1 H15.out.2.1.2) (by simp)
  have B15:=blk_cell hL16
  have L15:=lt_of_block hL16
  have hlz:=lt_of_block hL17
  clear hW16 m16 hN17 m17 hL17 aL17 hS17 aS17 hW17 hL16
  go_upto_region 29 with (
   at_builtin
   rw [← HW17.out]
   refine wpList_app_gv W17 rfl _ _ rfl rfl H17.out.2.2.2.2.1 rfl H17.out.2.2.2.2.2 ?_
   intro q10 c10 w18 hr18 m18 hk18
   have s18:=H17.out.1.box m18 (fun k hk=>by simp at hk;rw [hk];exact ⟨by have:=H9.out.1.md.size;have:=H8.out.size;have:=H7.out.1.md.size;omega,H17.out.2.2.2.1.2⟩)
   have hL18:=m18.at_ H17.out.2.2.1 (by simp)
   have H18:=hd5 s18 hL18 hr18 hk18 m18
   clear B15 L15
   have B15:=blk_cell hL18
   have L15:=lt_of_block hL18
   have F15:=blk_free hL18
   clear s18 hL18 hr18 m18 hk18)
  obtain ⟨W19,hW19⟩:∃ W,W=w18.setCell ⟨X2.heap.size+1,4,none⟩ (.slice q10 4 c10):=⟨_,rfl⟩
  rw [← hW19]
  have hL19:W19.heap[X2.heap.size+1]?=some (.cells #[.int .i64 0,.int .i64 0,.string ⟨#[]⟩,.int .i64 2,.slice q10 4 c10,.int .i64 0,.int .i64 0,.int .i64 (EX - 1),.bool false] 25 (0,0)):=by rw [hW19];exact blk_set H18.out.2.1 4 _
  have m19:Mod [X2.heap.size+1] w18 W19:=by rw [hW19];exact (Mod.refl _ _).setCell (fun _=>by simp) _
  have hz8:=H8.out.size
  have s19:=H18.out.1.box m19 (fun k hk=>by simp at hk;rw [hk];exact ⟨by omega,H17.out.2.1.2⟩)
  have r19:=H18.out.2.2.1.mod m19 (fun k hk e=>by rcases H18.out.2.2.2.1 k hk with h | h <;> simp at e <;> omega)
  have a19:∀ k,k∈ob (.slice q10 4 c10)→k ∉ b9.all pg4:=fun k hk e=>by
   rcases H18.out.2.2.2.1 k hk with h | h
   · exact H17.out.2.2.2.1.2 (h ▸ e)
   · have:=H17.out.1.gm.lt k e;omega
  have H19:=hd3 s19 r19 a19
  clear B15 L15 F15
  have B15:=blk_cell hL19
  have L15:=lt_of_block hL19
  clear hW19 hL19 m19 s19 r19 a19
  go_upto_region 30 with (
   go_at_call 13
   refine (c4 H19.out.1 H19.out.2.1 H19.out.2.2).mono ?_
   intro e w20 h0
   obtain ⟨q11,c11,b11,rfl,s0,t0,-,-⟩:=h0.out (x:=⟨0,0,⟨#[]⟩,0,[],0⟩) rfl rfl
   unfold aggG cellsG
   dsimp only
   have H20:=hd2 s0 t0
   clear s0 t0 h0 c4 B15 L15)
  go_wp2_with fail
  go_ret
  exact ⟨rfl,H20.out.1.md.alloc _⟩
end Go.Proofs.YtllljngpgjkdiaaGreatDoor
