/-
  ARGUMENTS OPENED: a disk's image, one record.
-/
import Derived.Test.YtpphoeimakjjdaaGreatDoorMLedOp
import Derived.Test.YtpphoeimakjjdaaGreatDoorMLedRgA
namespace Go.Proofs.YtpphoeimakjjdaaGreatDoor
set_option maxRecDepth 100000
open Go.ChangeShapes Go.WideShapes Go.ChangeAt Go.RowKit Go.Deep Go.Joins

theorem cells_u8:Tryz.prog.cellsOf 5=1:=by kernel_rfl
theorem cells_bytes:Tryz.prog.cellsOf 71=1:=by kernel_rfl
theorem bytes_bytes:Tryz.prog.bytesOf 71=24:=by kernel_rfl
theorem bytes_u8:Tryz.prog.bytesOf 5=1:=by kernel_rfl
theorem y8_wf {z:Int} (h:(Lit.int .u8 z).wf=true):y8 (UInt8.ofNat z.toNat)=.int .u8 z:=by
 have e1:IntKind.u8.min=0:=rfl
 have e2:IntKind.u8.max=255:=rfl
 simp [Lit.wf,e1,e2] at h
 unfold y8
 congr 1
 rw [UInt8.toNat_ofNat']
 omega
theorem spot_none {W:World} {b off i:Nat} {spot:Option Nat} {v:Value} (h:W.cell? ((⟨b,off,spot⟩:Addr).add i)=some v) (hi:i=0):spot=none:=by
 subst hi
 simp only [Addr.add] at h
 cases spot with
 | none=>rfl
 | some s =>
   exfalso
   revert h
   unfold World.cell?
   split <;> simp
theorem trod_bytes {H:Type} {enc:TypeId × Value→H} {W:World} {base:Nat} {held:Bool} {fuel:Nat} {cs:List Value} {x:DataW H × List MemPlace}
 (h:DataW.trod enc Tryz.prog W base (fun _=>true) held fuel 71 cs=some x) (hw:∀ n,n∈x.1.weights Tryz.prog 71→n≤reachBytes):∃ v a,cs=[v]∧RdY W v a∧a.length≤140737488355328:=by
 rcases open_ints Tryz.underlying71 Tryz.underlying5 cells_u8 h with ⟨rfl,rfl⟩ | ⟨ad,len,cap,zs,rfl,_,hl,hm,hz,rfl,hc,hwf⟩
 · exact ⟨_,[],rfl,RdY.nil _ _ _,by simp⟩
 · simp only [if_true] at hz
   have h1:((lits (H:=H) .u8 (zs.take len)).length+(lits (H:=H) .u8 (zs.drop len)).length) * Tryz.prog.bytesOf 5≤reachBytes:=by
    refine hw _ ?_
    simp only [DataW.weights,Tryz.underlying71]
    exact List.mem_cons_self
   rw [bytes_u8] at h1
   simp only [lits,List.length_map,List.length_take,List.length_drop] at h1
   unfold reachBytes at h1
   have ht:(zs.take len).length=len:=by rw [List.length_take];omega
   by_cases h0:len=0
   · subst h0
     exact ⟨_,[],rfl,RdY.nil _ _ _,by simp⟩
   · obtain ⟨b,off,spot⟩:=ad
     have hc0:=hc 0 (by omega)
     obtain rfl:=spot_none hc0 rfl
     refine ⟨_,(zs.take len).map fun z=>UInt8.ofNat z.toNat,rfl,⟨by simp;omega,.inr ⟨b,off,cap,by simp;omega,⟨by simp;omega,hm⟩,World.block_lt_of_cell? W _ hc0,fun i hi=>?_⟩⟩,by simp;omega⟩
     rw [List.length_map,ht] at hi
     have q:=hc i (by omega)
     rw [Addr.add_lit] at q
     rw [q]
     have e:((zs.take len).map fun z=>UInt8.ofNat z.toNat).getD i 0=UInt8.ofNat (zs.getD i 0).toNat:=by
      simp [List.getD,hi,show i<zs.length by omega]
     rw [e,y8_wf (hwf _ (by rw [List.getD_eq_getElem?_getD,List.getElem?_eq_getElem (by omega)];exact List.getElem_mem _))]
set_option linter.unusedSimpArgs false in
theorem trod_img {H:Type} {enc:TypeId × Value→H} {W:World} {base:Nat} {held:Bool} {fuel:Nat} {cs:List Value} {x:DataW H × List MemPlace}
 (h:DataW.trod enc Tryz.prog W base (fun _=>true) held fuel 65 cs=some x) (hw:∀ n,n∈x.1.weights Tryz.prog 65→n≤reachBytes):∃ v l,cs=[v]∧RdA W v l∧(∀ b,b∈l→b.length≤140737488355328)∧l.length * 24≤140737488351232:=by
 rcases open_slice Tryz.underlying65 h with ⟨rfl,_⟩ | ⟨a,len,cap,m,n,D,Pl,rfl,_,hl,hm,hmm,rfl,hx⟩
 · exact ⟨_,[],rfl,RdA.nil _ _ _,by simp,by simp⟩
 · simp only [if_true] at hmm
   subst hmm
   by_cases h0:len=0
   · subst h0
     exact ⟨_,[],rfl,RdA.nil _ _ _,by simp,by simp⟩
   · have hbig:len * 24≤140737488351232:=by
      have:=hw ((((List.range len).map D).length+((List.range (m - len)).map fun j=>D (len+j)).length) * Tryz.prog.bytesOf 71) (by
       simp only [DataW.weights,Tryz.underlying65]
       exact List.mem_cons_self)
      rw [bytes_bytes] at this
      simp only [List.length_map,List.length_range] at this
      unfold reachBytes at this
      omega
     have each:∀ i,i<len→∃ y:Value × B8,W.cell? (a.add i)=some y.1∧RdY W y.1 y.2∧y.2.length≤140737488355328:=by
      intro i hi
      obtain ⟨cs',h1,h2⟩:=hx i (by omega)
      rw [cells_bytes] at h1
      obtain ⟨_,hlen,hcell⟩:=World.cells?_some h1
      obtain ⟨v,y,rfl,hr,hy⟩:=trod_bytes h2 (fun n' hn'=>hw n' (by
       simp only [DataW.weights,Tryz.underlying65]
       refine List.mem_cons_of_mem _ (List.mem_append_left _ ?_)
       exact weightsAll_mem (List.mem_map.2 ⟨i,List.mem_range.2 hi,rfl⟩) hn'))
      refine ⟨(v,y),?_,hr,hy⟩
      have e0:=hcell 0 (by simp)
      rw [add_add] at e0
      simpa using e0
     obtain ⟨f,hf'⟩:=choose_lt each
     obtain ⟨b,off,spot⟩:=a
     have hc00:=(hf' 0 (by omega)).1
     obtain rfl:=spot_none hc00 rfl
     have hlenr:((List.range len).map fun i=>(f i).2).length=len:=by simp
     refine ⟨_,(List.range len).map fun i=>(f i).2,rfl,⟨by rw [hlenr];omega,.inr ⟨b,off,_,by rw [hlenr],⟨by rw [hlenr];omega,hm⟩,?_,fun i hi=>?_⟩⟩,fun y hy=>?_,by rw [hlenr];exact hbig⟩
     · rw [Addr.add_lit] at hc00
       exact World.block_lt_of_cell? W _ hc00
     · rw [hlenr] at hi
       obtain ⟨q0,q1,_⟩:=hf' i hi
       have eg:((List.range len).map fun i=>(f i).2).getD i []=(f i).2:=by simp [hi]
       rw [eg]
       rw [Addr.add_lit] at q0
       exact ⟨_,q0,q1⟩
     · obtain ⟨i,hi,rfl⟩:=List.mem_map.1 hy
       exact (hf' i (List.mem_range.1 hi)).2.2
theorem open_img {H:Type} {enc:TypeId × Value→H} {W:World} {v:Value} {d:DataW H} {p:List MemPlace} {base:Nat}
 (hv:Value.okWide Tryz.prog W .any base 65 v) (h:DataW.Trod enc Tryz.prog W 0 (fun _=>true) true 65 v d p) (hw:∀ n,n∈d.weights Tryz.prog 65→n≤reachBytes):∃ (l:List B8) (q:Option Addr) (c:Nat),v=.slice q l.length c∧RdA W (.slice q l.length c) l∧(∀ b,b∈l→b.length≤140737488355328)∧l.length * 24≤140737488351232:=by
 obtain ⟨a0,len,cap,rfl⟩:=okWide_slice Tryz.underlying65 hv
 obtain ⟨fuel,hf⟩:=h
 obtain ⟨v',l,hcs,hl,hb⟩:=trod_img hf hw
 simp [Value.cells] at hcs
 subst hcs
 obtain ⟨q,c,hv⟩:=hl.len
 rw [hv] at hl ⊢
 exact ⟨l,q,c,rfl,hl,hb⟩
theorem open_rcd {H:Type} {enc:TypeId × Value→H} {W:World} {v:Value} {d:DataW H} {p:List MemPlace} {base:Nat}
 (hv:Value.okWide Tryz.prog W .any base 42 v) (h:DataW.Trod enc Tryz.prog W 0 (fun _=>true) true 42 v d p) (hw:∀ n,n∈d.weights Tryz.prog 42→n≤reachBytes) :
 ∃ (y:Rcd) (q:Option Addr) (c:Nat) (q':Option Addr) (c':Nat),v=aggR y (.slice q y.grant.stamp.length c) (.slice q' y.stamp.length c')∧RdN W (.slice q y.grant.stamp.length c) y.grant.stamp∧RdN W (.slice q' y.stamp.length c') y.stamp∧inR y:=by
 obtain ⟨f0,f1,f2,f3,f4,f5,f6,hs,_⟩:=rcd_fields
 obtain ⟨cs,rfl,hsz⟩:=okWide_struct hs hv
 obtain ⟨fuel,hf⟩:=h
 obtain ⟨y,q,c,q',c',hcs,h1,h2,h3⟩:=trod_rcd hf hw
 simp [Value.cells] at hcs
 exact ⟨y,q,c,q',c',by unfold aggR;rw [← hcs],h1,h2,h3⟩
end Go.Proofs.YtpphoeimakjjdaaGreatDoor
