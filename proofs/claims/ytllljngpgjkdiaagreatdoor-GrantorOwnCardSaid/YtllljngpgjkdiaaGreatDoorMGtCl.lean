/-
  GtV GtO GtZ GtE GtAk GtNi GtOw GtE2 GtCl: see the remarks below.
-/
import Derived.Test.YtllljngpgjkdiaaGreatDoorMGtY
import Derived.Test.YtllljngpgjkdiaaGreatDoorMGtRu
import Derived.Test.YtllljngpgjkdiaaGreatDoorMGtA
/-
  WALKS: layer 16: Under; Open; Root; a grantor that is nil.
-/
namespace Go.Proofs.YtllljngpgjkdiaaGreatDoor
set_option maxRecDepth 100000
set_option maxHeartbeats 2000000
open Go.RowKit Go.Maps

section
variable {w:World} {pg:Nat} {b:GB} {d:Dk} {g:Gtr}
def undB (now:Int) (path:List UInt8) (h:Hld):Bool:=decide (now<h.exp)&&coversB path h.gr.path.data.toList
def UndRel (W1:World) (lh:List (Hld × Value)) (now:Int) (path:List UInt8) (u i:Value) (wr:World):Prop :=
 ∃ k n:Nat,i=.int .i64 (k:Int)∧k≤lh.length∧((lh.take k).filter fun p=>undB now path p.1).length=n∧wr.ownsRow W1.heap.size 44 9 u n (((lh.take k).filter fun p=>undB now path p.1).flatMap encH)∧Mod [] W1 wr
theorem take_filter {α:Type} [Inhabited α] (l:List α) (f:α→Bool) {k:Nat} (hk:k<l.length):(l.take (k+1)).filter f=(l.take k).filter f++if f (l.getD k default)=true then [l.getD k default] else []:=by
 rw [List.take_add_one,List.filter_append]
 simp [hk,List.filter_cons]
theorem under_of {v:Option Addr} {l:List Hld} (hl:Calls Tryz.prog 22 #[.pointer v] w fun e w'=>ListTo w l e w') (hn:l.length≤1000) (hpz:∀ x,x∈l→x.gr.path.size≤9223372036854775807) (now:Int) (path:ByteArray) (hp:path.size≤9223372036854775807) :
 Calls Tryz.prog 21 #[.pointer v,.int .i64 now,.string path] w fun e w'=>ListTo w (l.filter (undB now path.data.toList)) e w':=by
 have HP:=hide hpz
 clear hpz
 go_enter Tryz.func21,Tryz.ntmps21
 go_wp2_with (go_at_call 22;refine hl.mono ?_;rintro e w1 ⟨q,c,lh,rfl,hmap,h1,m1⟩;have H1:=hd3 hmap h1 m1;clear hmap h1 m1 hl)
 have hll:lh.length≤1000:=by
  have:=congrArg List.length H1.out.1
  rw [List.length_map] at this
  omega
 obtain ⟨N,hN⟩:∃ n,lh.length=n:=⟨_,rfl⟩
 rw [hN]
 go_loopw [7,13] (fun u i wr=>UndRel w1 lh now path.data.toList u i wr) (fun _ i _=>N - (intOf i).toNat)
 case atStart=>exact ⟨0,0,rfl,Nat.zero_le _,rfl,World.ownsRow_nil _ _ _ _,Mod.refl _ _⟩
 case round =>
  obtain ⟨k,n,rfl,hk,hfl,hrow,hm⟩:=hrel
  by_cases hlt':k<lh.length
  · have hlt:k<N:=by omega
    obtain ⟨bb,rfl,-,-,hc,-,hrd⟩:=(H1.out.2.1.mod hm (by simp)).at_ k hlt'
    have htk:=take_filter lh (fun p=>undB now path.data.toList p.1) hlt'
    have hpx:=HP.out (lh.getD k default).1 (by rw [← H1.out.1];exact List.mem_map.2 ⟨lh.getD k default,by simp [hlt'],rfl⟩)
    generalize lh.getD k default=x at hc hrd htk hpx
    obtain ⟨⟨⟨xi,xh,xp,xm,xs,xt⟩,xe,xo,xn⟩,sv⟩:=x
    simp only at hrd htk hpx
    obtain ⟨qs,cs,rfl⟩:=hrd.len
    have k0:wr.cell? ⟨bb,k * 9,none⟩=some (.int .i64 xi):=hc 0 (by decide)
    have k1:wr.cell? ⟨bb,k * 9+1,none⟩=some (.int .i64 xh):=hc 1 (by decide)
    have k2:wr.cell? ⟨bb,k * 9+2,none⟩=some (.string xp):=hc 2 (by decide)
    have k3:wr.cell? ⟨bb,k * 9+3,none⟩=some (.int .i64 xm):=hc 3 (by decide)
    have k4:wr.cell? ⟨bb,k * 9+4,none⟩=some (.slice qs xs.length cs):=hc 4 (by decide)
    have k5:wr.cell? ⟨bb,k * 9+5,none⟩=some (.int .i64 xt):=hc 5 (by decide)
    have k6:wr.cell? ⟨bb,k * 9+6,none⟩=some (.int .i64 xe):=hc 6 (by decide)
    have k7:wr.cell? ⟨bb,k * 9+7,none⟩=some (.int .i64 xo):=hc 7 (by decide)
    have k8:wr.cell? ⟨bb,k * 9+8,none⟩=some (.int .i64 xn):=hc 8 (by decide)
    have i1:(0:Int)≤(k:Int):=by omega
    have i2:(k:Int)<(N:Int):=by omega
    have hnk:n≤k:=by
     rw [← hfl]
     refine Nat.le_trans (List.length_filter_le _ _) ?_
     rw [List.length_take];omega
    have hcv:=fun (W:World)=>covers_any path xp hp hpx W
    obtain ⟨d1,hd1⟩:∃ r,decide (now<xe)=r:=⟨_,rfl⟩
    obtain ⟨d2,hdd2⟩:∃ r,coversB path.data.toList xp.data.toList=r:=⟨_,rfl⟩
    have hub:undB now path.data.toList ⟨⟨xi,xh,xp,xm,xs,xt⟩,xe,xo,xn⟩=(d1&&d2):=by rw [← hd1,← hdd2];rfl
    rw [hub] at htk
    rw [hdd2] at hcv
    have HM:=hd5 hm hrow htk hfl hnk
    obtain ⟨W2,hW2⟩:∃ W2,W2=wr.alloc (.cells #[.int .i64 xi,.int .i64 xh,.string xp,.int .i64 xm,.slice qs xs.length cs,.int .i64 xt,.int .i64 xe,.int .i64 xo,.int .i64 xn] 44 (0,0)):=⟨_,rfl⟩
    have hb2:W2.heap[wr.heap.size]?=some (.cells #[.int .i64 xi,.int .i64 xh,.string xp,.int .i64 xm,.slice qs xs.length cs,.int .i64 xt,.int .i64 xe,.int .i64 xo,.int .i64 xn] 44 (0,0)):=by rw [hW2];exact heap_alloc_new wr _
    have m2:Mod [] wr W2:=by rw [hW2];exact (Mod.refl _ _).alloc _
    have HB:=hd2 hb2 m2
    clear hc hrd htk hpx hm hrow hub hdd2 hb2 m2 hfl
    go_upto_region 5 with fail
    rw [← hW2]
    clear hW2 k0 k1 k2 k3 k4 k5 k6 k7 k8
    have CB:=blk_cell HB.out.1
    have hlb:=lt_of_block HB.out.1
    cases d1 with
    | false =>
      clear hcv
      go_wp2_with fail
      go_roundw
      case rel=>exact ⟨k+1,n,by go_num,by omega,by rw [HM.out.2.2.1];simpa using HM.out.2.2.2.1,by rw [HM.out.2.2.1];simpa using HB.out.2.row HM.out.2.1 (by simp),HM.out.1.then HB.out.2⟩
      case measure=>simp [intOf];omega
    | true =>
      cases d2 with
      | false =>
        go_wp2_with (go_at_call 66;refine (hcv _).mono ?_;rintro e w3 ⟨rfl,hx⟩;rw [hx];clear hx hcv)
        go_roundw
        case rel=>exact ⟨k+1,n,by go_num,by omega,by rw [HM.out.2.2.1];simpa using HM.out.2.2.2.1,by rw [HM.out.2.2.1];simpa using HB.out.2.row HM.out.2.1 (by simp),HM.out.1.then HB.out.2⟩
        case measure=>simp [intOf];omega
      | true =>
        obtain ⟨W3,hW3⟩:∃ W3,W3=W2.alloc (.cells #[.int .i64 xi,.int .i64 xh,.string xp,.int .i64 xm,.slice qs xs.length cs,.int .i64 xt,.int .i64 xe,.int .i64 xo,.int .i64 xn] 44 (0,0)):=⟨_,rfl⟩
        have hk3:W3.heap[W2.heap.size]?=some (.cells (encH (⟨⟨xi,xh,xp,xm,xs,xt⟩,xe,xo,xn⟩,.slice qs xs.length cs)).toArray 44 (0,0)):=by rw [hW3];exact heap_alloc_new W2 _
        have m3:Mod [] W2 W3:=by rw [hW3];exact (Mod.refl _ _).alloc _
        have HW:=hd3 m3 hk3 hW3
        clear m3 hk3 hW3
        go_wp2_with (first
         | (go_at_call 66;refine (hcv _).mono ?_;rintro e w3 ⟨rfl,hx⟩;rw [hx];clear hx hcv)
         | (at_builtin
            rw [← HW.out.2.2]
            have hnk:=HM.out.2.2.2.2
            have hsz:=HM.out.1.size
            have hs2:=HB.out.2.size
            have hs3:=HW.out.1.size
            refine wpList_app_h (n:=n) (p:=(⟨⟨xi,xh,xp,xm,xs,xt⟩,xe,xo,xn⟩,.slice qs xs.length cs)) W3 rfl _ _ rfl rfl ((HB.out.2.then HW.out.1).row HM.out.2.1 (by simp)) (by omega) (by omega) (k:=W2.heap.size) rfl HW.out.2.1 rfl ?_
            rintro u' w5 hr5 hm5 ⟨p5,c5,rfl⟩ -)
         | fail)
        go_roundw
        case rel =>
         refine ⟨k+1,n+1,by go_num,by omega,by rw [HM.out.2.2.1];simpa using HM.out.2.2.2.1,by rw [HM.out.2.2.1,List.flatMap_append];simpa using hr5,?_⟩
         exact ((HM.out.1.then HB.out.2).then HW.out.1).trans hm5 (by simp) (fun x hx hlt=>by
          have:=(ob_of_row HM.out.2.1 x hx).1
          omega)
        case measure=>simp [intOf];omega
  · obtain rfl:k=lh.length:=by omega
    rw [List.take_length] at hrow hfl
    obtain ⟨q3,c3,rfl,-⟩:=row_form hrow
    have HX:=hd3 hrow hm hfl
    have hlt:¬ (lh.length<N):=by omega
    clear hrow hm hfl
    go_wp2_with fail
    go_ret
    refine ⟨q3,c3,lh.filter fun p=>undB now path.data.toList p.1,by rw [HX.out.2.2];rfl,?_,⟨?_,fun p hp=>?_⟩,H1.out.2.2.then HX.out.2.1⟩
    · rw [← H1.out.1,List.filter_map]
      rfl
    · rw [HX.out.2.2]
      exact row_base HX.out.1 H1.out.2.2.size
    · have hp0:=(List.mem_filter.1 hp).1
      have hs:=(H1.out.2.1.st p hp0).1
      refine ⟨HX.out.2.1.row hs (by simp),fun x hx hx2=>?_⟩
      have h1:=(ob_of_row hs x hx).2
      have h2:=(ob_of_row HX.out.1 x (by rw [HX.out.2.2] at hx2;exact hx2)).1
      omega
theorem held_path {g:Gtr} (hi:GI g):∀ x,x∈listG g→x.gr.path.size≤9223372036854775807:=by
 intro x hx
 unfold listG at hx
 obtain ⟨y,hy,rfl⟩:=List.mem_map.1 hx
 have h3:=(grant_iff.1 (hi.gr hy).1).2.2.1
 have hp:y.path.size≤27:=by have:=pathOk_len h3;simpa using this
 show y.path.size≤_
 omega
theorem gunder_any (h:GM w pg b d g) (hi:GI g) (now:Int) (path:ByteArray) (hp:path.size≤9223372036854775807) :
 Calls Tryz.prog 21 #[.pointer (some ⟨pg,0,none⟩),.int .i64 now,.string path] w fun e w'=>ListTo w (underG g now path.data.toList) e w' :=
 under_of (list_any h hi) (list_len hi) (held_path hi) now path hp
theorem gunder_nil (w:World) (now:Int) (path:ByteArray) (hp:path.size≤9223372036854775807) :
 Calls Tryz.prog 21 #[.pointer none,.int .i64 now,.string path] w fun e w'=>ListTo w [] e w' :=
 under_of (list_nil w) (by simp) (by simp) now path hp
theorem root_any (w:World):Calls Tryz.prog 10 #[] w fun e w'=>e=.returned (aggL rootL (.slice none 0 0))∧Mod [] w w':=by
 unfold aggL cellsL rootL
 simp only
 go_enter Tryz.func10,Tryz.ntmps10
 go_wp2_with fail
 exact bodyPost_ret (v:=.agg #[.int .i64 0,.int .i64 0,.string ⟨#[]⟩,.int .i64 2,.slice none 0 0,.int .i64 0,.int .i64 0,.int .i64 4611686018427387904,.bool false]) (res_cell1 Tryz.results10 _ _ rfl (heap_alloc_new w (.cells #[.int .i64 0,.int .i64 0,.string ⟨#[]⟩,.int .i64 2,.slice none 0 0,.int .i64 0,.int .i64 0,.int .i64 4611686018427387904,.bool false] 25)) Tryz.isAgg25 Tryz.sizeOf25) rfl ⟨rfl,(Mod.refl _ _).alloc _⟩
/-! ### a grantor that is nil -/
theorem quar_nil (w:World):Calls Tryz.prog 23 #[.pointer none] w fun e w'=>e=.returned (.int .i64 0)∧w'=w:=by
 go_enter Tryz.func23,Tryz.ntmps23
 go_wp2_with fail
 go_ret
 exact ⟨rfl,rfl⟩
theorem blocks_nil (w:World) (now:Int) (path:ByteArray) (mode:Int):Calls Tryz.prog 20 #[.pointer none,.int .i64 now,.string path,.int .i64 mode] w fun e w'=>e=.returned (.bool false)∧w'=w:=by
 go_enter Tryz.func20,Tryz.ntmps20
 go_wp2_with fail
 go_ret
 exact ⟨rfl,rfl⟩
theorem end_nil (w:World) (id holder:Int):Calls Tryz.prog 16 #[.pointer none,.int .i64 id,.int .i64 holder] w fun e w'=>e=.returned (.tuple #[.bool false,.int .i64 1])∧w'=w:=by
 go_enter Tryz.func16,Tryz.ntmps16
 go_wp2_with fail
 go_ret2
 exact ⟨rfl,rfl⟩
theorem done_nil (w:World) (id holder origin number:Int):Calls Tryz.prog 17 #[.pointer none,.int .i64 id,.int .i64 holder,.int .i64 origin,.int .i64 number] w fun e w'=>e=.returned (.tuple #[.bool false,.int .i64 1])∧w'=w:=by
 go_enter Tryz.func17,Tryz.ntmps17
 go_wp2_with fail
 go_ret2
 exact ⟨rfl,rfl⟩
theorem mark_nil (w:World) (id origin number:Int):Calls Tryz.prog 19 #[.pointer none,.int .i64 id,.int .i64 origin,.int .i64 number] w fun e w'=>e=.returned (.bool false)∧Mod [] w w':=by
 have hh:=held_nil w id
 unfold HeldTo at hh
 simp only [Option.getD_none,Option.isSome_none,aggH,encH,Hld.zero,Grt.zero] at hh
 go_enter Tryz.func19,Tryz.ntmps19
 go_wp2_with (go_at_call 18;refine hh.mono ?_;rintro e w1 ⟨q,c,rfl,-,m1⟩;have H1:=hide m1;clear m1 hh)
 go_ret
 exact ⟨rfl,H1.out.alloc _⟩
end
end Go.Proofs.YtllljngpgjkdiaaGreatDoor
/-
  WALKS: layer 16: Open.
-/
namespace Go.Proofs.YtllljngpgjkdiaaGreatDoor
set_option maxRecDepth 100000
set_option maxHeartbeats 2000000
open Go.RowKit Go.Maps

section
variable {w:World} {d:Dk}
def gbL (pl pd bs:Nat) (gv:Value) (lv:List (Grt × Value)):List Nat:=pl::pd::bs::(ob gv++lv.flatMap fun p=>ob p.2)
structure GNew (W wx:World) (pl pd bs:Nat) (gv:Value) (lv:List (Grt × Value)) (d:Dk) (g:Gtr) (pg:Nat) (b:GB):Prop where
 gm:GM wx pg b d g
 eq:b.pl=pl∧b.pd=pd∧b.bs=bs∧b.led=gbL pl pd bs gv lv
 md:Mod [] W wx
 new:∀ k,k∈b.all pg→k∈gbL pl pd bs gv lv∨W.heap.size≤k
theorem gm_new {W0 W:World} {pl pd bs:Nat} {gv:Value} {lv:List (Grt × Value)} {l:Lg} {sb wb nb:Nat} {N:List Nd} (m:Mod [] W0 W) (hl:LgM W pl pd bs gv lv d l) (hled:∀ k,k∈gbL pl pd bs gv lv→k<W0.heap.size) (hs:SetM W sb wb N []) (hsn:∀ k,k∈sb::wb::blksN N→W0.heap.size≤k)
 (hn:MapL iK W nb []) (hnn:W0.heap.size≤nb) (hns:nb ∉ sb::wb::blksN N) (ends:Int):∃ pg b,W.heap.size=pg∧objG b ends=.cells #[.pointer (some ⟨pl,0,none⟩),.pointer (some ⟨sb,0,none⟩),.map (some nb),.int .i64 ends] 81 (0,0)∧GNew W0 (W.alloc (objG b ends)) pl pd bs gv lv d ⟨l,[],[],ends⟩ pg b:=by
 have ma:Mod [] W (W.alloc (objG ⟨pl,pd,bs,sb,wb,nb,N,gv,lv⟩ ends)):=(Mod.refl _ _).alloc _
 have hsl:=hs.lt
 have hnl:=hn.lt
 have hz:=m.size
 have hset:∀ k,k∈(⟨pl,pd,bs,sb,wb,nb,N,gv,lv⟩:GB).set→W0.heap.size≤k∧k<W.heap.size:=fun k hk=>⟨hsn k hk,hsl k hk⟩
 have hld:∀ k,k∈(⟨pl,pd,bs,sb,wb,nb,N,gv,lv⟩:GB).led→k<W0.heap.size:=hled
 refine ⟨W.heap.size,⟨pl,pd,bs,sb,wb,nb,N,gv,lv⟩,rfl,rfl,⟨⟨heap_alloc_new W _,hl.quiet ma,hs.same ma,hn.mod ma (by simp),⟨fun k hk=>⟨fun e=>?_,?_,?_⟩,hns,fun e=>?_,?_⟩⟩,⟨rfl,rfl,rfl,rfl⟩,m.then ma,fun k hk=>?_⟩⟩
 · have h1:=hld k hk
   have h2:=(hset k e).1
   omega
 · have h1:=hld k hk
   show k≠nb
   omega
 · have h1:=hld k hk
   show k≠W.heap.size
   omega
 · have:=(hset _ e).2
   omega
 · show W.heap.size≠nb
   omega
 · rcases mem_all.1 hk with rfl | rfl | hk | hk
   · exact .inr hz
   · exact .inr hnn
   · exact .inl hk
   · exact .inr (hset k hk).1
def OpnTo (w:World) (pl pd bs:Nat) (gv:Value) (lv:List (Grt × Value)) (d:Dk) (g:Gtr) (e:Ending) (w':World):Prop :=
 ∃ pg b,e=.returned (.tuple #[.pointer (some ⟨pg,0,none⟩),.int .i64 0])∧GM w' pg b d g∧b.pl=pl∧b.pd=pd∧b.bs=bs∧Mod (gbL pl pd bs gv lv) w w'∧∀ k,k∈b.all pg→k∈gbL pl pd bs gv lv∨w.heap.size≤k
def OpnRel (W1:World) (pg:Nat) (b1:GB) (d:Dk) (g1:Gtr) (gs:List Grt) (en:Int) (i:Value) (wr:World):Prop :=
 ∃ (k:Nat) (b':GB),i=.int .i64 (k:Int)∧k≤gs.length∧GM wr pg b' d ((gs.take k).foldl (fun g x=>keepG g x en) g1)∧GTo W1 pg b1 wr b'
theorem fold_len (en:Int):∀ (l:List Grt) (g:Gtr),(l.foldl (fun g x=>keepG g x en) g).nt.length≤g.nt.length+l.length∧(l.foldl (fun g x=>keepG g x en) g).ends=g.ends
 | [],_=>⟨by simp,rfl⟩
 | x::r,g=>by
   obtain ⟨h1,h2⟩:=fold_len en r (keepG g x en)
   have:(keepG g x en).nt.length≤g.nt.length+1:=by
    show (ntSet g.nt x.id ⟨en,0,0⟩).length≤_
    have:=ntDel_len g.nt x.id
    simp only [ntSet,List.length_cons]
    omega
   simp only [List.foldl_cons,List.length_cons]
   exact ⟨by omega,h2⟩
theorem gopen_any {pl pd bs:Nat} {gv:Value} {lv:List (Grt × Value)} {l:Lg} (h:LgM w pl pd bs gv lv d l) (hv:validB l.book=true) {now:Int} (ht:timeOk now) (hlo:0≤l.book.longest∧l.book.longest≤1048576) :
 Calls Tryz.prog 11 #[.pointer (some ⟨pl,0,none⟩),.int .i64 now] w fun e w'=>OpnTo w pl pd bs gv lv d (openG l now) e w':=by
 have hbk:=book_sep h hv
 have hti:=fun (W:World)=>isTime_any now W
 rw [decide_eq_true ht] at hti
 obtain ⟨en,hen⟩:∃ en,now+l.book.longest=en:=⟨_,rfl⟩
 have hwr:IntKind.i64.wrap (now+l.book.longest)=en:=by
  obtain ⟨t1,t2⟩:=ht
  rw [IntKind.wrap_i64];omega
 obtain ⟨R,hR⟩:∃ R,openG l now=R:=⟨_,rfl⟩
 rw [hR]
 unfold openG at hR
 rw [hen] at hR
 have hsix:l.book.grants.length≤6:=(valid_iff.1 hv).2.2.1
 have hgr:∀ x,x∈l.book.grants→(Lit.int .i64 x.id).wf=true∧x.path.size≤9223372036854775807:=fun x hx=>by
  have hq:=grant_iff.1 (okFrom_mem (valid_iff.1 hv).2.2.2 x hx).1
  have hp:x.path.size≤27:=by have:=pathOk_len hq.2.2.1;simpa using this
  exact ⟨count_wf hq.1,by omega⟩
 have hlb:=h.lt
 have hpl:=lt_of_block h.blk
 have hled:∀ k,k∈gbL pl pd bs gv lv→k<w.heap.size:=by
  intro k hk
  simp only [gbL,List.mem_cons,List.mem_append,List.mem_flatMap] at hk
  rcases hk with rfl | rfl | rfl | hk | ⟨p,hp,hk⟩
  · exact hpl
  · omega
  · omega
  · exact (ob_of_row h.bk.gr.row k hk).2
  · exact (ob_of_row (h.bk.gr.st p hp).1 k hk).2
 have HH:=hd5 h hR hgr hled hen
 have hmm:=@run_makeMap Tryz.prog
 clear h hv hR hgr hled hlb hpl ht hen
 go_enter Tryz.func11,Tryz.ntmps11
 go_upto_region 6 with (first
  | (go_at_call 37;refine (hti _).mono ?_;rintro e w1 ⟨rfl,hx⟩;rw [hx];clear hx)
  | (go_at_call 38
     refine hbk.mono ?_
     rintro e w1 ⟨gv2,lv2,rfl,hB,m1,-⟩
     obtain ⟨q1,c1,rfl,-⟩:=hB.gr.shape
     have H1:=hd2 hB m1
     unfold aggB
     clear hB m1 hbk)
  | fail)
 obtain ⟨n,hn⟩:∃ n,lv2.length=n:=⟨_,rfl⟩
 rw [hn] at H1 ⊢
 have hgl:l.book.grants.length=n:=by rw [H1.out.1.eq,List.length_map,hn]
 obtain ⟨W1,hW1⟩:∃ W1,W1=w1.alloc (.cells #[.int .i64 l.book.next,.int .i64 l.book.boots,.int .i64 l.book.longest,.slice q1 n c1] 75 (0,0)):=⟨_,rfl⟩
 rw [← hW1]
 have hb1:W1.heap[w1.heap.size]?=some (.cells #[.int .i64 l.book.next,.int .i64 l.book.boots,.int .i64 l.book.longest,.slice q1 n c1] 75 (0,0)):=by rw [hW1];exact heap_alloc_new w1 _
 have m11:Mod [] w1 W1:=by rw [hW1];exact (Mod.refl _ _).alloc _
 have hz1:W1.heap.size=w1.heap.size+1:=by rw [hW1];simp
 have HCB:=hide (fun (W:World) (m:Mod [] W1 W)=>blk_cell (m.at_ hb1 (by simp)))
 have HL1:=hide (HH.out.1.quiet (H1.out.2.then m11))
 have hled1:∀ k,k∈gbL pl pd bs gv lv→k<W1.heap.size:=fun k hk=>by have:=HH.out.2.2.2.1 k hk;have:=H1.out.2.size;omega
 have HD1:=hd5 hled1 m11 hz1 hgl hn
 have hb1l:=lt_of_block hb1
 have hn6:n≤6:=by omega
 clear hW1 hb1 m11 hled1 hz1 hgl hn
 go_cut [7] (fun s7 wx=>∃ pg b,s7=.pointer (some ⟨pg,0,none⟩)∧GNew W1 wx pl pd bs gv lv d ⟨l,[],[],en⟩ pg b)
 case first =>
  refine pB 999 (Mod [] W1) ((Mod.refl [] W1).drew) ?_
  refine pP 0 ?_;refine pP 3 ?_;refine pP 4 ?_
  refine pH 5 rfl (fun w h=>by have D:=HCB.out _ h;go_simp;try with_reducible rfl) ?_
  refine pP 6 ?_
  refine pX2 1 2 (fun hT K HK=>?_) (fun hT K HK=>?_)
  · go_simp
    refine (snew_any _).mono ?_
    rintro e w2 ⟨sb,wb,N,rfl,hs,hsn,g2⟩
    have hz2:=g2.size
    have hsn':∀ k,k∈sb::wb::blksN N→W1.heap.size≤k:=fun k hk=>hsn k hk
    have m2:Mod [] W1 w2:=hT.then (g2.mod [])
    have H2:=hd3 hs hsn' m2
    refine HK.out _ _ _ m2 ?_
    clear HK K hT m2 hs hsn hsn' g2 hz2
    refine pX 2 fun hT K HK=>?_
    go_simp
    obtain ⟨w3,hw3⟩:∃ w3,w3=w2.alloc (.map #[] 0):=⟨_,rfl⟩
    have ml:MapL iK w3 w2.heap.size []:=by rw [hw3];exact MapL.made w2
    have m23:Mod [] w2 w3:=by rw [hw3];exact (Mod.refl _ _).alloc _
    rw [← hw3]
    have m13:=H2.out.2.2.then m23
    have hsl:=H2.out.1.lt
    obtain ⟨pg,b,hpg,hob,hN⟩:=gm_new m13 (HL1.out.quiet m13) HD1.out.1 (H2.out.1.same m23) H2.out.2.1 ml H2.out.2.2.size (fun e=>by have:=hsl _ e;omega) en
    have HN:=hd2 m13 hN
    refine HK.out _ _ _ m13 ?_
    clear HK K hT hw3 ml m23 m13 hsl hN
    refine pP 7 ?_
    refine pX 8 fun hT K HK=>?_
    go_simp
    rw [← hob]
    refine HK.out _ _ _ HN.out.2.md ?_
    clear HK K hT
    refine pP 9 ?_
    refine pE fun hT=>?_
    clear hT
    go_wp2_with fail
    go_meet
    case rel=>exact ⟨pg,b,rfl,HN.out.2⟩
  · go_simp
    obtain ⟨w2,hw2⟩:∃ w2,w2=(W1.alloc (.map #[] 0)).drew:=⟨_,rfl⟩
    have ml:MapL iK w2 W1.heap.size []:=by rw [hw2];exact (MapL.made W1).mod ((Mod.refl [] _).drew) (by simp)
    have m12:Mod [] W1 w2:=by rw [hw2];exact ((Mod.refl _ _).alloc _).drew
    have hz2:w2.heap.size=W1.heap.size+1:=by rw [hw2];simp
    rw [← hw2]
    have H2:=hd3 ml m12 hz2
    refine HK.out _ _ _ m12 ?_
    clear HK K hT hw2 ml m12 hz2
    refine pX 1 fun hT K HK=>?_
    go_simp
    refine (snew_any _).mono ?_
    rintro e w3 ⟨sb,wb,N,rfl,hs,hsn,g3⟩
    have m13:=H2.out.2.1.then (g3.mod [])
    have hz2:=H2.out.2.2
    obtain ⟨pg,b,hpg,hob,hN⟩:=gm_new m13 (HL1.out.quiet m13) HD1.out.1 hs (fun k hk=>by have:=hsn k hk;omega) (H2.out.1.mod (g3.mod []) (by simp)) (Nat.le_refl _) (fun e=>by have:=hsn _ e;omega) en
    have HN:=hd2 m13 hN
    refine HK.out _ _ _ m13 ?_
    clear HK K hT m13 hs hsn g3 hN hz2
    refine pP 7 ?_
    refine pX 8 fun hT K HK=>?_
    go_simp
    rw [← hob]
    refine HK.out _ _ _ HN.out.2.md ?_
    clear HK K hT
    refine pP 9 ?_
    refine pE fun hT=>?_
    clear hT
    go_wp2_with fail
    go_meet
    case rel=>exact ⟨pg,b,rfl,HN.out.2⟩
 case rest =>
  obtain ⟨pg,b1,rfl,hN⟩:=hcut
  obtain ⟨W3,rfl⟩:∃ x:World,x=wc:=⟨_,rfl⟩
  have C3:=HCB.out _ hN.md
  have HN:=hide hN
  clear hN
  go_wp2_with fail
  go_loopw [31] (fun i wr=>OpnRel W3 pg b1 d ⟨l,[],[],en⟩ l.book.grants en i wr) (fun i _=>n - (intOf i).toNat)
  case atStart=>exact ⟨0,b1,rfl,Nat.zero_le _,HN.out.gm,GTo.refl _ _ _⟩
  case round =>
   obtain ⟨k,b',rfl,hk,hg,ht⟩:=hrel
   rw [HD1.out.2.2.2.1] at hk
   by_cases hlt:k<n
   · have hlt':k<lv2.length:=by rw [HD1.out.2.2.2.2];exact hlt
     have hap:∀ x,x∈b1.all pg→x<w.heap.size∨w1.heap.size≤x:=fun x hx=>by
      rcases HN.out.new x hx with e | e
      · exact .inl (HH.out.2.2.2.1 x e)
      · have:=HD1.out.2.2.1;exact .inr (by omega)
     have m13:=(HD1.out.2.1.then HN.out.md)
     have m1r:Mod (b1.all pg) w1 wr:=(m13.mono (by simp)).trans ht.mod (fun _ h _=>h) (fun _ h _=>h)
     obtain ⟨bb,rfl,-,hb1',hc,-,hrd⟩:=(H1.out.1.gr.mod m1r hap).at_ k hlt'
     have hge:l.book.grants.getD k default=(lv2.getD k default).1:=by rw [H1.out.1.eq];simp [hlt']
     have hmem:l.book.grants.getD k default∈l.book.grants:=by
      have:k<l.book.grants.length:=by rw [HD1.out.2.2.2.1];exact hlt
      simp [this]
     obtain ⟨hwf,hpz⟩:=HH.out.2.2.1 _ hmem
     have htk:l.book.grants.take (k+1)=l.book.grants.take k++[(lv2.getD k default).1]:=by
      have:k<l.book.grants.length:=by rw [HD1.out.2.2.2.1];exact hlt
      rw [← hge,List.take_add_one]
      simp [this]
     rw [hge] at hwf hpz
     generalize lv2.getD k default=pr at hc hrd hwf hpz htk
     obtain ⟨⟨id,ho,pa,mo,st,te⟩,sv⟩:=pr
     simp only at hrd hwf hpz htk
     obtain ⟨qs,cs,rfl⟩:=hrd.len
     have c0:wr.cell? ⟨bb,k * 6,none⟩=some (.int .i64 id):=hc 0 (by decide)
     have c1:wr.cell? ⟨bb,k * 6+1,none⟩=some (.int .i64 ho):=hc 1 (by decide)
     have c2:wr.cell? ⟨bb,k * 6+2,none⟩=some (.string pa):=hc 2 (by decide)
     have c3:wr.cell? ⟨bb,k * 6+3,none⟩=some (.int .i64 mo):=hc 3 (by decide)
     have c4:wr.cell? ⟨bb,k * 6+4,none⟩=some (.slice qs st.length cs):=hc 4 (by decide)
     have c5:wr.cell? ⟨bb,k * 6+5,none⟩=some (.int .i64 te):=hc 5 (by decide)
     obtain ⟨W4,hW4⟩:∃ W4,W4=wr.alloc (.cells #[.int .i64 id,.int .i64 ho,.string pa,.int .i64 mo,.slice qs st.length cs,.int .i64 te] 35 (0,0)):=⟨_,rfl⟩
     have hb4:W4.heap[wr.heap.size]?=some (.cells #[.int .i64 id,.int .i64 ho,.string pa,.int .i64 mo,.slice qs st.length cs,.int .i64 te] 35 (0,0)):=by rw [hW4];exact heap_alloc_new wr _
     have m4:Mod [] wr W4:=by rw [hW4];exact (Mod.refl _ _).alloc _
     have hfl:=fold_len en (l.book.grants.take k) ⟨l,[],[],en⟩
     obtain ⟨gk,hgk⟩:∃ g,(l.book.grants.take k).foldl (fun g x=>keepG g x en) ⟨l,[],[],en⟩=g:=⟨_,rfl⟩
     rw [hgk] at hg hfl
     have g4:=hg.quiet m4
     have hkp:=keep_any (g4.quiet ((Mod.refl [] W4).drew)) (by have:=hfl.1;rw [List.length_take] at this;simp only [List.length_nil] at this;omega) (x:=⟨id,ho,pa,mo,st,te⟩) (.slice qs st.length cs) en hwf hpz
     unfold aggG cellsG at hkp
     simp only at hkp
     have C0:=g4.c3
     rw [hfl.2] at C0
     simp only at C0
     have hpg4:=lt_of_block g4.blk
     have CB:=blk_cell hb4
     have hb4l:=lt_of_block hb4
     have i1:(0:Int)≤(k:Int):=by omega
     have i2:(k:Int)<(n:Int):=by omega
     have HM:=hd4 ht m4 htk hgk
     clear hc hrd hwf hpz htk hg ht hge hmem m1r m13 hap m4 hfl hgk g4 hb4
     go_upto_region 10 with fail
     rw [← hW4]
     clear hW4 c0 c1 c2 c3 c4 c5
     go_still_tail 6,(by kernel_rfl)
     change wpList _ _ _ _ _ W4.drew
     go_wp2_with (go_at_call 40;refine hkp.mono ?_;rintro e w5 ⟨rfl,b5,g5,t5⟩;have H5:=hd2 g5 t5;clear g5 t5 hkp C0 CB)
     go_roundw
     case rel =>
      refine ⟨k+1,b5,by go_num,by rw [HD1.out.2.2.2.1];omega,?_,?_⟩
      · rw [HM.out.2.2.1,List.foldl_append,HM.out.2.2.2]
        exact H5.out.1
      · exact HM.out.1.trans ((GTo.quiet (HM.out.2.1.then ((Mod.refl [] W4).drew))).trans H5.out.2)
     case measure=>simp [intOf];omega
   · obtain rfl:k=n:=by omega
     have HX:=hd2 hg ht
     have hge:=HD1.out.2.2.2.1
     have i2:¬ (k:Int)<(k:Int):=by omega
     clear hg ht hlt
     go_wp2_with fail
     go_ret2
     have hg:=HX.out.1
     rw [List.take_of_length_le (by omega),HH.out.2.1] at hg
     refine ⟨pg,b',rfl,hg,HX.out.2.dk.2.2.trans HN.out.eq.1,HX.out.2.dk.1.trans HN.out.eq.2.1,HX.out.2.dk.2.1.trans HN.out.eq.2.2.1,?_,fun x hx=>?_⟩
     · refine (((H1.out.2.then HD1.out.2.1).then HN.out.md).mono (by simp)).trans HX.out.2.mod (fun _ h _=>h) (fun x hx hlt=>?_)
       rcases HN.out.new x hx with e | e
       · exact e
       · have:=HD1.out.2.2.1
         have:=H1.out.2.size
         omega
     · rcases HX.out.2.own x hx with e | e
       · rcases HN.out.new x e with e | e
         · exact .inl e
         · have:=HD1.out.2.2.1
           have:=H1.out.2.size
           exact .inr (by omega)
       · have:=HD1.out.2.2.1
         have:=H1.out.2.size
         have:=HN.out.md.size
         exact .inr (by omega)
end
end Go.Proofs.YtllljngpgjkdiaaGreatDoor
/-
  WALKS: layer 16: Renew, whole.
-/
namespace Go.Proofs.YtllljngpgjkdiaaGreatDoor
set_option maxRecDepth 100000
set_option maxHeartbeats 4000000
open Go.RowKit Go.Maps

section
variable {w:World} {pg:Nat} {b:GB} {d:Dk} {g:Gtr}
def Kp (w W:World) (pg:Nat) (b:GB) (wx:World):Prop:=W.heap.size≤wx.heap.size∧∀ x,w.heap.size≤x→x<W.heap.size→wx.heap[x]?=W.heap[x]?∧x ∉ b.all pg
theorem Kp.refl {W:World} (h:GM w pg b d g):Kp w W pg b W:=⟨Nat.le_refl _,fun x hx _=>⟨rfl,fun e=>by have:=h.lt x e;omega⟩⟩
theorem Kp.to {W wx wy:World} {b2:GB} (h:Kp w W pg b wx) (t:GTo wx pg b wy b2):Kp w W pg b2 wy:=by
 have hz:=h.1
 refine ⟨Nat.le_trans hz t.mod.size,fun x h1 h2=>?_⟩
 obtain ⟨a,c⟩:=h.2 x h1 h2
 refine ⟨(t.mod.block x (by omega) c).trans a,fun e=>?_⟩
 rcases t.own x e with e | e
 · exact c e
 · omega
theorem Kp.at_ {W wx:World} {x:Nat} {o:Obj} (h:Kp w W pg b wx) (hx:w.heap.size≤x) (ho:W.heap[x]?=some o):wx.heap[x]?=some o:=by
 obtain ⟨a,_⟩:=h.2 x hx (lt_of_block ho)
 rw [a,ho]
structure RnBox (w W:World) (pg:Nat) (now holder t:Int) (own:Lease) (v:Value) (B0 B1 B2 B3 B4 B5:Nat):Prop where
 m:Mod [] w W
 lo:w.heap.size≤B0∧w.heap.size≤B1∧w.heap.size≤B2∧w.heap.size≤B3∧w.heap.size≤B4∧w.heap.size≤B5
 b0:W.heap[B0]?=some (.cells #[.pointer (some ⟨pg,0,none⟩)] 27 (0,0))
 b1:W.heap[B1]?=some (.cells #[.int .i64 now] 3 (0,0))
 b2:W.heap[B2]?=some (.cells (cellsL own v) 25 (0,0))
 b3:W.heap[B3]?=some (.cells #[.int .i64 holder] 3 (0,0))
 b4:W.heap[B4]?=some (.cells #[.int .i64 t] 3 (0,0))
 b5:W.heap[B5]?=some (.cells #[.int .i64 0,.int .i64 0,.string ⟨#[]⟩,.int .i64 0,.slice none 0 0,.int .i64 0] 35 (0,0))
def rbox (w:World) (pg:Nat) (now holder t:Int) (own:Lease) (v:Value):World :=
 (((((w.alloc (.cells #[.pointer (some ⟨pg,0,none⟩)] 27 (0,0))).alloc (.cells #[.int .i64 now] 3 (0,0))).alloc (.cells (cellsL own v) 25 (0,0))).alloc (.cells #[.int .i64 holder] 3 (0,0))).alloc (.cells #[.int .i64 t] 3 (0,0))).alloc (.cells #[.int .i64 0,.int .i64 0,.string ⟨#[]⟩,.int .i64 0,.slice none 0 0,.int .i64 0] 35 (0,0))
theorem rbox_all (w:World) (pg:Nat) (now holder t:Int) (own:Lease) (v:Value):RnBox w (rbox w pg now holder t own v) pg now holder t own v w.heap.size (w.heap.size+1) (w.heap.size+1+1) (w.heap.size+1+1+1) (w.heap.size+1+1+1+1) (w.heap.size+1+1+1+1+1):=by
 unfold rbox
 have hs:∀ (W:World) (o:Obj),(W.alloc o).heap.size=W.heap.size+1:=fun W o=>by simp
 refine ⟨((((((Mod.refl [] w).alloc _).alloc _).alloc _).alloc _).alloc _).alloc _,by omega,?_,?_,?_,?_,?_,?_⟩
 · exact blk_alloc (blk_alloc (blk_alloc (blk_alloc (blk_alloc (heap_alloc_new w _) _) _) _) _) _
 · refine blk_alloc (blk_alloc (blk_alloc (blk_alloc ?_ _) _) _) _
   rw [← hs w _];exact heap_alloc_new _ _
 · refine blk_alloc (blk_alloc (blk_alloc ?_ _) _) _
   rw [← hs w _,← hs _ _];exact heap_alloc_new _ _
 · refine blk_alloc (blk_alloc ?_ _) _
   rw [← hs w _,← hs _ _,← hs _ _];exact heap_alloc_new _ _
 · refine blk_alloc ?_ _
   rw [← hs w _,← hs _ _,← hs _ _,← hs _ _];exact heap_alloc_new _ _
 · rw [← hs w _,← hs _ _,← hs _ _,← hs _ _,← hs _ _];exact heap_alloc_new _ _
theorem info_fn:(Tryz.prog.info? 85).map (fun i=>(i.zero,i.size,i.bytes))=some (some (.nilFunc),1,8):=by kernel_rfl
theorem wpList_app_f {ops:Array Oper} {rest:List Oper} {o:Oper} {a:Act} {Q:Exit→Act→World→Prop} (w:World) (hgd:o.guard=none) (s x:Operand)
 (ho:o.op=.call { callee:=.builtin .append,args:=#[s,x],argTypes:=#[94,94] })
 {base n m:Nat} {u:Value} {xs ys:List Value} (hs:a.eval s=u) (h:w.ownsRow base 85 1 u n xs) (hn:n+m≤1000) (hbase:base≤w.heap.size) {k:Nat} (hx:a.eval x=.slice (some ⟨k,0,none⟩) m m) (hm:ys.length=m) (hpos:0<m)
 (hk:w.heap[k]?=some (.cells ys.toArray 85 (0,0))) (hone:∀ u∈ys,u.oneCell'=true)
 (hK:∀ q c w',w'.ownsRow base 85 1 (.slice q (n+m) c) (n+m) (xs++ys)→Mod (ob u) w w'→wpList Tryz.prog ops Q rest (a.put o.dst (.slice q (n+m) c)) w'):wpList Tryz.prog ops Q (o::rest) a w:=by
 obtain ⟨i0,hi0,hz0,hs0,hb0⟩:=info_parts info_fn
 refine wpList_append_lies w hgd s x 94 ho base 85 i0 _ 1 8 Tryz.underlying94 hi0 hz0 hs0 hb0 rfl (by decide) _ _ _ hs h ⟨k,0,none⟩ m m ys hx (by omega) (World.news_of_block (cs:=ys.toArray) (t:=85) (fr:=(0,0)) hk) hone hpos (by unfold maxLen;omega) (by omega) hbase ?_
 intro g' cap w' hr hg _
 exact hK _ _ _ hr ((Mod.refl (ob u) w).grown hg (fun k e _=>by simp [ob,e]))
theorem row_blk {w:World} {base k n:Nat} {ys:List Value} {E:TypeId} (hk:w.heap[k]?=some (.cells ys.toArray E (0,0))) (hb:base≤k) (hn:ys.length=n) (hl:n≤1000):w.ownsRow base E 1 (.slice (some ⟨k,0,none⟩) n n) n ys :=
 ⟨by omega,.inr ⟨k,n,_,rfl,hb,hk,Nat.le_refl _,by unfold maxLen;omega,by simp [hn],by simp [← hn]⟩⟩
theorem askB_one (pg:Nat) (r:Req) (v:Value) (f:Bool):∀ u∈askB pg r v f,u.oneCell'=true:=by
 unfold askB
 intro u hu
 split at hu
 · simp only [List.mem_cons,List.not_mem_nil,or_false] at hu
   rcases hu with rfl | rfl | rfl <;> rfl
 · simp only [List.mem_cons,List.not_mem_nil,or_false] at hu
   subst hu
   rfl
theorem ret_bad {W:World} {B5:Nat} {b':GB} {d':Dk} {g':Gtr} (hb:W.heap[B5]?=some (.cells #[.int .i64 0,.int .i64 0,.string ⟨#[]⟩,.int .i64 0,.slice none 0 0,.int .i64 0] 35 (0,0))) (hlo:w.heap.size≤B5) (hx:B5 ∉ b'.all pg) (hg:GM W pg b' d' g') (ht:GTo w pg b W b') (k:Int) :
 (stL W B5 0 [.int .i64 0,.int .i64 0,.string ⟨#[]⟩,.int .i64 0,.slice none 0 0,.int .i64 0]).heap[B5]?=some (.cells #[.int .i64 0,.int .i64 0,.string ⟨#[]⟩,.int .i64 0,.slice none 0 0,.int .i64 0] 35 (0,0))∧GiveTo w pg b (Grt.zero,k,d',g') (.returned (.tuple #[.agg #[.int .i64 0,.int .i64 0,.string ⟨#[]⟩,.int .i64 0,.slice none 0 0,.int .i64 0],.int .i64 k])) (stL W B5 0 [.int .i64 0,.int .i64 0,.string ⟨#[]⟩,.int .i64 0,.slice none 0 0,.int .i64 0]):=by
 have qm:=stL_mod (S:=[B5]) (r:=B5) (w0:=W) (fun _=>by simp) [.int .i64 0,.int .i64 0,.string ⟨#[]⟩,.int .i64 0,.slice none 0 0,.int .i64 0] 0 W (Mod.refl _ W)
 refine ⟨stL_all hb [.int .i64 0,.int .i64 0,.string ⟨#[]⟩,.int .i64 0,.slice none 0 0,.int .i64 0] rfl,give_none (hg.other qm (fun x hx2 e=>hx (by rw [← show x=B5 by simpa using e];exact hx2))) ⟨ht.mod.trans qm (fun _ h _=>h) (fun x h2 hlt=>?_),ht.own,ht.dk⟩⟩
 have:x=B5:=by simpa using h2
 omega
def AskRel (W2:World) (L:List Value) (s20:Value) (wx:World):Prop:=∃ q c,s20=.slice q L.length c∧wx.ownsRow W2.heap.size 85 1 (.slice q L.length c) L.length L∧Mod [] W2 wx
theorem preR_zero {g:Gtr} {r:Req} {o:Option Hld} {f:Bool} (h:preR g r o f=0):timeOk r.now∧legalT r.t∧(0≤r.holder∧r.holder<8)∧(∃ x,o=some x∧r.now<x.exp∧x.gr.holder=r.holder∧x.num=0)∧borneI r=0∧outlastsI r=0∧(f=true→deepI r=0∧countsI g=0):=by
 have q:=firstI_zero h
 obtain ⟨z1,z2⟩:=numbers_zero (q (numbersI r) (by simp))
 have z3:=length_zero (q (lengthI r) (by simp))
 have z4:=q (knownI o r.now r.holder) (by simp)
 refine ⟨z1,z3,z2,?_,q (borneI r) (by simp),q (outlastsI r) (by cases f <;> simp),fun e=>⟨q (deepI r) (by rw [e];simp),q (countsI g) (by rw [e];simp)⟩⟩
 cases o with
 | none=>simp [knownI] at z4
 | some x =>
   simp only [knownI] at z4
   split at z4
   · cases z4
   rename_i e1
   split at z4
   · cases z4
   rename_i e2
   exact ⟨x,rfl,by omega,by omega,by omega⟩
def RnRel (w W2:World) (pg:Nat) (b:GB) (id e:Int) (p:Grt × Int × Dk × Gtr) (wx:World):Prop :=
 ∃ b' d' g',GM wx pg b' d' g'∧GTo w pg b wx b'∧Kp w W2 pg b' wx∧GI g'∧49≤d'.secs.length∧(∃ x,x∈g'.l.book.grants∧x.id=id)∧Hid ((shownG (raiseG g' id e) id,(0:Int),d',raiseG g' id e)=p)
theorem renew_any {now id holder t:Int} {own:Lease} {fresh:Bool} {q:Option Addr} {c:Nat} (h:GM w pg b d g) (hi:GI g) (h49:49≤d.secs.length) (hr:RdN w (.slice q own.stamp.length c) own.stamp) (hap:∀ k,k∈ob (.slice q own.stamp.length c)→k ∉ b.all pg) (hq:own.path.size≤9223372036854775807) :
 Calls Tryz.prog 15 #[.pointer (some ⟨pg,0,none⟩),.int .i64 now,aggL own (.slice q own.stamp.length c),.int .i64 id,.int .i64 holder,.int .i64 t,.bool fresh] w fun e w'=>GiveTo w pg b (renewG d g now own id holder t fresh) e w':=by
 obtain ⟨p,hp⟩:∃ p,renewG d g now own id holder t fresh=p:=⟨_,rfl⟩
 rw [hp]
 have hbx:=rbox_all w pg now holder t own (.slice q own.stamp.length c)
 obtain ⟨W0,hW0⟩:∃ W0,W0=rbox w pg now holder t own (.slice q own.stamp.length c):=⟨_,rfl⟩
 rw [← hW0] at hbx
 have hh:=held_any (h.quiet hbx.m) hi id
 unfold HeldTo at hh
 obtain ⟨o,ho⟩:∃ o,heldG g id=o:=⟨_,rfl⟩
 rw [ho] at hh
 obtain ⟨bo,hbo⟩:∃ r,o.isSome=r:=⟨_,rfl⟩
 rw [hbo] at hh
 obtain ⟨x0,hx0⟩:∃ x,o.getD Hld.zero=x:=⟨_,rfl⟩
 rw [hx0] at hh
 have hxp:x0.gr.path.size≤9223372036854775807:=by
  rw [← hx0]
  cases o with
  | none=>show (0:Nat)≤_;omega
  | some x=>exact held_path hi x (by unfold heldG at ho;exact List.mem_of_find?_eq_some ho)
 obtain ⟨⟨xi,xh,xp,xm,xs,xt⟩,xe,xo,xn⟩:=x0
 unfold aggH encH at hh
 simp only at hh hxp
 obtain ⟨lf,li,lp,lm,la,lt,ls,le,lr⟩:=own
 obtain ⟨r,hr0⟩:∃ r:Req,r=⟨now,holder,t,⟨lf,li,lp,lm,la,lt,ls,le,lr⟩,xp,xm⟩:=⟨_,rfl⟩
 have hreq:reqOf now holder t ⟨lf,li,lp,lm,la,lt,ls,le,lr⟩ o=r:=by rw [hr0];unfold reqOf;rw [hx0]
 unfold rbox cellsL at hW0
 unfold aggL cellsL
 simp only at hW0 hr hap hq ⊢
 have hpg:=lt_of_block h.blk
 have HIN:=hd6 h hi h49 hr hap hq
 have HO:=hd7 ho hbo hx0 hxp hr0 hreq hp
 clear h hi h49 hr hap hq ho hbo hx0 hxp hreq hp
 go_enter Tryz.func15,Tryz.ntmps15
 go_upto_region 3 with fail
 rw [← hW0]
 clear hW0
 obtain ⟨B0,hB0⟩:∃ B,w.heap.size=B:=⟨_,rfl⟩
 rw [hB0] at hbx ⊢
 obtain ⟨B1,hB1⟩:∃ B,B0+1=B:=⟨_,rfl⟩
 rw [hB1] at hbx ⊢
 obtain ⟨B2,hB2⟩:∃ B,B1+1=B:=⟨_,rfl⟩
 rw [hB2] at hbx ⊢
 obtain ⟨B3,hB3⟩:∃ B,B2+1=B:=⟨_,rfl⟩
 rw [hB3] at hbx ⊢
 obtain ⟨B4,hB4⟩:∃ B,B3+1=B:=⟨_,rfl⟩
 rw [hB4] at hbx ⊢
 obtain ⟨B5,hB5⟩:∃ B,B4+1=B:=⟨_,rfl⟩
 rw [hB5] at hbx ⊢
 clear hB0 hB1 hB2 hB3 hB4 hB5
 have C0:=blk_cell hbx.b0
 have HBX:=hide hbx
 clear hbx
 go_upto_region 4 with (go_at_call 18;refine hh.mono ?_;rintro e w1 ⟨q1,c1,rfl,hro,m1⟩;have H1:=hide m1;clear hro m1 hh C0)
 have C1:=blk_cell (H1.out.at_ HBX.out.b1 (by simp))
 have C2:=blk_cell (H1.out.at_ HBX.out.b2 (by simp))
 have C3:=blk_cell (H1.out.at_ HBX.out.b3 (by simp))
 have C4:=blk_cell (H1.out.at_ HBX.out.b4 (by simp))
 unfold cellsL at C2
 simp only at C2
 have l1:=lt_of_block (H1.out.at_ HBX.out.b1 (by simp))
 have l2:=lt_of_block (H1.out.at_ HBX.out.b2 (by simp))
 have l3:=lt_of_block (H1.out.at_ HBX.out.b3 (by simp))
 have l4:=lt_of_block (H1.out.at_ HBX.out.b4 (by simp))
 go_upto_region 6 with fail
 obtain ⟨W2,hW2⟩:∃ W2,W2=((w1.alloc (.cells #[.int .i64 xi,.int .i64 xh,.string xp,.int .i64 xm,.slice q1 xs.length c1,.int .i64 xt,.int .i64 xe,.int .i64 xo,.int .i64 xn] 44 (0,0))).alloc (.cells #[.bool bo] 4 (0,0))).alloc (.cells #[.int .i64 now,.int .i64 holder,.int .i64 t,.int .i64 lf,.int .i64 li,.string lp,.int .i64 lm,.slice q la.length c,.int .i64 lt,.int .i64 ls,.int .i64 le,.bool lr,.string xp,.int .i64 xm] 84 (0,0)):=⟨_,rfl⟩
 rw [← hW2]
 obtain ⟨B6,hB6⟩:∃ B,w1.heap.size=B:=⟨_,rfl⟩
 rw [hB6]
 obtain ⟨B7,hB7⟩:∃ B,B6+1=B:=⟨_,rfl⟩
 rw [hB7]
 obtain ⟨B8,hB8⟩:∃ B,B7+1=B:=⟨_,rfl⟩
 rw [hB8]
 have m12:Mod [] w1 W2:=by rw [hW2];exact (((Mod.refl [] w1).alloc _).alloc _).alloc _
 have b6:W2.heap[B6]?=some (.cells (encH (⟨⟨xi,xh,xp,xm,xs,xt⟩,xe,xo,xn⟩,.slice q1 xs.length c1)).toArray 44 (0,0)):=by rw [hW2,← hB6];exact blk_alloc (blk_alloc (heap_alloc_new w1 _) _) _
 have b7:W2.heap[B7]?=some (.cells #[.bool bo] 4 (0,0)):=by
  rw [hW2,← hB7,← hB6,← World.size_alloc w1 (.cells #[.int .i64 xi,.int .i64 xh,.string xp,.int .i64 xm,.slice q1 xs.length c1,.int .i64 xt,.int .i64 xe,.int .i64 xo,.int .i64 xn] 44 (0,0))]
  exact blk_alloc (heap_alloc_new _ _) _
 have b8:W2.heap[B8]?=some (objQ ⟨now,holder,t,⟨lf,li,lp,lm,la,lt,ls,le,lr⟩,xp,xm⟩ (.slice q la.length c)):=by
  rw [hW2,← hB8,← hB7,← hB6,← World.size_alloc w1 (.cells #[.int .i64 xi,.int .i64 xh,.string xp,.int .i64 xm,.slice q1 xs.length c1,.int .i64 xt,.int .i64 xe,.int .i64 xo,.int .i64 xn] 44 (0,0)),← World.size_alloc (w1.alloc (.cells #[.int .i64 xi,.int .i64 xh,.string xp,.int .i64 xm,.slice q1 xs.length c1,.int .i64 xt,.int .i64 xe,.int .i64 xo,.int .i64 xn] 44 (0,0))) (.cells #[.bool bo] 4 (0,0))]
  exact heap_alloc_new _ _
 rw [← hr0] at b8
 have m02:Mod [] w W2:=(HBX.out.m.then H1.out).then m12
 have mx:=H1.out.then m12
 have h56:B5<B6:=by have:=lt_of_block HBX.out.b5;have:=H1.out.size;omega
 have lo6:w.heap.size≤B6∧w.heap.size≤B7∧w.heap.size≤B8:=by have:=HBX.out.m.size;have:=H1.out.size;omega
 have HB:=hd6 m02 mx lo6 b6 b7 b8
 have D8:=blk_cell b8
 have D0:=blk_cell (mx.at_ HBX.out.b0 (by simp))
 have D4:=blk_cell (mx.at_ HBX.out.b4 (by simp))
 have k0:=lt_of_block (mx.at_ HBX.out.b0 (by simp))
 have k4:=lt_of_block (mx.at_ HBX.out.b4 (by simp))
 have k8:=lt_of_block b8
 rw [hr0] at D8
 unfold cellsQ at D8
 simp only at D8
 clear hW2 hB6 hB7 hB8 m12 b6 b7 b8 m02 mx lo6 C1 C2 C3 C4 l1 l2 l3 l4
 obtain ⟨LA,hLA⟩:∃ L,L=askA B7 B6 B1 B3 r (.slice q la.length c):=⟨_,rfl⟩
 obtain ⟨LB,hLB⟩:∃ L,L=askB pg r (.slice q la.length c) fresh:=⟨_,rfl⟩
 have hLAl:LA.length=4:=by rw [hLA];rfl
 obtain ⟨W3,hW3⟩:∃ W3,W3=W2.alloc (.cells LA.toArray 85 (0,0)):=⟨_,rfl⟩
 have b9:W3.heap[W2.heap.size]?=some (.cells LA.toArray 85 (0,0)):=by rw [hW3];exact heap_alloc_new W2 _
 have m23:Mod [] W2 W3:=by rw [hW3];exact (Mod.refl _ _).alloc _
 have HLL:=hd2 hLA hLB
 rw [hr0] at hLA hLB
 unfold askA aggQ cellsQ at hLA
 unfold askB aggQ cellsQ at hLB
 simp only at hLA hLB
 have HLA:=hide hLA
 have HW3:=hide hW3
 have HB9:=hd3 b9 m23 hLAl
 clear hLA hW3 b9 m23 hLAl
 go_upto_region 7 with fail
 rw [← HLA.out,← HW3.out]
 have E8:∀ o,W3.cell? ⟨B8,o,none⟩=#[.int .i64 now,.int .i64 holder,.int .i64 t,.int .i64 lf,.int .i64 li,.string lp,.int .i64 lm,.slice q la.length c,.int .i64 lt,.int .i64 ls,.int .i64 le,.bool lr,.string xp,.int .i64 xm][o]?:=fun o=>by
  rw [show W3.cell? ⟨B8,o,none⟩=W2.cell? ⟨B8,o,none⟩ from HB9.out.2.1.cell k8 (by simp)];exact D8 o
 have E0:∀ o,W3.cell? ⟨B0,o,none⟩=#[.pointer (some ⟨pg,0,none⟩)][o]?:=fun o=>by
  rw [show W3.cell? ⟨B0,o,none⟩=W2.cell? ⟨B0,o,none⟩ from HB9.out.2.1.cell k0 (by simp)];exact D0 o
 clear D8
 go_upto_if 54 with fail
 go_cut [20] (fun s20 wx=>AskRel W2 (LA++LB) s20 wx)
 case first =>
  cases fresh with
  | true =>
    rw [if_pos rfl] at hLB
    have hLBl:LB.length=3:=by rw [hLB];rfl
    have hone:=askB_one pg r (.slice q la.length c) true
    rw [← HLL.out.2] at hone
    obtain ⟨W4,hW4⟩:∃ W4,W4=W3.alloc (.cells LB.toArray 85 (0,0)):=⟨_,rfl⟩
    have b10:W4.heap[W3.heap.size]?=some (.cells LB.toArray 85 (0,0)):=by rw [hW4];exact heap_alloc_new W3 _
    have m34:Mod [] W3 W4:=by rw [hW4];exact (Mod.refl _ _).alloc _
    have HLB:=hide hLB
    have HW4:=hide hW4
    have HB10:=hd4 b10 m34 hLBl hone
    clear hLB hW4 b10 m34 hLBl hone
    go_wp2_with (
     at_builtin
     rw [← HLB.out,← HW4.out]
     have hz:=HB10.out.2.1.size
     have hz3:=HB9.out.2.1.size
     refine wpList_app_f (n:=4) (m:=3) (xs:=LA) (ys:=LB) (base:=W2.heap.size) W4 rfl _ _ rfl rfl (row_blk (HB10.out.2.1.at_ HB9.out.1 (by simp)) (Nat.le_refl _) HB9.out.2.2 (by omega)) (by omega) (by omega) (k:=W3.heap.size) rfl HB10.out.2.2.1 (by omega) HB10.out.1 HB10.out.2.2.2 ?_
     intro q5 c5 w5 hr5 hm5
     replace hm5:Mod (ob (.slice (some ⟨W2.heap.size,0,none⟩) 4 4)) W4 w5:=hm5)
    go_meet
    case rel =>
     have hl:(LA++LB).length=4+3:=by rw [List.length_append,HB9.out.2.2,HB10.out.2.2.1]
     unfold AskRel
     rw [hl]
     exact ⟨q5,c5,rfl,hr5,mod_fresh (HB9.out.2.1.then HB10.out.2.1) hm5 (fun k hk=>Nat.le_of_eq (show k=W2.heap.size by simpa [ob,Value.ownBlock] using hk).symm)⟩
  | false =>
    rw [if_neg (by decide)] at hLB
    have hLBl:LB.length=1:=by rw [hLB];rfl
    have hone:=askB_one pg r (.slice q la.length c) false
    rw [← HLL.out.2] at hone
    obtain ⟨W4,hW4⟩:∃ W4,W4=W3.alloc (.cells LB.toArray 85 (0,0)):=⟨_,rfl⟩
    have b10:W4.heap[W3.heap.size]?=some (.cells LB.toArray 85 (0,0)):=by rw [hW4];exact heap_alloc_new W3 _
    have m34:Mod [] W3 W4:=by rw [hW4];exact (Mod.refl _ _).alloc _
    have HLB:=hide hLB
    have HW4:=hide hW4
    have HB10:=hd4 b10 m34 hLBl hone
    clear hLB hW4 b10 m34 hLBl hone
    go_wp2_with (
     at_builtin
     rw [← HLB.out,← HW4.out]
     have hz:=HB10.out.2.1.size
     have hz3:=HB9.out.2.1.size
     refine wpList_app_f (n:=4) (m:=1) (xs:=LA) (ys:=LB) (base:=W2.heap.size) W4 rfl _ _ rfl rfl (row_blk (HB10.out.2.1.at_ HB9.out.1 (by simp)) (Nat.le_refl _) HB9.out.2.2 (by omega)) (by omega) (by omega) (k:=W3.heap.size) rfl HB10.out.2.2.1 (by omega) HB10.out.1 HB10.out.2.2.2 ?_
     intro q5 c5 w5 hr5 hm5
     replace hm5:Mod (ob (.slice (some ⟨W2.heap.size,0,none⟩) 4 4)) W4 w5:=hm5)
    go_meet
    case rel =>
     have hl:(LA++LB).length=4+1:=by rw [List.length_append,HB9.out.2.2,HB10.out.2.2.1]
     unfold AskRel
     rw [hl]
     exact ⟨q5,c5,rfl,hr5,mod_fresh (HB9.out.2.1.then HB10.out.2.1) hm5 (fun k hk=>Nat.le_of_eq (show k=W2.heap.size by simpa [ob,Value.ownBlock] using hk).symm)⟩
 case rest =>
  obtain ⟨q5,c5,rfl,hr5,m5⟩:=hcut
  obtain ⟨W5,rfl⟩:∃ x:World,x=wc:=⟨_,rfl⟩
  clear hLB E8 E0 D0 D4 k0 k4 k8
  obtain ⟨n1,hn1⟩:∃ n,(LA++LB).length=n:=⟨_,rfl⟩
  rw [hn1] at hr5 ⊢
  have hn5:n1≤7∧0<n1:=by
   have:LB.length≤3:=by rw [HLL.out.2];unfold askB;split <;> simp
   rw [← hn1,List.length_append,HB9.out.2.2];omega
  obtain ⟨LC,hLC⟩:∃ L,L=askC B0 B4:=⟨_,rfl⟩
  have hLCl:LC.length=1:=by rw [hLC];rfl
  have hone:∀ u∈LC,u.oneCell'=true:=by rw [hLC];simp [askC,Value.oneCell']
  obtain ⟨W6,hW6⟩:∃ W6,W6=W5.alloc (.cells LC.toArray 85 (0,0)):=⟨_,rfl⟩
  have b11:W6.heap[W5.heap.size]?=some (.cells LC.toArray 85 (0,0)):=by rw [hW6];exact heap_alloc_new W5 _
  have m56:Mod [] W5 W6:=by rw [hW6];exact (Mod.refl _ _).alloc _
  have HLC0:=hide hLC
  unfold askC at hLC
  have HLC:=hide hLC
  have HW6:=hide hW6
  have HB11:=hd8 b11 m56 hLCl hone hr5 m5 hn1 hn5
  clear hLC hW6 b11 m56 hLCl hone hr5 m5 hn1 hn5
  go_upto_region 11 with (
   at_builtin
   rw [← HLC.out,← HW6.out]
   have hz:=HB11.out.2.1.size
   have hz5:=HB11.out.2.2.2.2.2.1.size
   have hn5:=HB11.out.2.2.2.2.2.2.2
   refine wpList_app_f (n:=n1) (m:=1) (xs:=LA++LB) (ys:=LC) (base:=W2.heap.size) W6 rfl _ _ rfl rfl (HB11.out.2.1.row HB11.out.2.2.2.2.1 (by simp)) (by omega) (by omega) (k:=W5.heap.size) rfl HB11.out.2.2.1 (by omega) HB11.out.1 HB11.out.2.2.2.1 ?_
   intro q7 c7 w7 hr7 hm7
   have H7:=hd2 hr7 hm7
   clear hr7 hm7 hz hz5 hn5)
  have m27:Mod [] W2 w7:=mod_fresh (HB11.out.2.2.2.2.2.1.then HB11.out.2.1) H7.out.2 (fun k hk=>(ob_of_row HB11.out.2.2.2.2.1 k hk).1)
  have mw7:Mod [] w w7:=HB.out.1.then m27
  have hz2:=HB.out.1.size
  have hlt:=HIN.out.1.lt
  have hna:∀ x,w.heap.size≤x→x ∉ b.all pg:=fun x hx e=>by have:=hlt x e;omega
  obtain ⟨q',c',hv,-,hcase⟩:=row_form H7.out.1
  simp only [Value.slice.injEq] at hv
  obtain ⟨rfl,-,rfl⟩:=hv
  have hll:(LA++LB++LC).length=n1+1:=by rw [List.length_append,HB11.out.2.2.2.2.2.2.1,HB11.out.2.2.1]
  obtain ⟨gB,cur,rfl,hgb,hcur,htk⟩:∃ gB cur,q7=some ⟨gB,0,none⟩∧W2.heap.size≤gB∧w7.heap[gB]?=some (.cells cur 85 (0,0))∧cur.toList.take ((n1+1) * 1)=LA++LB++LC:=by
   rcases hcase with ⟨-,h0⟩ | ⟨gB,cur,h1,h2,h3,-,h4⟩
   · omega
   · exact ⟨gB,cur,h1,h2,h3,h4⟩
  have hbx:=HBX.out
  have hlo:=HBX.out.lo
  have m07:=HB.out.2.1.then m27
  have hfp:FirstP Tryz.prog gB (LA++LB++LC) w7 (GrQ w7 pg b (preR g r o fresh) (longG d g t)):=by
   rw [HLL.out.1,HLL.out.2,HLC0.out,hr0]
   exact askR_any (r:=⟨now,holder,t,⟨lf,li,lp,lm,la,lt,ls,le,lr⟩,xp,xm⟩) (o:=o) (sv:=.slice q1 xs.length c1) (HIN.out.1.quiet mw7) HIN.out.2.1 HIN.out.2.2.1 (lt_of_block hcur) (hna _ (by omega)) (HIN.out.2.2.2.1.mod mw7 (by simp)) HO.out.2.2.2.1 HIN.out.2.2.2.2.2
    ⟨by rw [blk_cell (m07.at_ hbx.b0 (by simp))];rfl,hna _ hlo.1⟩ ⟨by rw [blk_cell (m07.at_ hbx.b4 (by simp))];rfl,hna _ hlo.2.2.2.2.1⟩ (by rw [HO.out.2.1,blk_cell (m27.at_ HB.out.2.2.2.2.1 (by simp))];rfl) (by rw [HO.out.2.2.1];exact m27.at_ HB.out.2.2.2.1 (by simp)) (by rw [blk_cell (m07.at_ hbx.b1 (by simp))];rfl) (by rw [blk_cell (m07.at_ hbx.b3 (by simp))];rfl)
  have hfi:=firstg_any (c:=c7) hcur (fun j hj=>by rw [← htk,List.getElem?_take_of_lt (by omega)];simp) hfp (by have:=HB11.out.2.2.2.2.2.2.2;omega)
  rw [hll] at hfi
  have HM7:=hd3 m27 mw7 m07
  have HNA:=hide hna
  clear hfp hcur htk hbx hlo m07 m27 mw7 hz2 hlt hna hcase hgb hll
  go_upto_region 12 with (go_at_call 45;refine hfi.mono ?_;rintro e w8 ⟨k,rfl,h8⟩;have H8:=hide h8;clear h8 hfi)
  have hgp:=HO.out.2.2.2.2.2.2
  unfold renewG at hgp
  dsimp only at hgp
  rw [HO.out.1,HO.out.2.2.2.2.2.1] at hgp
  have h8:=H8.out
  obtain ⟨pre,hpre⟩:∃ k,preR g r o fresh=k:=⟨_,rfl⟩
  obtain ⟨⟨ke,kd,kg⟩,hlg⟩:∃ a,longG d g t=a:=⟨_,rfl⟩
  rw [hpre,hlg] at h8 hgp
  dsimp only at hgp
  have haE:=Tryz.isAgg35
  have hzE:=Tryz.sizeOf35
  have hlo5:=HBX.out.lo.2.2.2.2.2
  have hkp7:Kp w W2 pg b w7:=(Kp.refl HIN.out.1).to (GTo.quiet HM7.out.1)
  by_cases hp0:pre=0
  · have h8:k=ke∧∃ b',GM w8 pg b' kd kg∧GTo w7 pg b w8 b':=by
     rcases h8 with ⟨a,_⟩ | ⟨_,a,c⟩
     · exact absurd hp0 a
     · exact ⟨a,c⟩
    obtain ⟨rfl,b8,g8,t8⟩:=h8
    rw [if_neg (by rw [hp0];decide)] at hgp
    have tw8:=(GTo.quiet HM7.out.2.1).trans t8
    have hkp8:=hkp7.to t8
    by_cases hk0:k=0
    · subst hk0
      rw [if_neg (by simp)] at hgp
      obtain ⟨hi8,-,-,-,hgr8,-,-⟩:=HIN.out.2.1.long d t
      have hl8:=long_len d g t
      rw [hlg] at hi8 hgr8 hl8
      dsimp only at hi8 hgr8 hl8
      have hl49:49≤kd.secs.length:=by rw [hl8];exact HIN.out.2.2.1
      obtain ⟨z1,z2,-,⟨x,hox,-⟩,-⟩:=preR_zero (hpre.trans hp0)
      rw [hr0] at z1 z2
      dsimp only at z1 z2
      have hid:∃ x,x∈kg.l.book.grants∧x.id=id:=by
       have hox':=HO.out.1.trans hox
       obtain ⟨h1,h2,-⟩:=held_mem hox'
       exact ⟨_,by rw [hgr8];exact h1,h2⟩
      have hwf:(Lit.int .i64 id).wf=true:=by
       obtain ⟨x,hx,rfl⟩:=hid
       exact hi8.wf hx
      have hwr:IntKind.i64.wrap (now+t)=now+t:=by
       obtain ⟨t1,t2⟩:=z1
       unfold legalT at z2
       rw [IntKind.wrap_i64];omega
      have HG8:=hd7 g8 tw8 hkp8 hi8 hl49 hid hgp
      clear g8 t8 tw8 hkp8 hkp7 hlg hpre hp0 H8 hgr8 hl8 hl49 hi8 hid hox z1 z2 hgp
      go_upto_if 79 with fail
      go_cut [] (fun wx=>RnRel w W2 pg b id (now+t) p wx)
      case first =>
       cases fresh with
       | false =>
         have hgp:=HG8.out.2.2.2.2.2.2
         rw [if_neg (by decide)] at hgp
         have HP:=hide hgp
         clear hgp
         go_wp2_with fail
         go_meet
         case rel=>exact ⟨b8,kd,kg,HG8.out.1,HG8.out.2.1,HG8.out.2.2.1,HG8.out.2.2.2.1,HG8.out.2.2.2.2.1,HG8.out.2.2.2.2.2.1,HP⟩
       | true =>
         have hgp:=HG8.out.2.2.2.2.2.2
         rw [if_pos rfl] at hgp
         try dsimp only at hgp
         have hlo:=HBX.out.lo
         have e0:=HG8.out.2.2.1.at_ hlo.1 (HB.out.2.1.at_ HBX.out.b0 (by simp))
         have e2:=HG8.out.2.2.1.at_ hlo.2.2.1 (HB.out.2.1.at_ HBX.out.b2 (by simp))
         have C2:=fun (W:World) (m:Mod [] w8 W)=>blk_cell (m.at_ e2 (by simp))
         unfold cellsL at C2
         try dsimp only at C2
         have HC2:=hide C2
         have HC0:=hide (fun (W:World) (m:Mod [] w8 W)=>blk_cell (m.at_ e0 (by simp)))
         have HCL:=hide (fun (W:World) (m:Mod [] w8 W)=>(HG8.out.1.quiet m).c0)
         obtain ⟨nx,hnx⟩:∃ n,kg.l.book.next=n:=⟨_,rfl⟩
         obtain ⟨es,hes⟩:∃ s,extS la nx=s:=⟨_,rfl⟩
         obtain ⟨nS,hnS⟩:∃ n,es.length=n:=⟨_,rfl⟩
         obtain ⟨⟨kA,dA,lA⟩,hap⟩:∃ a,appendD kd kg.l (recF id es)=a:=⟨_,rfl⟩
         rw [hnx,hes,hap] at hgp
         try dsimp only at hgp
         have hbk:=fun (W:World) (m:Mod [] w8 W)=>(HG8.out.1.quiet m).book HG8.out.2.2.2.1
         simp only [hnx] at hbk
         have hex:=fun (W:World) (m:Mod [] w8 W)=>extended_any (w:=W) (l:=⟨lf,li,lp,lm,la,lt,ls,le,lr⟩) (v:=.slice q la.length c) ((HIN.out.2.2.2.1.mod HG8.out.2.1.mod HIN.out.2.2.2.2.1).mod m (by simp)) nx
         unfold aggL cellsL at hex
         dsimp only at hex
         simp only [hes] at hex
         have hpg8:=lt_of_block HG8.out.1.blk
         have hl0:=lt_of_block e0
         have hl2:=lt_of_block e2
         have hfl:=field_bk0
         have HGP:=hd3 hgp hap hnS
         have HBK:=hide hbk
         have HEX:=hide hex
         clear hgp hap hbk hex C2 e0 e2 hlo hnx hes hnS
         go_upto_region 15 with fail
         refine pB 999 (Mod [] w8) ((Mod.refl [] w8).drew) ?_
         refine pH 0 rfl (fun w h=>by have D:=HC2.out _ h;go_simp;try with_reducible rfl) ?_
         refine pH 1 rfl (fun w h=>by have D:=HC0.out _ h;go_simp;try with_reducible rfl) ?_
         refine pP 2 ?_;refine pP 3 ?_
         refine pH 4 rfl (fun w h=>by have D:=HCL.out _ h;go_simp;try with_reducible rfl) ?_
         refine pX 5 fun hT K HK=>?_
         go_simp
         refine (HBK.out _ hT).mono ?_;rintro e w9 ⟨qb,nb,cb,lvb,rfl,-,m9,-⟩
         have h89:=hT.then m9
         refine HK.out _ _ _ h89 ?_
         clear HK K hT m9 h89
         refine pP 6 ?_
         refine pX 7 fun hT K HK=>?_
         go_simp
         refine (HEX.out _ hT).mono ?_;rintro e w10 ⟨q10,c10,rfl,ho10,m10⟩
         have hz9:=hT.size
         rw [HGP.out.2.2] at ho10
         rw [HGP.out.2.2]
         have H10:=hd3 ho10 (hT.then m10) hz9
         refine HK.out _ _ _ (hT.then m10) ?_
         clear HK K hT m10 ho10 hz9
         refine pP 8 ?_
         refine pE fun hT=>?_
         clear hT
         have hrd:RdN w10 (.slice q10 nS c10) es:=by
          have e:=HGP.out.2.2
          subst e
          exact rdN_of_row H10.out.1
         have hA:=(HG8.out.1.quiet H10.out.2.1).append HG8.out.2.2.2.1 HG8.out.2.2.2.2.1 (r:=recF id es) (sv:=.slice none 0 0) (tv:=.slice q10 nS c10) (rdN_nil _) hrd (by show (0:Nat)≤_;omega) HGP.out.2.1
         unfold aggR cellsR recF at hA
         simp only [Rcd.zero] at hA
         have C0:=HC0.out _ H10.out.2.1
         have CL:=HCL.out _ H10.out.2.1
         have hz:=H10.out.2.1.size
         clear hrd
         go_upto_region 17 with (go_at_call 58;refine hA.mono ?_;rintro e w11 ⟨rfl,b11,g11,t11⟩;have H11:=hd2 g11 t11;clear g11 t11 hA C0 CL)
         have hgp:=HGP.out.1
         have tw11:=(HG8.out.2.1.trans (GTo.quiet H10.out.2.1)).trans H11.out.2
         have kp11:=(HG8.out.2.2.1.to (GTo.quiet H10.out.2.1)).to H11.out.2
         obtain ⟨f1,f2,f3,-⟩:=HG8.out.2.2.2.1.fresh kd id es
         rw [HGP.out.2.1] at f1 f2 f3
         dsimp only at f1 f2 f3
         have f4:49≤dA.secs.length:=by rw [f2];exact HG8.out.2.2.2.2.1
         by_cases hkA:kA=0
         · subst hkA
           rw [if_neg (by simp)] at hgp
           have f5:∃ x,x∈lA.book.grants∧x.id=id:=by
            rw [(f3 rfl).2]
            exact mem_setSt HG8.out.2.2.2.2.2.1
           have HR:=hd6 tw11 kp11 f1 f4 f5 hgp
           clear tw11 kp11 f1 f2 f3 f4 f5 hgp
           go_wp2_with fail
           go_meet
           case rel=>exact ⟨b11,dA,{ kg with l:=lA },H11.out.1,HR.out.1,HR.out.2.1,HR.out.2.2.1,HR.out.2.2.2.1,HR.out.2.2.2.2.1,hide HR.out.2.2.2.2.2⟩
         · rw [if_pos hkA] at hgp
           have hb5:=kp11.at_ hlo5 (HB.out.2.1.at_ HBX.out.b5 (by simp))
           have hx5:=(kp11.2 B5 hlo5 (lt_of_block (HB.out.2.1.at_ HBX.out.b5 (by simp)))).2
           have hrb:=ret_bad hb5 hlo5 hx5 H11.out.1 tw11 kA
           have C5:=blk_cell hb5
           have F5:=blk_free hb5
           have hkn:(kA != 0)=true:=by simpa using hkA
           have HR:=hd2 hrb hgp
           clear hrb hgp hkA hb5 hx5 tw11 kp11 f1 f2 f3 f4
           go_wp2_with fail
           refine bodyPost_ret (res_cell2 Tryz.results15 _ _ rfl HR.out.1.1 haE hzE rfl) rfl ?_
           rw [← HR.out.2]
           exact HR.out.1.2
      case rest =>
       obtain ⟨b9,d9,g9,hg9,t9,kp9,hi9,hl9,hid9,hfin⟩:=hcut
       obtain ⟨W9,rfl⟩:∃ x:World,x=wc:=⟨_,rfl⟩
       have hlo:=HBX.out.lo
       have e0:=kp9.at_ hlo.1 (HB.out.2.1.at_ HBX.out.b0 (by simp))
       have e1:=kp9.at_ hlo.2.1 (HB.out.2.1.at_ HBX.out.b1 (by simp))
       have e4:=kp9.at_ hlo.2.2.2.2.1 (HB.out.2.1.at_ HBX.out.b4 (by simp))
       have E0:=blk_cell e0
       have E1:=blk_cell e1
       have E4:=blk_cell e4
       have L0:=lt_of_block e0
       have L1:=lt_of_block e1
       have L4:=lt_of_block e4
       have hlk:=hg9.look hwf
       obtain ⟨⟨ne,no,nn⟩,hnt⟩:∃ n,ntAt g9.nt id=n:=⟨_,rfl⟩
       rw [hnt] at hlk
       unfold aggN at hlk
       dsimp only at hlk
       have CG:=hg9.c2
       have hpg9:=lt_of_block hg9.blk
       have HG9:=hd8 hg9 t9 kp9 hi9 hl9 hid9 hfin.out hnt
       clear hg9 t9 kp9 hi9 hl9 hid9 hfin hnt e0 e1 e4 hlo
       go_upto_region 21 with fail
       obtain ⟨W10,hW10⟩:∃ W,W=W9.alloc (.cells #[.int .i64 (max ne (now+t)),.int .i64 no,.int .i64 nn] 96 (0,0)):=⟨_,rfl⟩
       rw [← hW10]
       have b12:W10.heap[W9.heap.size]?=some (.cells #[.int .i64 (max ne (now+t)),.int .i64 no,.int .i64 nn] 96 (0,0)):=by rw [hW10];exact heap_alloc_new W9 _
       have m910:Mod [] W9 W10:=by rw [hW10];exact (Mod.refl _ _).alloc _
       clear hW10 E0 E1 E4 L0 L1 L4 CG hlk hpg9
       have hlo:=HBX.out.lo
       have g10:=HG9.out.1.quiet m910
       have kp10:=HG9.out.2.2.1.to (GTo.quiet m910)
       have e0:=kp10.at_ hlo.1 (HB.out.2.1.at_ HBX.out.b0 (by simp))
       have E0:=blk_cell e0
       have L0:=lt_of_block e0
       have CN:=blk_cell b12
       have LN:=lt_of_block b12
       have CG:=g10.c2
       have hpg10:=lt_of_block g10.blk
       have hql:(g9.nt.map ntV).length<maxLen:=by
        have:=HG9.out.2.2.2.1.len.2
        unfold maxLen
        rw [List.length_map]
        omega
       have H10:=hd3 g10 kp10 m910
       clear g10 kp10 m910 b12 e0 hlo
       go_still_tail 6,(by kernel_rfl)
       change wpList _ _ _ _ _ W10.drew
       go_upto_region 22 with (
        at_mapUpdate
        refine wpList_store_L (T:=iK) _ rfl _ _ _ rfl Tryz.underlying79 rfl (H10.out.1.nt.mod ((Mod.refl [] W10).drew) (by simp)) hql (key:=id) hwf rfl _ rfl ?_
        intro w11 q11 qg11
        have H11:=hd2 (show MapL iK w11 b9.nb (setM (g9.nt.map ntV) id (aggN ⟨max ne (now+t),no,nn⟩)) from q11) qg11
        clear q11 qg11 E0 CN CG)
       obtain ⟨q11,qg11⟩:=H11.out
       rw [setM_ntV] at q11
       obtain ⟨h11,t11⟩:=H10.out.1.toNt q11 (((Mod.refl [b9.nb] W10).drew).grown qg11 (fun k e _=>by cases e;simp))
       have hra:({ g9 with nt:=ntSet g9.nt id ⟨max ne (now+t),no,nn⟩ }:Gtr)=raiseG g9 id (now+t):=by unfold raiseG;rw [HG9.out.2.2.2.2.2.2.2]
       rw [hra] at h11
       have hi11:=HG9.out.2.2.2.1.raise HG9.out.2.2.2.2.2.1 (now+t)
       have hfin:=HG9.out.2.2.2.2.2.2.1
       obtain ⟨gr,hgr⟩:∃ x,raiseG g9 id (now+t)=x:=⟨_,rfl⟩
       rw [hgr] at h11 hi11 hfin
       have hh11:=held_any h11 hi11 id
       unfold HeldTo at hh11
       obtain ⟨y,hy⟩:∃ y,(heldG gr id).getD Hld.zero=y:=⟨_,rfl⟩
       obtain ⟨by_,hby⟩:∃ y,(heldG gr id).isSome=y:=⟨_,rfl⟩
       unfold shownG at hfin
       rw [hy] at hh11 hfin
       rw [hby] at hh11
       obtain ⟨⟨yi,yh,yp,ym,ys,yt⟩,ye,yo,yn⟩:=y
       unfold aggH encH at hh11
       dsimp only at hh11 hfin
       have kp11:=H10.out.2.1.to t11
       have tw11:=HG9.out.2.1.trans ((GTo.quiet H10.out.2.2).trans t11)
       have hlo:=HBX.out.lo
       have E0:=blk_cell (kp11.at_ hlo.1 (HB.out.2.1.at_ HBX.out.b0 (by simp)))
       have L0:=lt_of_block (kp11.at_ hlo.1 (HB.out.2.1.at_ HBX.out.b0 (by simp)))
       have HK11:=hd4 kp11 tw11 h11 hfin
       clear q11 qg11 h11 t11 hra hi11 hfin hgr hy hby kp11 tw11 hlo hql LN hpg10
       go_upto_region 23 with (
        go_at_call 18
        refine hh11.mono ?_
        rintro e w12 ⟨q12,c12,rfl,hro,m12⟩
        have hb6:=m12.at_ (HK11.out.1.at_ HB.out.2.2.1.1 HB.out.2.2.2.1) (by simp)
        have C6:=blk_cell hb6
        have F6:=blk_free hb6
        have L6:=lt_of_block hb6
        unfold encH at C6
        dsimp only at C6
        have H12:=hd3 hro m12 hb6
        clear hro m12 hb6 hh11 E0 L0)
       obtain ⟨W13,hW13⟩:∃ W,W=stL w12 B6 0 [.int .i64 yi,.int .i64 yh,.string yp,.int .i64 ym,.slice q12 ys.length c12,.int .i64 yt,.int .i64 ye,.int .i64 yo,.int .i64 yn]:=⟨_,rfl⟩
       have hb13:=stL_all H12.out.2.2 [.int .i64 yi,.int .i64 yh,.string yp,.int .i64 ym,.slice q12 ys.length c12,.int .i64 yt,.int .i64 ye,.int .i64 yo,.int .i64 yn] rfl
       have m13:=stL_mod (S:=[B6]) (r:=B6) (w0:=w12) (fun _=>by simp) [.int .i64 yi,.int .i64 yh,.string yp,.int .i64 ym,.slice q12 ys.length c12,.int .i64 yt,.int .i64 ye,.int .i64 yo,.int .i64 yn] 0 w12 (Mod.refl _ w12)
       rw [← hW13] at hb13 m13
       unfold stL stL stL stL stL stL stL stL stL stL at hW13
       rw [← hW13]
       clear hW13 C6 F6 L6
       have hlo:=HBX.out.lo
       have h5:=HK11.out.1.at_ hlo.2.2.2.2.2 (HB.out.2.1.at_ HBX.out.b5 (by simp))
       have hb5:=m13.at_ (H12.out.2.1.at_ h5 (by simp)) (by simp;omega)
       have hb14:=stL_all hb5 [.int .i64 yi,.int .i64 yh,.string yp,.int .i64 ym,.slice q12 ys.length c12,.int .i64 yt] rfl
       have m14:=stL_mod (S:=[B5]) (r:=B5) (w0:=W13) (fun _=>by simp) [.int .i64 yi,.int .i64 yh,.string yp,.int .i64 ym,.slice q12 ys.length c12,.int .i64 yt] 0 W13 (Mod.refl _ W13)
       obtain ⟨W14,hW14⟩:∃ W,W=stL W13 B5 0 [.int .i64 yi,.int .i64 yh,.string yp,.int .i64 ym,.slice q12 ys.length c12,.int .i64 yt]:=⟨_,rfl⟩
       rw [← hW14] at hb14 m14
       unfold stL stL stL stL stL stL stL at hW14
       have C6:=blk_cell hb13
       have L6:=lt_of_block hb13
       have C5:=blk_cell hb5
       have F5:=blk_free hb5
       have L5:=lt_of_block hb5
       have h6:=HK11.out.1.at_ HB.out.2.2.1.1 HB.out.2.2.2.1
       have l611:=lt_of_block h6
       have x5:=(HK11.out.1.2 B5 hlo.2.2.2.2.2 (lt_of_block (HB.out.2.1.at_ HBX.out.b5 (by simp)))).2
       have x6:=(HK11.out.1.2 B6 HB.out.2.2.1.1 (lt_of_block HB.out.2.2.2.1)).2
       have mm:Mod [B5,B6] w12 W14:=m13.trans m14 (fun x hx _=>by simp at hx ⊢;omega) (fun x hx _=>by simp at hx ⊢;omega)
       have HZ:=hd7 hb14 mm hW14 hlo x5 x6 l611
       clear hb14 m14 hW14 hb13 m13 hb5 h5 h6 x5 x6 l611 mm hlo 
       go_wp2_with fail
       rw [← HZ.out.2.2.1]
       refine bodyPost_ret (res_cell2 Tryz.results15 _ _ rfl HZ.out.1 haE hzE rfl) rfl ?_
       rw [← HK11.out.2.2.2]
       have hz11:=HK11.out.2.1.mod.size
       have hro:=H12.out.1
       have hlo:=HZ.out.2.2.2.1
       refine ⟨q12,c12,rfl,HZ.out.2.1.row (row_base hro hz11) (fun x hx e=>?_),b9,(HK11.out.2.2.1.quiet H12.out.2.1).other HZ.out.2.1 (fun x hx e=>?_),⟨?_,(HK11.out.2.1.then H12.out.2.1).own,HK11.out.2.1.dk⟩,fun x hx e=>?_⟩
       · have hx':(Value.slice q12 ys.length c12).ownBlock=some x:=hx
         have h1:=(ob_of_row hro x (by simp [ob,hx'])).1
         have h2:=HZ.out.2.2.2.2.2.2
         have h3:x=B5∨x=B6:=by simpa using e
         omega
       · have h3:x=B5∨x=B6:=by simpa using e
         rcases h3 with rfl | rfl
         · exact HZ.out.2.2.2.2.1 hx
         · exact HZ.out.2.2.2.2.2.1 hx
       · refine (HK11.out.2.1.then H12.out.2.1).mod.trans HZ.out.2.1 (fun _ h _=>h) (fun x hx hlt=>?_)
         have h3:x=B5∨x=B6:=by simpa using hx
         have:=HB.out.2.2.1.1
         omega
       · have h1:=(ob_of_row hro x hx).1
         have:=HK11.out.2.2.1.lt x e
         omega
    · rw [if_pos hk0] at hgp
      have hb5:=hkp8.at_ hlo5 (HB.out.2.1.at_ HBX.out.b5 (by simp))
      have hx5:=(hkp8.2 B5 hlo5 (lt_of_block (HB.out.2.1.at_ HBX.out.b5 (by simp)))).2
      have hrb:=ret_bad hb5 hlo5 hx5 g8 tw8 k
      have C5:=blk_cell hb5
      have F5:=blk_free hb5
      have hkn:(k != 0)=true:=by simpa using hk0
      have HR:=hd2 hrb hgp
      clear hrb hgp hk0 hb5 hx5 g8 t8 tw8 hkp8 hkp7 hlg hpre hp0 H8
      go_wp2_with fail
      refine bodyPost_ret (res_cell2 Tryz.results15 _ _ rfl HR.out.1.1 haE hzE rfl) rfl ?_
      rw [← HR.out.2]
      exact HR.out.1.2
  · have h8:k=pre∧Mod [] w7 w8:=by
     rcases h8 with ⟨_,a,c⟩ | ⟨a,_⟩
     · exact ⟨a,c⟩
     · exact absurd a hp0
    obtain ⟨rfl,m8⟩:=h8
    rw [if_pos hp0] at hgp
    have hkp8:=hkp7.to (GTo.quiet m8)
    have hb5:=hkp8.at_ hlo5 (HB.out.2.1.at_ HBX.out.b5 (by simp))
    have hrb:=ret_bad hb5 hlo5 (HNA.out B5 hlo5) (HIN.out.1.quiet (HM7.out.2.1.then m8)) (GTo.quiet (HM7.out.2.1.then m8)) k
    have C5:=blk_cell hb5
    have F5:=blk_free hb5
    have hkn:(k != 0)=true:=by simpa using hp0
    have HR:=hd2 hrb hgp
    clear hrb hgp hp0 hb5 m8 hkp8 hkp7 hlg hpre H8
    go_wp2_with fail
    refine bodyPost_ret (res_cell2 Tryz.results15 _ _ rfl HR.out.1.1 haE hzE rfl) rfl ?_
    rw [← HR.out.2]
    exact HR.out.1.2
end
end Go.Proofs.YtllljngpgjkdiaaGreatDoor
/-
  WALKS: layer 16: contracts for the laws: a grantor and its disk in new memory; fresh.
-/
namespace Go.Proofs.YtllljngpgjkdiaaGreatDoor
set_option maxRecDepth 100000
set_option maxHeartbeats 1000000
open Go.RowKit Go.Maps

structure GS (w0 w:World) (pg:Nat) (b:GB) (d:Dk) (g:Gtr):Prop where
 gm:GM w pg b d g
 lo:∀ k,k∈b.all pg→w0.heap.size≤k
 md:Mod [] w0 w
 gi:GI g
 n49:49≤d.secs.length
section
variable {w0 w wa:World} {pg:Nat} {b:GB} {d:Dk} {g:Gtr}
theorem GS.quiet (s:GS w0 w pg b d g) {w':World} (m:Mod [] w w'):GS w0 w' pg b d g:=⟨s.gm.quiet m,s.lo,s.md.then m,s.gi,s.n49⟩
theorem GS.to (s:GS w0 w pg b d g) {w':World} {b':GB} {d':Dk} {g':Gtr} (h':GM w' pg b' d' g') (t:GTo w pg b w' b') (gi:GI g') (n49:49≤d'.secs.length):GS w0 w' pg b' d' g':=by
 refine ⟨h',fun k hk'=>?_,s.md.trans t.mod (fun _ x _=>x) (fun x hx hlt=>?_),gi,n49⟩
 · rcases t.own k hk' with e | e
   · exact s.lo k e
   · have:=s.md.size;omega
 · have:=s.lo x hx
   omega
theorem GS.asd (s:GS w0 wa pg b d g) (m:Mod [] wa w) {k:Nat} (h1:wa.heap.size≤k) (h2:k<w.heap.size):Asd w pg b k:=⟨h2,fun e=>by have:=s.gm.lt k e;have:=m.size;omega⟩
theorem Asd.quiet {k:Nat} (h:Asd w pg b k) {w':World} (m:Mod [] w w'):Asd w' pg b k:=h.to (GTo.quiet m)
theorem Asd.blk {k:Nat} (h:Asd w pg b k) {w':World} {b':GB} (t:GTo w pg b w' b') {o:Obj} (ho:w.heap[k]?=some o):w'.heap[k]?=some o:=t.mod.at_ ho h.2
def GvS (w0 w:World) (pg:Nat) (b:GB) (p:Grt × Int × Dk × Gtr) (e:Ending) (w':World):Prop :=
 ∃ q c b',e=.returned (.tuple #[aggG p.1 (.slice q p.1.stamp.length c),.int .i64 p.2.1])∧GS w0 w' pg b' p.2.2.1 p.2.2.2∧GTo w pg b w' b'∧w'.ownsRow w.heap.size 3 1 (.slice q p.1.stamp.length c) p.1.stamp.length (p.1.stamp.map (Value.int .i64))∧∀ k,k∈ob (.slice q p.1.stamp.length c)→k ∉ b'.all pg
theorem grant_eq {r:Req} {q:Option Addr} {c:Nat} (s:GS w0 w pg b d g) (hr:RdN w (.slice q r.own.stamp.length c) r.own.stamp) (hap:∀ k,k∈ob (.slice q r.own.stamp.length c)→k ∉ b.all pg) (hp:r.path.size≤9223372036854775807) (hq:r.own.path.size≤9223372036854775807) :
 Calls Tryz.prog 13 #[.pointer (some ⟨pg,0,none⟩),.int .i64 r.now,aggL r.own (.slice q r.own.stamp.length c),.int .i64 r.holder,.string r.path,.int .i64 r.mode,.int .i64 r.t] w fun e w'=>GvS w0 w pg b (grantG d g r) e w':=by
 obtain ⟨k1,k2⟩:=grantG_GI' s.gi d r
 have n1:=s.n49
 refine (grant_any s.gm s.gi s.n49 hr hap hp hq).mono ?_
 rintro en w' ⟨q',c',rfl,hro,b',g',t',hd⟩
 exact ⟨q',c',b',rfl,s.to g' t' k1 (by rw [k2];exact n1),t',hro,hd⟩
theorem renew_eq {now id holder t:Int} {own:Lease} {fresh:Bool} {q:Option Addr} {c:Nat} (s:GS w0 w pg b d g) (hr:RdN w (.slice q own.stamp.length c) own.stamp) (hap:∀ k,k∈ob (.slice q own.stamp.length c)→k ∉ b.all pg) (hq:own.path.size≤9223372036854775807) :
 Calls Tryz.prog 15 #[.pointer (some ⟨pg,0,none⟩),.int .i64 now,aggL own (.slice q own.stamp.length c),.int .i64 id,.int .i64 holder,.int .i64 t,.bool fresh] w fun e w'=>GvS w0 w pg b (renewG d g now own id holder t fresh) e w':=by
 obtain ⟨k1,k2⟩:=renewG_GI' s.gi d now own id holder t fresh
 have n1:=s.n49
 refine (renew_any s.gm s.gi s.n49 hr hap hq).mono ?_
 rintro en w' ⟨q',c',rfl,hro,b',g',t',hd⟩
 exact ⟨q',c',b',rfl,s.to g' t' k1 (by rw [k2];exact n1),t',hro,hd⟩
theorem list_eq (s:GS w0 w pg b d g) {l:List Hld} (hl:listG g=l):Calls Tryz.prog 22 #[.pointer (some ⟨pg,0,none⟩)] w fun e w'=>ListTo w l e w':=by
 rw [← hl]
 exact list_any s.gm s.gi
theorem held_eq (s:GS w0 w pg b d g) (id:Int) {o:Option Hld} (ho:heldG g id=o):Calls Tryz.prog 18 #[.pointer (some ⟨pg,0,none⟩),.int .i64 id] w fun e w'=>HeldTo w o e w':=by
 rw [← ho]
 exact held_any s.gm s.gi id
theorem quar_eq (s:GS w0 w pg b d g) {n:Int} (hn:g.ends=n):Calls Tryz.prog 23 #[.pointer (some ⟨pg,0,none⟩)] w fun e w'=>e=.returned (.int .i64 n)∧w'=w:=by
 rw [← hn]
 exact quar_any s.gm
theorem blocks_eq (s:GS w0 w pg b d g) (now:Int) (path:ByteArray) (hp:path.size≤9223372036854775807) (mode:Int) {r:Bool} (hb:blocksG g now path.data.toList mode=r) :
 Calls Tryz.prog 20 #[.pointer (some ⟨pg,0,none⟩),.int .i64 now,.string path,.int .i64 mode] w fun e w'=>e=.returned (.bool r)∧Mod [] w w':=by
 rw [← hb]
 exact blocks_any s.gm s.gi now path hp mode
theorem mark_eq (s:GS w0 w pg b d g) (id origin number:Int) {p:Bool × Gtr} (hp:markG g id origin number=p) :
 Calls Tryz.prog 19 #[.pointer (some ⟨pg,0,none⟩),.int .i64 id,.int .i64 origin,.int .i64 number] w fun e w'=>e=.returned (.bool p.1)∧∃ b',GS w0 w' pg b' d p.2∧GTo w pg b w' b':=by
 have k1:=mark_GI s.gi id origin number
 have n1:=s.n49
 rw [hp] at k1
 refine (mark_any s.gm s.gi id origin number).mono ?_
 rw [hp]
 rintro en w' ⟨he,b',g',t'⟩
 exact ⟨he,b',s.to g' t' k1 n1,t'⟩
end
theorem gbL_lo {w:World} {pl pd bs:Nat} {gv:Value} {lv:List (Grt × Value)} {d:Dk} {l:Lg} (h:LgM w pl pd bs gv lv d l):∀ k,k∈gbL pl pd bs gv lv→k=pd∨k=bs∨pl≤k:=by
 intro k hk
 simp only [gbL,List.mem_cons,List.mem_append,List.mem_flatMap] at hk
 rcases hk with rfl | rfl | rfl | hk | ⟨p,hp,hk⟩
 · exact .inr (.inr (Nat.le_refl _))
 · exact .inl rfl
 · exact .inr (.inl rfl)
 · have:=(ob_of_row h.bk.gr.row k hk).1;exact .inr (.inr (by omega))
 · have:=(ob_of_row (h.bk.gr.st p hp).1 k hk).1;exact .inr (.inr (by omega))
theorem fresh_any {d1:Dk} (h1:openD (newD 49)=(0,d1,some newL)) (h2:Al d1 gF 1) (h3:openG newL 0=gF) (w:World) :
 Calls Tryz.prog 24 #[] w fun e w'=>∃ pd pg b,e=.returned (.tuple #[.pointer (some ⟨pd,0,none⟩),.pointer (some ⟨pg,0,none⟩)])∧b.pd=pd∧GS w w' pg b d1 gF:=by
 have H:=hd3 h1 h2 h3
 clear h1 h2 h3
 go_enter Tryz.func24,Tryz.ntmps24
 go_wp2_with (first
  | (go_at_call 67
     refine (dnew_any 49 (by omega) (by omega) _).mono ?_
     rintro e w1 ⟨rfl,hd,hm⟩
     have H1:=hd2 hd hm
     clear hd hm)
  | (go_at_call 31
     refine (open_any H1.out.1).mono ?_
     rintro e w2 ⟨m2,hr⟩
     rw [H.out.1] at hr
     obtain ⟨pl,gv,lv,rfl,hl,hp⟩:=hr
     have H2:=hd3 m2 hl hp
     clear m2 hl hp)
  | (go_at_call 11
     refine (gopen_any H2.out.2.1 new_valid (now:=0) (by decide) (by decide)).mono ?_
     rintro e w3 ⟨pg,b,rfl,hg,e1,e2,e3,m3,hk⟩
     have H3:=hd4 hg e2 m3 hk
     clear hg e1 e2 e3 m3 hk)
  | fail)
 go_ret2
 have hz:=H1.out.2.size
 have hz2:=H2.out.1.size
 have hg:=H3.out.1
 rw [H.out.2.2] at hg
 have hgb:=gbL_lo H2.out.2.1
 have hpl:=H2.out.2.2
 have hlo:∀ k,k∈gbL pl (w.heap.size+1) w.heap.size gv lv→w.heap.size≤k:=fun k hk=>by
  rcases hgb k hk with e | e | e <;> omega
 refine ⟨_,pg,b,rfl,H3.out.2.1,⟨hg,fun k hk=>?_,?_,H.out.2.1.gi,H.out.2.1.n49⟩⟩
 · rcases H3.out.2.2.2 k hk with e | e
   · exact hlo k e
   · omega
 · exact mod_fresh (mod_fresh H1.out.2 H2.out.1 (by simp)) H3.out.2.2.1 hlo
end Go.Proofs.YtllljngpgjkdiaaGreatDoor
/-
  WALKS: layer 16: the laws' awake.
-/
namespace Go.Proofs.YtllljngpgjkdiaaGreatDoor
set_option maxRecDepth 100000
set_option maxHeartbeats 8000000
open Go.RowKit Go.Maps

theorem GvS.out {w0 w w':World} {pg:Nat} {b:GB} {p:Grt × Int × Dk × Gtr} {e:Ending} (h:GvS w0 w pg b p e w') {x:Grt} {k:Int} (hx:p.1=x) (hk:p.2.1=k) :
 ∃ q c b',e=.returned (.tuple #[aggG x (.slice q x.stamp.length c),.int .i64 k])∧GS w0 w' pg b' p.2.2.1 p.2.2.2∧GTo w pg b w' b'∧w'.ownsRow w.heap.size 3 1 (.slice q x.stamp.length c) x.stamp.length (x.stamp.map (Value.int .i64))∧∀ k,k∈ob (.slice q x.stamp.length c)→k ∉ b'.all pg:=by
 subst hx hk
 exact h
theorem no_ob (b:GB) (pg:Nat):∀ k,k∈ob (.slice none 0 0)→k ∉ b.all pg:=by simp [ob,Value.ownBlock]
theorem awake_any (w:World):Calls Tryz.prog 12 #[] w fun e w'=>e=.returned (.bool true)∧Mod [] w w':=by
 obtain ⟨d1,f1,f2,-,f4⟩:=fresh_law
 have hfr:=fun (W:World)=>fresh_any f1 f2 f4 W
 obtain ⟨a1,b1,c1,g1⟩:=sim_grant f2 (g0:=gF) ⟨rfl,rfl,rfl,rfl⟩ (by omega) r1
 obtain ⟨p1,hp1⟩:∃ p,grantG d1 gF r1=p:=⟨_,rfl⟩
 rw [hp1] at a1 b1 c1 g1
 obtain ⟨a2,b2,c2,g2⟩:=sim_grant g1 (g0:=s1) c1 (by omega) r2
 obtain ⟨p2,hp2⟩:∃ p,grantG p1.2.2.1 p1.2.2.2 r2=p:=⟨_,rfl⟩
 rw [hp2] at a2 b2 c2 g2
 obtain ⟨a3,b3,c3,g3⟩:=sim_grant g2 (g0:=s2) c2 (by omega) r3
 obtain ⟨p3,hp3⟩:∃ p,grantG p2.2.2.1 p2.2.2.2 r3=p:=⟨_,rfl⟩
 rw [hp3] at a3 b3 c3 g3
 obtain ⟨a4,b4,c4,g4⟩:=sim_renew g3 (g0:=s3) c3 (by omega) 50 rootL 1 1 30 true
 obtain ⟨p4,hp4⟩:∃ p,renewG p3.2.2.1 p3.2.2.2 50 rootL 1 1 30 true=p:=⟨_,rfl⟩
 rw [hp4] at a4 b4 c4 g4
 obtain ⟨a5,b5,c5,g5⟩:=sim_grant g4 (g0:=s4) c4 (by omega) r5
 obtain ⟨p5,hp5⟩:∃ p,grantG p4.2.2.1 p4.2.2.2 r5=p:=⟨_,rfl⟩
 rw [hp5] at a5 b5 c5 g5
 rw [aw1.1] at a1;rw [aw1.2] at b1;rw [aw2.1] at a2;rw [aw2.2] at b2;rw [aw3.1] at a3;rw [aw3.2] at b3
 rw [aw4.1] at a4;rw [aw4.2] at b4;rw [aw7.1] at a5;rw [aw7.2] at b5
 have l4:listG p4.2.2.2=_:=c4.list.trans aw5
 have l5:listG p5.2.2.2=_:=Sm.list (g0:=s5) c5 |>.trans aw8.1
 have e5:p5.2.2.2.ends=0:=c5.ends.trans aw8.2
 have k4:=(Sm.blocks (g0:=s4) c4 50 (ByteArray.mk #[97,47,99]).data.toList 1).trans aw6.1
 have k5:=(Sm.blocks (g0:=s4) c4 110 (ByteArray.mk #[97,47,99]).data.toList 1).trans aw6.2
 obtain ⟨n1,n2⟩:=Sm.mark (g0:=s5) c5 4 0 9
 have n1':=n1.trans aw9.1
 have n3:=(Sm.mark n2 4 0 9).1.trans aw9.2
 have HP:=hd5 hp1 hp2 hp3 hp4 hp5
 have a2:p2.1=⟨0,0,⟨#[]⟩,0,[],0⟩:=a2
 have HA:=hd5 a1 a2 a3 a4 a5
 have HB:=hd5 b1 b2 b3 b4 b5
 have HK:=hd7 l4 l5 e5 k4 k5 n1' n3
 clear f1 f2 f4 hp1 hp2 hp3 hp4 hp5 a1 a2 a3 a4 a5 b1 b2 b3 b4 b5 l4 l5 e5 k4 k5 n1 n2 n1' n3 c1 c2 c3 c4 c5 g1 g2 g3 g4 g5
 have hroot:=fun (W:World)=>root_any W
 unfold aggL cellsL rootL at hroot
 dsimp only at hroot
 have t1:Hid True:=hide trivial
 have t1a:Hid True:=hide trivial
 have t2:Hid True:=hide trivial
 have t3:Hid True:=hide trivial
 have t4:Hid True:=hide trivial
 have t5:Hid True:=hide trivial
 go_enter Tryz.func12,Tryz.ntmps12
 go_upto_region 5 with (first
  | (go_at_call 24;refine (hfr _).mono ?_;rintro e w1 ⟨pd,pg,b1,rfl,-,s1⟩;have S1:=hide s1;clear s1 hfr)
  | (go_at_call 10;refine (hroot _).mono ?_;rintro e w2 ⟨rfl,m2⟩;have M2:=hide m2;clear m2)
  | (go_at_call 13
     have tk:=t1
     refine (grant_eq (r:=r1) (S1.out.quiet M2.out) (rdN_nil _) (no_ob _ _) (by decide) (by decide)).mono ?_
     rw [HP.out.1]
     intro e w3 h3
     obtain ⟨q3,c3,b3,rfl,s3,u3,-,-⟩:=h3.out HA.out.1 HB.out.1
     unfold aggG cellsG
     dsimp only
     have S3:=hide s3
     clear s3 u3 h3 t1 tk S1 M2)
  | fail)
 obtain ⟨W3,hW3⟩:∃ W3,W3=w3.alloc (.cells #[.int .i64 1,.int .i64 1,.string ⟨#[97]⟩,.int .i64 2,.slice q3 1 c3,.int .i64 100] 35 (0,0)):=⟨_,rfl⟩
 rw [← hW3]
 have hx3:W3.heap[w3.heap.size]?=some (.cells #[.int .i64 1,.int .i64 1,.string ⟨#[97]⟩,.int .i64 2,.slice q3 1 c3,.int .i64 100] 35 (0,0)):=by rw [hW3];exact heap_alloc_new w3 _
 have m3:Mod [] w3 W3:=by rw [hW3];exact (Mod.refl _ _).alloc _
 obtain ⟨X3,hX3⟩:∃ x,w3.heap.size=x:=⟨_,rfl⟩
 have ax3:=S3.out.asd m3 (Nat.le_refl _) (lt_of_block hx3)
 rw [hX3] at hx3 ax3 ⊢
 have S4:=hd3 (S3.out.quiet m3) hx3 ax3
 clear hW3 hx3 m3 hX3 ax3 S3
 go_upto_region 6 with (first
  | (go_at_call 10;refine (hroot _).mono ?_;rintro e w5 ⟨rfl,m5⟩;have M5:=hide m5;clear m5)
  | (go_at_call 13
     have tk:=t2
     refine (grant_eq (r:=r2) (S4.out.1.quiet M5.out) (rdN_nil _) (no_ob _ _) (by decide) (by decide)).mono ?_
     rw [HP.out.2.1]
     intro e w6 h6
     obtain ⟨q6,c6,b6,rfl,s6,u6,-,-⟩:=h6.out HA.out.2.1 HB.out.2.1
     unfold aggG cellsG
     dsimp only
     have S6:=hd2 s6 ((GTo.quiet M5.out).trans u6)
     clear s6 u6 h6 t2 tk)
  | fail)
 obtain ⟨W6,hW6⟩:∃ W6,W6=w6.alloc (.cells #[.int .i64 0,.int .i64 0,.string ⟨#[]⟩,.int .i64 0,.slice q6 0 c6,.int .i64 0] 35 (0,0)):=⟨_,rfl⟩
 rw [← hW6]
 have m6:Mod [] w6 W6:=by rw [hW6];exact (Mod.refl _ _).alloc _
 have S7:=hd3 (S6.out.1.quiet m6) (m6.at_ (S4.out.2.2.blk S6.out.2 S4.out.2.1) (by simp)) ((S4.out.2.2.to S6.out.2).quiet m6)
 clear hW6 m6 S6 S4 M5
 go_upto_region 7 with (first
  | (go_at_call 10;refine (hroot _).mono ?_;rintro e w8 ⟨rfl,m8⟩;have M8:=hide m8;clear m8)
  | (go_at_call 13
     have tk:=t3
     refine (grant_eq (r:=r3) (S7.out.1.quiet M8.out) (rdN_nil _) (no_ob _ _) (by decide) (by decide)).mono ?_
     rw [HP.out.2.2.1]
     intro e w9 h9
     obtain ⟨q9,c9,b9,rfl,s9,u9,-,-⟩:=h9.out HA.out.2.2.1 HB.out.2.2.1
     unfold aggG cellsG
     dsimp only
     have S9:=hd2 s9 ((GTo.quiet M8.out).trans u9)
     clear s9 u9 h9 t3 tk)
  | fail)
 obtain ⟨W9,hW9⟩:∃ W9,W9=w9.alloc (.cells #[.int .i64 2,.int .i64 1,.string ⟨#[97,47,98]⟩,.int .i64 1,.slice q9 1 c9,.int .i64 50] 35 (0,0)):=⟨_,rfl⟩
 rw [← hW9]
 have hx9:W9.heap[w9.heap.size]?=some (.cells #[.int .i64 2,.int .i64 1,.string ⟨#[97,47,98]⟩,.int .i64 1,.slice q9 1 c9,.int .i64 50] 35 (0,0)):=by rw [hW9];exact heap_alloc_new w9 _
 have m9:Mod [] w9 W9:=by rw [hW9];exact (Mod.refl _ _).alloc _
 obtain ⟨X9,hX9⟩:∃ x,w9.heap.size=x:=⟨_,rfl⟩
 have ax9:=S9.out.1.asd m9 (Nat.le_refl _) (lt_of_block hx9)
 rw [hX9] at hx9 ax9 ⊢
 have S10:=hd5 (S9.out.1.quiet m9) (m9.at_ (S7.out.2.2.blk S9.out.2 S7.out.2.1) (by simp)) ((S7.out.2.2.to S9.out.2).quiet m9) hx9 ax9
 clear hW9 hx9 m9 hX9 ax9 S7 S9 M8
 go_upto_region 8 with (first
  | (go_at_call 10;refine (hroot _).mono ?_;rintro e w10 ⟨rfl,m10⟩;have M10:=hide m10;clear m10)
  | (go_at_call 15
     have tk:=t4
     refine (renew_eq (now:=50) (own:=rootL) (id:=1) (holder:=1) (t:=30) (fresh:=true) (S10.out.1.quiet M10.out) (rdN_nil _) (no_ob _ _) (by decide)).mono ?_
     rw [HP.out.2.2.2.1]
     intro e w11 h11
     obtain ⟨q11,c11,b11,rfl,s11,u11,ro11,-⟩:=h11.out HA.out.2.2.2.1 HB.out.2.2.2.1
     unfold aggG cellsG
     dsimp only
     have S11:=hd3 s11 ((GTo.quiet M10.out).trans u11) (rdN_of_row ro11)
     clear s11 u11 h11 t4 tk ro11)
  | fail)
 obtain ⟨W11,hW11⟩:∃ W11,W11=w11.alloc (.cells #[.int .i64 1,.int .i64 1,.string ⟨#[97]⟩,.int .i64 2,.slice q11 1 c11,.int .i64 100] 35 (0,0)):=⟨_,rfl⟩
 rw [← hW11]
 have hx11:W11.heap[w11.heap.size]?=some (.cells #[.int .i64 1,.int .i64 1,.string ⟨#[97]⟩,.int .i64 2,.slice q11 1 c11,.int .i64 100] 35 (0,0)):=by rw [hW11];exact heap_alloc_new w11 _
 have m11:Mod [] w11 W11:=by rw [hW11];exact (Mod.refl _ _).alloc _
 obtain ⟨X11,hX11⟩:∃ x,w11.heap.size=x:=⟨_,rfl⟩
 rw [hX11] at hx11 ⊢
 have hrd11:RdN W11 (.slice q11 1 c11) [3]:=S11.out.2.2.mod m11 (by simp)
 have S12:=hd5 (S11.out.1.quiet m11) (m11.at_ (S10.out.2.2.1.blk S11.out.2.1 S10.out.2.1) (by simp)) (m11.at_ (S10.out.2.2.2.2.blk S11.out.2.1 S10.out.2.2.2.1) (by simp)) hx11 hrd11
 clear hW11 hx11 m11 hX11 S10 S11 M10 hrd11
 go_upto_region 9 with (
  go_at_call 22
  refine (list_eq S12.out.1 HK.out.1).mono ?_
  rintro e w13 ⟨q13,c13,lh,rfl,hmap,hH,m13⟩
  have hl:lh.length=2:=by have:=congrArg List.length hmap;simpa using this
  have HL:=hd4 hmap hH m13 hl
  rw [hl]
  clear hmap hH m13 hl)
 obtain ⟨hmap,hH,m13,hl⟩:=HL.out
 have C3:=blk_cell (m13.at_ S12.out.2.1 (by simp))
 have L3:=lt_of_block (m13.at_ S12.out.2.1 (by simp))
 have C9:=blk_cell (m13.at_ S12.out.2.2.1 (by simp))
 have L9:=lt_of_block (m13.at_ S12.out.2.2.1 (by simp))
 have C11:=blk_cell (m13.at_ S12.out.2.2.2.1 (by simp))
 have L11:=lt_of_block (m13.at_ S12.out.2.2.2.1 (by simp))
 obtain ⟨zb,zo,hqz,hzb,hz0⟩:=(S12.out.2.2.2.2.mod m13 (by simp)).at_ 0 (by simp)
 cases hqz
 have hz0:w13.cell? ⟨zb,zo,none⟩=some (.int .i64 3):=hz0
 rw [hl] at hH
 have hH2:HlM w13 W11.heap.size (.slice q13 2 c13) lh:=hH
 obtain ⟨lb,hql,-,hlb,hlc,-,-⟩:=hH2.at_ 0 (by omega)
 cases hql
 have hg0:lh.getD 0 default=(⟨⟨1,1,⟨#[97]⟩,2,[3],100⟩,110,0,0⟩,(lh.getD 0 default).2):=by
  cases lh with
  | nil=>simp at hl
  | cons x r=>simp at hmap;simp [hmap.1.symm]
 rw [hg0] at hlc
 have hl6:w13.cell? ⟨lb,6,none⟩=some (.int .i64 110):=hlc 6 (by decide)
 have S13:=hide (S12.out.1.quiet m13)
 clear hmap hH hH2 m13 hl hlc hg0 HL S12
 go_upto_region 11 with (first
  | (go_at_call 20;have tk:=t1a;refine (blocks_eq S13.out 50 _ (by decide) 1 HK.out.2.2.2.1).mono ?_;rintro e w14 ⟨rfl,m14⟩;have M14:=hide m14;clear m14 t1a tk)
  | (go_at_call 20;refine (blocks_eq (S13.out.quiet M14.out) 110 _ (by decide) 1 HK.out.2.2.2.2.1).mono ?_;rintro e w15 ⟨rfl,m15⟩;have M15:=hide (M14.out.then m15);clear m15)
  | fail)
 clear C3 L3 C9 L9 C11 L11 hzb hz0 hlb hl6
 go_upto_region 12 with (first
  | (go_at_call 10;refine (hroot _).mono ?_;rintro e w16 ⟨rfl,m16⟩;have M16:=hide (M15.out.then m16);clear m16)
  | (go_at_call 13
     have tk:=t5
     refine (grant_eq (r:=r5) (S13.out.quiet M16.out) (rdN_nil _) (no_ob _ _) (by decide) (by decide)).mono ?_
     rw [HP.out.2.2.2.2]
     intro e w17 h17
     obtain ⟨q17,c17,b17,rfl,s17,-,-,-⟩:=h17.out HA.out.2.2.2.2 HB.out.2.2.2.2
     unfold aggG cellsG
     dsimp only
     have S17:=hide s17
     clear s17 h17 t5 tk)
  | fail)
 obtain ⟨W17,hW17⟩:∃ W17,W17=w17.alloc (.cells #[.int .i64 4,.int .i64 2,.string ⟨#[97]⟩,.int .i64 2,.slice q17 1 c17,.int .i64 10] 35 (0,0)):=⟨_,rfl⟩
 rw [← hW17]
 have hx17:W17.heap[w17.heap.size]?=some (.cells #[.int .i64 4,.int .i64 2,.string ⟨#[97]⟩,.int .i64 2,.slice q17 1 c17,.int .i64 10] 35 (0,0)):=by rw [hW17];exact heap_alloc_new w17 _
 have m17:Mod [] w17 W17:=by rw [hW17];exact (Mod.refl _ _).alloc _
 have S18:=hide (S17.out.quiet m17)
 have C17:=blk_cell hx17
 have L17:=lt_of_block hx17
 clear hW17 hx17 m17 S17 M14 M15 M16 S13
 have t6:Hid True:=hide trivial
 go_wp2_with (first
  | (go_at_call 22
     refine (list_eq S18.out HK.out.2.1).mono ?_
     rintro e w19 ⟨q19,c19,lh,rfl,hmap,-,m19⟩
     have hl:lh.length=1:=by have:=congrArg List.length hmap;simpa using this
     have S19:=hide (S18.out.quiet m19)
     rw [hl]
     clear hmap m19 hl C17 S18)
  | (go_at_call 23;refine (quar_eq S19.out HK.out.2.2.1).mono ?_;rintro e wx ⟨rfl,hx⟩;rw [hx];clear hx)
  | (go_at_call 19
     have tk:=t6
     refine (mark_eq S19.out 4 0 9 rfl).mono ?_
     rintro e w20 ⟨rfl,b20,s20,-⟩
     rw [HK.out.2.2.2.2.2.1]
     have S20:=hide s20
     clear s20 t6 tk)
  | (go_at_call 19
     refine (mark_eq S20.out 4 0 9 rfl).mono ?_
     rintro e w21 ⟨rfl,b21,s21,-⟩
     rw [HK.out.2.2.2.2.2.2]
     have S21:=hide s21
     clear s21)
  | fail)
 go_ret
 exact ⟨rfl,S21.out.md⟩
end Go.Proofs.YtllljngpgjkdiaaGreatDoor
/-
  WALKS: layer 16: a grantor that is nil: Grant, Renew. PLAIN: what the calls of GrantorOwn answer.
-/
namespace Go.Proofs.YtllljngpgjkdiaaGreatDoor
set_option maxRecDepth 100000
open Go.RowKit Go.Maps

theorem grant_nil (w:World) (now holder mode t:Int) (path:ByteArray) (l:Lease) (sv:Value) :
 Calls Tryz.prog 13 #[.pointer none,.int .i64 now,aggL l sv,.int .i64 holder,.string path,.int .i64 mode,.int .i64 t] w fun e w'=>e=.returned (.tuple #[.agg #[.int .i64 0,.int .i64 0,.string ⟨#[]⟩,.int .i64 0,.slice none 0 0,.int .i64 0],.int .i64 1])∧Mod [] w w':=by
 obtain ⟨f,i,p,m,a,t,s,e,r⟩:=l
 unfold aggL cellsL
 dsimp only
 go_enter Tryz.func13,Tryz.ntmps13
 go_wp2_with fail
 exact bodyPost_ret (v:=.tuple #[.agg #[.int .i64 0,.int .i64 0,.string ⟨#[]⟩,.int .i64 0,.slice none 0 0,.int .i64 0],.int .i64 1]) (res_cell2 Tryz.results13 _ _ rfl (alloc_here (o:=.cells #[.int .i64 0,.int .i64 0,.string ⟨#[]⟩,.int .i64 0,.slice none 0 0,.int .i64 0] 35 (0,0)) (by simp)) Tryz.isAgg35 Tryz.sizeOf35 rfl) rfl ⟨rfl,by repeat (first | exact Mod.refl _ _ | refine Mod.alloc ?_ _)⟩
theorem renew_nil (w:World) (now id holder t:Int) (fresh:Bool) (l:Lease) (sv:Value) :
 Calls Tryz.prog 15 #[.pointer none,.int .i64 now,aggL l sv,.int .i64 id,.int .i64 holder,.int .i64 t,.bool fresh] w fun e w'=>e=.returned (.tuple #[.agg #[.int .i64 0,.int .i64 0,.string ⟨#[]⟩,.int .i64 0,.slice none 0 0,.int .i64 0],.int .i64 1])∧Mod [] w w':=by
 obtain ⟨f,i,p,m,a,t,s,e,r⟩:=l
 unfold aggL cellsL
 dsimp only
 go_enter Tryz.func15,Tryz.ntmps15
 go_wp2_with fail
 exact bodyPost_ret (v:=.tuple #[.agg #[.int .i64 0,.int .i64 0,.string ⟨#[]⟩,.int .i64 0,.slice none 0 0,.int .i64 0],.int .i64 1]) (res_cell2 Tryz.results15 _ _ rfl (alloc_here (o:=.cells #[.int .i64 0,.int .i64 0,.string ⟨#[]⟩,.int .i64 0,.slice none 0 0,.int .i64 0] 35 (0,0)) (by simp)) Tryz.isAgg35 Tryz.sizeOf35 rfl) rfl ⟨rfl,by repeat (first | exact Mod.refl _ _ | refine Mod.alloc ?_ _)⟩
/-! ### what the calls answer -/
def leO:Lease:=⟨0,0,⟨#[]⟩,2,[7,8],0,0,1099511627776,false⟩
def ro1:Req:=⟨5,2,10,leO,⟨#[97]⟩,1⟩
def so1:Gtr:=(grantM gF ro1).2.2
def so2:Gtr:=(renewM so1 6 leO 1 2 10 true).2.2
theorem ow1:(grantM gF ro1).1=⟨1,2,⟨#[97]⟩,1,[7,8,1],10⟩∧(grantM gF ro1).2.1=0:=⟨by kernel_rfl,by kernel_rfl⟩
theorem ow2:(renewM so1 6 leO 1 2 10 true).1=⟨1,2,⟨#[97]⟩,1,[7,8,2],10⟩∧(renewM so1 6 leO 1 2 10 true).2.1=0:=⟨by kernel_rfl,by kernel_rfl⟩
theorem ow3:listG so2=[⟨⟨1,2,⟨#[97]⟩,1,[7,8,2],10⟩,16,0,0⟩]:=by kernel_rfl
theorem own_law {d1:Dk} (f2:Al d1 gF 1):∃ d2 g2 d3 g3,grantG d1 gF ro1=(⟨1,2,⟨#[97]⟩,1,[7,8,1],10⟩,0,d2,g2)∧renewG d2 g2 6 leO 1 2 10 true=(⟨1,2,⟨#[97]⟩,1,[7,8,2],10⟩,0,d3,g3)∧listG g3=[⟨⟨1,2,⟨#[97]⟩,1,[7,8,2],10⟩,16,0,0⟩]:=by
 obtain ⟨a1,b1,c1,g1⟩:=sim_grant f2 (g0:=gF) ⟨rfl,rfl,rfl,rfl⟩ (by omega) ro1
 obtain ⟨⟨x1,e1,d2,g2⟩,hp1⟩:∃ p,grantG d1 gF ro1=p:=⟨_,rfl⟩
 rw [hp1] at a1 b1 c1 g1
 obtain ⟨a2,b2,c2,-⟩:=sim_renew g1 (g0:=so1) c1 (by omega) 6 leO 1 2 10 true
 obtain ⟨⟨x2,e2,d3,g3⟩,hp2⟩:∃ p,renewG d2 g2 6 leO 1 2 10 true=p:=⟨_,rfl⟩
 dsimp only at a2 b2 c2
 rw [hp2] at a2 b2 c2
 rw [ow1.1] at a1;rw [ow1.2] at b1;rw [ow2.1] at a2;rw [ow2.2] at b2
 dsimp only at a1 b1 a2 b2
 subst a1 b1 a2 b2
 exact ⟨d2,g2,d3,g3,hp1,hp2,(Sm.list (g0:=so2) c2).trans ow3⟩
theorem own_held {g:Gtr} (h:listG g=[⟨⟨1,2,⟨#[97]⟩,1,[7,8,2],10⟩,16,0,0⟩]):heldG g 1=some ⟨⟨1,2,⟨#[97]⟩,1,[7,8,2],10⟩,16,0,0⟩∧underG g 6 []=[⟨⟨1,2,⟨#[97]⟩,1,[7,8,2],10⟩,16,0,0⟩]:=by
 unfold heldG underG
 rw [h]
 exact ⟨by kernel_rfl,by kernel_rfl⟩
end Go.Proofs.YtllljngpgjkdiaaGreatDoor
/-
  WALKS: the laws of layer 16: own: a lease with a list of its own, however long.
-/
namespace Go.Proofs.YtllljngpgjkdiaaGreatDoor
set_option maxRecDepth 100000
set_option maxHeartbeats 1000000
open Go.RowKit

section
variable {P:Program}
theorem wpList_append_empty {ops:Array Oper} {rest:List Oper} {o:Oper} {a:Act} {Q:Exit→Act→World→Prop} (w:World) (hgd:o.guard=none) (s x:Operand) (t:TypeId)
 (ho:o.op=.call { callee:=.builtin .append,args:=#[s,x],argTypes:=#[t,t] })
 (e:TypeId) (i:TypeInfo) (ht:P.underlying t=some (.slice e)) (hi:P.info? e=some i) (hz:i.zero=some (.int .i64 0)) (hsize:i.size=1) (hby:i.bytes=8)
 {g:Nat} (hs:a.eval s=.slice (some ⟨g,0,none⟩) 0 0) (hg:w.heap[g]?=some (.cells #[] e (0,0))) {v:Value} {m:List Int} (hx:a.eval x=v) (hv:RdN w v m) (hsm:m.length * 8≤140737488355328)
 (h:∀ q c w',RdN w' (.slice q m.length c) m→(∀ k,k∈ob (.slice q m.length c)→g≤k∧k<w'.heap.size)→Mod [g] w w'→wpList P ops Q rest (a.put o.dst (.slice q m.length c)) w'):wpList P ops Q (o::rest) a w:=by
 by_cases hm:m=[]
 · subst hm
   obtain ⟨p,c,rfl⟩:=hv.len
   have src:Src P i.size t (.slice p 0 c) 0 [] w:=by
    cases p with
    | none=>exact Src.ofNil w ht c
    | some ad=>exact Src.ofSlice w ht ad 0 c [] (by simp) (fun _ _ h=>by simp at h) (fun _ h=>by cases h)
   have hr:=run_append_nothing w t t o.type e i ht hi (some ⟨g,0,none⟩) 0 0 (Nat.le_refl _) _ src
   refine wpList_plain hgd fun K hK=>?_
   unfold Oper.wp execOp
   simp only [List.length_nil] at hx
   simp only [ho,resolve,invoke,builtin,Sem.run_bind,Sem.run_pure,Result.andThen_ok,List.map_toArray,List.map_cons,List.map_nil,hs,hx,hr]
   refine hK _ _ (h _ _ _ ⟨by simp,.inl ⟨_,_,rfl,rfl⟩⟩ ?_ (Mod.refl _ _))
   intro k hk
   have:k=g:=by simpa [ob,Value.ownBlock] using hk
   have:=lt_of_block hg
   omega
 · have hpos:0<m.length:=List.length_pos_iff.2 hm
   rcases hv.2 with ⟨p,c,_,rfl⟩ | ⟨b,off,cap,rfl,hb,hc⟩
   · exact absurd rfl hm
   · have hown:w.ownsRow g e 1 (.slice (some ⟨g,0,none⟩) 0 0) 0 []:=⟨by simp,.inr ⟨g,0,#[],rfl,Nat.le_refl _,hg,by omega,by unfold maxLen;omega,by simp,by simp⟩⟩
     refine wpList_append_lies w hgd s x t ho g e i (.int .i64 0) 1 8 ht hi hz hsize hby rfl (by decide) (.slice (some ⟨g,0,none⟩) 0 0) 0 [] hs hown ⟨b,off,none⟩ m.length cap (m.map (Value.int .i64)) hx (by simp) ?_ (by simp [Value.oneCell']) hpos (by unfold maxLen;omega) (by omega) (Nat.le_of_lt (lt_of_block hg)) ?_
     · intro j u hu
       obtain ⟨hj,rfl⟩:=List.getElem?_eq_some_iff.1 hu
       rw [List.length_map] at hj
       have:=hc j hj
       rw [Addr.add_lit,this]
       simp [hj]
     · intro g' cap' w' hown hgr hat
       simp only [Nat.zero_add,List.nil_append] at hown ⊢
       exact h _ _ _ (rdN_of_row (by simpa using hown)) (ob_of_row hown) ((Mod.refl [g] w).grown hgr (fun k e _=>by simp [Value.ownBlock] at e;simp [e]))
end
def OwnTo (w:World) (l:Lease) (e:Ending) (w':World):Prop :=
 ∃ q c,e=.returned (aggL l (.slice q l.stamp.length c))∧RdN w' (.slice q l.stamp.length c) l.stamp∧(∀ k,k∈ob (.slice q l.stamp.length c)→w.heap.size≤k∧k<w'.heap.size)∧Mod [] w w'
theorem own_any {w:World} {l:Lease} {q:Option Addr} {c:Nat} (hv:RdN w (.slice q l.stamp.length c) l.stamp) (hs:l.stamp.length * 8≤140737488355328) :
 Calls Tryz.prog 14 #[aggL l (.slice q l.stamp.length c)] w fun e w'=>OwnTo w l e w':=by
 obtain ⟨i0,hi0,hz0,hs0,hb0⟩:=info_parts info_int
 obtain ⟨f,i,p,m,a,t,s,e,r⟩:=l
 unfold OwnTo aggL cellsL
 simp only at hv hs ⊢
 obtain ⟨W1,hW1⟩:∃ W1,W1=(w.alloc (.cells #[.int .i64 f,.int .i64 i,.string p,.int .i64 m,.slice q a.length c,.int .i64 t,.int .i64 s,.int .i64 e,.bool r] 25 (0,0))).alloc (.cells #[.int .i64 0,.int .i64 0,.string ⟨#[]⟩,.int .i64 0,.slice none 0 0,.int .i64 0,.int .i64 0,.int .i64 0,.bool false] 25 (0,0)):=⟨_,rfl⟩
 have b1:W1.heap[w.heap.size]?=some (.cells #[.int .i64 f,.int .i64 i,.string p,.int .i64 m,.slice q a.length c,.int .i64 t,.int .i64 s,.int .i64 e,.bool r] 25 (0,0)):=by rw [hW1];exact blk_alloc (heap_alloc_new w _) _
 have b2:W1.heap[w.heap.size+1]?=some (.cells #[.int .i64 0,.int .i64 0,.string ⟨#[]⟩,.int .i64 0,.slice none 0 0,.int .i64 0,.int .i64 0,.int .i64 0,.bool false] 25 (0,0)):=by
  rw [hW1,← World.size_alloc w (.cells #[.int .i64 f,.int .i64 i,.string p,.int .i64 m,.slice q a.length c,.int .i64 t,.int .i64 s,.int .i64 e,.bool r] 25 (0,0))]
  exact heap_alloc_new _ _
 have m1:Mod [] w W1:=by rw [hW1];exact ((Mod.refl _ _).alloc _).alloc _
 obtain ⟨W2,hW2⟩:∃ W2,W2=W1.alloc (.cells #[] 3 (0,0)):=⟨_,rfl⟩
 have b3:W2.heap[W1.heap.size]?=some (.cells #[] 3 (0,0)):=by rw [hW2];exact heap_alloc_new W1 _
 have m2:Mod [] W1 W2:=by rw [hW2];exact (Mod.refl _ _).alloc _
 have hv2:=(hv.mod m1 (by simp)).mod m2 (by simp)
 have hz1:W1.heap.size=w.heap.size+2:=by rw [hW1];simp
 have HB:=hd6 (m2.at_ b1 (by simp)) (m2.at_ b2 (by simp)) b3 (m1.then m2) hv2 hz1
 have HW2:=hide hW2
 have HW1:=hide hW1
 have C1:=blk_cell b1
 have L1:=lt_of_block b1
 clear b1 b2 b3 m1 m2 hv hv2 hz1 hW1 hW2
 go_enter Tryz.func14,Tryz.ntmps14
 go_upto_region 1 with fail
 rw [← HW1.out]
 go_upto_region 2 with (
  at_builtin
  rw [← HW2.out]
  refine wpList_append_empty W2 rfl _ _ 23 rfl 3 i0 Tryz.underlying23 hi0 hz0 hs0 hb0 rfl HB.out.2.2.1 rfl HB.out.2.2.2.2.1 hs ?_
  intro q' c' w3 hr ho hm
  have hz:=HB.out.2.2.2.2.2
  have c1:=hm.at_ HB.out.1 (by simp;omega)
  have c2:=hm.at_ HB.out.2.1 (by simp;omega)
  have HF:=hd5 hr ho hm c1 c2
  have C1:=blk_cell c1
  have F1:=blk_free c1
  have L1:=lt_of_block c1
  clear hr ho hm c1 c2 hz)
 obtain ⟨W4,hW4⟩:∃ W4,W4=w3.setCell ⟨w.heap.size,4,none⟩ (.slice q' a.length c'):=⟨_,rfl⟩
 rw [← hW4]
 have hb4:W4.heap[w.heap.size]?=some (.cells #[.int .i64 f,.int .i64 i,.string p,.int .i64 m,.slice q' a.length c',.int .i64 t,.int .i64 s,.int .i64 e,.bool r] 25 (0,0)):=by rw [hW4];exact blk_set HF.out.2.2.2.1 4 _
 have hb5:W4.heap[w.heap.size+1]?=some (.cells #[.int .i64 0,.int .i64 0,.string ⟨#[]⟩,.int .i64 0,.slice none 0 0,.int .i64 0,.int .i64 0,.int .i64 0,.bool false] 25 (0,0)):=by rw [hW4];exact blk_other HF.out.2.2.2.2 (by simp) _
 have m4:Mod [w.heap.size,w.heap.size+1] w3 W4:=by rw [hW4];exact (Mod.refl _ _).setCell (fun _=>by simp) _
 have qm:=stL_mod (S:=[w.heap.size,w.heap.size+1]) (r:=w.heap.size+1) (w0:=w3) (fun _=>by simp) [.int .i64 f,.int .i64 i,.string p,.int .i64 m,.slice q' a.length c',.int .i64 t,.int .i64 s,.int .i64 e,.bool r] 0 W4 m4
 have q5:=stL_all hb5 [.int .i64 f,.int .i64 i,.string p,.int .i64 m,.slice q' a.length c',.int .i64 t,.int .i64 s,.int .i64 e,.bool r] rfl
 have C4:=blk_cell hb4
 have L4:=lt_of_block hb4
 have C5:=blk_cell hb5
 have F5:=blk_free hb5
 have L5:=lt_of_block hb5
 have HZ:=hd2 qm q5
 clear hW4 hb4 hb5 m4 qm q5 C1 F1 L1
 go_wp2_with fail
 refine bodyPost_ret (v:=.agg #[.int .i64 f,.int .i64 i,.string p,.int .i64 m,.slice q' a.length c',.int .i64 t,.int .i64 s,.int .i64 e,.bool r]) (res_cell1 Tryz.results14 _ _ rfl HZ.out.2 Tryz.isAgg25 Tryz.sizeOf25) rfl ⟨q',c',rfl,?_,fun k hk=>?_,?_⟩
 · exact HF.out.1.mod HZ.out.1 (fun k hk e=>by have:=HF.out.2.1 k hk;have:=HB.out.2.2.2.2.2;simp at e;omega)
 · have h1:=HF.out.2.1 k hk
   have h2:=HB.out.2.2.2.2.2
   have h3:=HZ.out.1.size
   exact ⟨by omega,Nat.lt_of_lt_of_le h1.2 h3⟩
 · have h2:=HB.out.2.2.2.2.2
   exact mod_fresh (mod_fresh HB.out.2.2.2.1 HF.out.2.2.1 (fun k hk=>by simp at hk;omega)) HZ.out.1 (fun k hk=>by simp at hk;omega)
end Go.Proofs.YtllljngpgjkdiaaGreatDoor
/-
  WALKS: layer 16: more contracts for the laws: End, Done, the disk armed and turned on, a grantor opened again.
-/
namespace Go.Proofs.YtllljngpgjkdiaaGreatDoor
open Go.RowKit Go.Maps

section
variable {w0 w:World} {pg:Nat} {b:GB} {d:Dk} {g:Gtr}
end
/-! ### a ledger opened over the disk, in new memory; the old grantor is no more -/
structure GTx (w:World) (pg:Nat) (b:GB) (w':World) (pg':Nat) (b':GB):Prop where
 mod:Mod (b.all pg) w w'
 own:∀ k,k∈b'.all pg'→k∈b.all pg∨w.heap.size≤k
 pd:b'.pd=b.pd
section
variable {w w' w2:World} {pg pg' pg2:Nat} {b b' b2:GB}
theorem GTo.x (t:GTo w pg b w' b'):GTx w pg b w' pg b':=⟨t.mod,t.own,t.dk.1⟩
theorem GTx.trans (h:GTx w pg b w' pg' b') (k:GTx w' pg' b' w2 pg2 b2):GTx w pg b w2 pg2 b2:=by
 refine ⟨h.mod.trans k.mod (fun _ x _=>x) (fun x hx hlt=>?_),fun x hx=>?_,k.pd.trans h.pd⟩
 · rcases h.own x hx with e | e
   · exact e
   · omega
 · rcases k.own x hx with e | e
   · exact h.own x e
   · have:=h.mod.size
     exact .inr (by omega)
theorem GTx.quiet (m:Mod [] w w'):GTx w pg b w' pg b:=(GTo.quiet m).x
theorem GTx.then (h:GTx w pg b w' pg' b') (m:Mod [] w' w2):GTx w pg b w2 pg' b':=h.trans (GTx.quiet m)
theorem GTx.asd {k:Nat} (t:GTx w pg b w' pg' b') (h:Asd w pg b k):Asd w' pg' b' k:=by
 refine ⟨Nat.lt_of_lt_of_le h.1 t.mod.size,fun e=>?_⟩
 rcases t.own k e with e | e
 · exact h.2 e
 · have:=h.1;omega
theorem GTx.blk {k:Nat} {o:Obj} (t:GTx w pg b w' pg' b') (h:Asd w pg b k) (ho:w.heap[k]?=some o):w'.heap[k]?=some o:=t.mod.at_ ho h.2
end
structure LdN (w0 w1 w:World) (pg:Nat) (b:GB) (pl:Nat) (gv:Value) (lv:List (Grt × Value)) (d:Dk) (l:Lg):Prop where
 lg:LgM w pl b.pd b.bs gv lv d l
 lo:∀ k,k∈gbL pl b.pd b.bs gv lv→w0.heap.size≤k
 md:Mod [] w0 w
 tw:Mod (b.all pg) w1 w
 nw:∀ k,k∈gbL pl b.pd b.bs gv lv→k∈b.all pg∨w1.heap.size≤k
section
variable {w0 w1 w:World} {pg pl:Nat} {b:GB} {d:Dk} {g:Gtr} {gv:Value} {lv:List (Grt × Value)} {l:Lg}
theorem LdN.quiet (h:LdN w0 w1 w pg b pl gv lv d l) {w':World} (m:Mod [] w w'):LdN w0 w1 w' pg b pl gv lv d l:=⟨h.lg.quiet m,h.lo,h.md.then m,h.tw.then (m.mono (by simp)),h.nw⟩
end
end Go.Proofs.YtllljngpgjkdiaaGreatDoor
/-
  WALKS: layer 1: Overlap; the laws of layer 16: clash.
-/
namespace Go.Proofs.YtllljngpgjkdiaaGreatDoor
open Go.RowKit Go.Maps

end Go.Proofs.YtllljngpgjkdiaaGreatDoor
