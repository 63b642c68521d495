/-
  GrI GrD: see the remarks below.
-/
import Derived.Test.YtpphoeimakjjdaaGreatDoorMLedRf10
import Derived.Test.YtpphoeimakjjdaaGreatDoorMDsk
import Derived.Shelf.Spec.SlicesInsert
import Derived.Lib.AppendZerosOnto
import Derived.Lib.Overlaps
import Derived.Deep.RegionLaw
import Derived.Laws.NewBlocks
import Derived.Lib.SliceRun
/-
  WALKS: slices.Insert and slices.Delete at grants.
-/
namespace Go.Proofs.YtpphoeimakjjdaaGreatDoor
set_option maxRecDepth 100000
set_option maxHeartbeats 1000000
open Go.RowKit

section
variable {P:Program}
theorem run_copy6 (w:World) (dT sT ty elem:TypeId) (b o dLen dCap:Nat) (a:Addr) (sLen sCap k:Nat) (cs:List Value)
 (hu:P.underlying dT=some (.slice elem)) (hs:(P.info? elem).map (·.size)=some 6) (hk:Nat.min sLen dLen=k) (hn:cs.length=k * 6)
 (hsrc:∀ j v,cs[j]?=some v→w.cell? (a.add j)=some v) (hc:∀ j,j<cs.length→(w.cell? ⟨b,o+j,none⟩).isSome=true) (hf:∀ j,j<cs.length→w.frozen? ⟨b,o+j,none⟩=false) (h1:∀ v∈cs,v.oneCell'=true) :
 (Builtin.copy_ #[dT,sT] ty #[.slice (some ⟨b,o,none⟩) dLen dCap,.slice (some a) sLen sCap]).run P w=.ok (goInt k) (w.setCells b o cs):=by
 have hl:=run_loadCells_list (P:=P) w a cs hsrc
 have hst:=run_storeCells_cells (P:=P) b o cs 0 w (by simpa using hc) (by simpa using hf) h1
 cases hq:P.info? elem with
 | none=>simp [hq] at hs
 | some i =>
   have hi:i.size=6:=by simpa [hq] using hs
   simp [Builtin.copy_,run_underlying hu,Builtin.lenOf,Builtin.firstCells,sizeOf,typeInfo,hq,hi,hk,← hn,hl,hst]
end
theorem GrM.block {w:World} {base:Nat} {q:Option Addr} {n c:Nat} {lv:List (Grt × Value)} (h:GrM w base (.slice q n c) lv) (h0:0<lv.length) :
 n=lv.length∧∃ (g:Nat) (rest:List Value),q=some ⟨g,0,none⟩∧base≤g∧w.heap[g]?=some (.cells (lv.flatMap encG++rest).toArray 40 (0,0))∧lv.length≤c∧c≤maxLen∧(lv.flatMap encG++rest).length=c * 6:=by
 rcases h.row.2 with ⟨hv,hn⟩ | ⟨g,cap,cur,hv,hb,hg,hh1,hh2,hs,ht⟩
 · omega
 · simp only [Value.slice.injEq] at hv
   obtain ⟨rfl,rfl,rfl⟩:=hv
   refine ⟨rfl,g,cur.toList.drop (lv.length * 6),rfl,hb,?_,hh1,hh2,?_⟩
   · rw [← ht,List.take_append_drop];simpa using hg
   · rw [← ht,List.take_append_drop];simpa using hs
theorem mid_get {A B R:List Value} {o j:Nat} (hA:A.length=o) (hj:j<B.length):(A++(B++R))[o+j]?=B[j]?:=by
 rw [List.getElem?_append_right (by omega),show o+j - A.length=j by omega,List.getElem?_append_left hj]
theorem blk_src {w:World} {g o:Nat} {A B R:List Value} {T:TypeId} (hb:w.heap[g]?=some (.cells (A++(B++R)).toArray T (0,0))) (hA:A.length=o):∀ j v,B[j]?=some v→w.cell? ((⟨g,o,none⟩:Addr).add j)=some v:=by
 intro j v hv
 have hj:=(List.getElem?_eq_some_iff.1 hv).1
 rw [Addr.add_lit,blk_cell hb,List.getElem?_toArray,mid_get hA hj,hv]
theorem blk_there {w:World} {g o:Nat} {L:List Value} {T:TypeId} (hb:w.heap[g]?=some (.cells L.toArray T (0,0))) (h:o<L.length):(w.cell? ⟨g,o,none⟩).isSome=true:=by
 rw [blk_cell hb,List.getElem?_toArray,List.getElem?_eq_getElem h];rfl
theorem shape_blk {w:World} {g:Nat} {L:List Value} {T:TypeId} (hb:w.heap[g]?=some (.cells L.toArray T (0,0))):w.shape? g=some (T,L.length):=by
 simp [World.shape?,hb]
theorem overlaps_apart {w:World} {k g:Nat} {X L:List Value} (hk:w.heap[k]?=some (.cells X.toArray 40 (0,0))) (hb:w.heap[g]?=some (.cells L.toArray 40 (0,0))) (hL:0<L.length) (hne:k≠g) (o lb cb:Nat) :
 (callFunc 159 #[.slice (some ⟨k,0,none⟩) 1 1,.slice (some ⟨g,o,none⟩) lb cb]).run Tryz.prog w=.ok (.value (.bool false)) w:=by
 rw [run_callFunc_extern Tryz.func159 (by kernel_rfl) (by kernel_rfl) (by kernel_rfl) (e:=Extern.SlicesOverlaps.overlaps #[32,32] #[4]) (by kernel_rfl),
  Lib.run_overlaps_apart w 32 4 40 Tryz.underlying32 6 Tryz.sizeOf40 ⟨k,0,none⟩ ⟨g,o,none⟩ 1 1 lb cb hne _ _ _ _ (shape_blk hk) (shape_blk hb) (by omega) (blk_free hk 0) (blk_free hk _)]
 rfl
theorem size_grant:(Tryz.prog.info? 40).map (·.size)=some 6:=by kernel_rfl
theorem ins_shift {w:World} {g cap n i k:Nat} {A B C D X:List Value} (hi:i<n) (hr:n+1≤cap) (hm:cap≤9223372036854775807) (hA:A.length=i * 6) (hB:B.length=(n - i) * 6) (hC:C.length=6) (hX:X.length=6)
 (hb:w.heap[g]?=some (.cells (A++(B++(C++D))).toArray 40 (0,0))) (hk:w.heap[k]?=some (.cells X.toArray 40 (0,0))) (hne:k≠g) (h1B:∀ v∈B,v.oneCell'=true) (h1X:∀ v∈X,v.oneCell'=true) :
 Calls Tryz.prog 123 #[.slice (some ⟨g,0,none⟩) n cap,.int .i64 (i:Int),.slice (some ⟨k,0,none⟩) 1 1] w fun e w'=>e=.returned (.slice (some ⟨g,0,none⟩) (n+1) cap) ∧
  w'.heap[g]?=some (.cells (A++(X++(B++D))).toArray 40 (0,0))∧Mod [g] w w':=by
 have hz2:¬ ((i:Int)=(n:Int)):=by omega
 have hov:=fun lb cb=>overlaps_apart hk hb (by simp;omega) hne ((i+1) * 6) lb cb
 obtain ⟨C',O,hCO,hC',hO⟩:∃ C' O,B++C=C'++O∧C'.length=6∧O.length=B.length:=⟨(B++C).take 6,(B++C).drop 6,(List.take_append_drop 6 _).symm,by simp;omega,by simp;omega⟩
 have hb':w.heap[g]?=some (.cells ((A++C')++O++D).toArray 40 (0,0)):=by
  rw [hb,← List.append_assoc B C D,hCO];simp
 have hcp1:∀ ty dl dc sc,dl=n - i→(Builtin.copy_ #[32,32] ty #[.slice (some ⟨g,(i+1) * 6,none⟩) dl dc,.slice (some ⟨g,i * 6,none⟩) (n+1 - i) sc]).run Tryz.prog w.drew=.ok (goInt (n - i:Nat)) (w.drew.setCells g ((i+1) * 6) B):=fun ty dl dc sc hdl =>
  run_copy6 w.drew _ _ ty _ g ((i+1) * 6) _ dc ⟨g,i * 6,none⟩ _ sc (n - i) B Tryz.underlying32 size_grant (by simp only [Nat.min_def];split <;> omega) hB
   (blk_src (w:=w.drew) (R:=C++D) hb hA) (fun j hj=>blk_there (w:=w.drew) hb' (by simp;omega)) (fun j _=>blk_free (w:=w.drew) hb' _) h1B
 obtain ⟨W1,hW1⟩:∃ W1,W1=w.drew.setCells g ((i+1) * 6) B:=⟨_,rfl⟩
 rw [← hW1] at hcp1
 have hb1:W1.heap[g]?=some (.cells (A++C'++(B++D)).toArray 40 (0,0)):=by
  rw [hW1]
  have:=setCells_heap (r:=g) (T:=40) B ((i+1) * 6) w.drew (A++C') O D (by simp;omega) hO hb'
  rw [this];simp
 have hm1:Mod [g] w W1:=by rw [hW1];exact setCells_mod (fun _=>by simp) B _ _ (Mod.refl _ _).drew
 have hk1:W1.heap[k]?=some (.cells X.toArray 40 (0,0)):=hm1.at_ hk (by simp [hne])
 have hcp2:∀ ty dc,(Builtin.copy_ #[32,32] ty #[.slice (some ⟨g,i * 6,none⟩) (n+1 - i) dc,.slice (some ⟨k,0,none⟩) 1 1]).run Tryz.prog W1=.ok (goInt (1:Nat)) (W1.setCells g (i * 6) X):=fun ty dc =>
  run_copy6 W1 _ _ ty _ g (i * 6) _ dc ⟨k,0,none⟩ 1 1 1 X Tryz.underlying32 size_grant (by simp only [Nat.min_def];split <;> omega) (by omega)
   (blk_src (A:=[]) (R:=[]) (by simpa using hk1) rfl) (fun j hj=>blk_there hb1 (by simp;omega)) (fun j _=>blk_free hb1 _) h1X
 have hb2:(W1.setCells g (i * 6) X).heap[g]?=some (.cells (A++(X++(B++D))).toArray 40 (0,0)):=by
  have:=setCells_heap (r:=g) (T:=40) X (i * 6) W1 A C' (B++D) hA (by omega) hb1
  rw [this];simp
 have hm2:Mod [g] w (W1.setCells g (i * 6) X):=setCells_mod (fun _=>by simp) X _ _ hm1
 have HE:=Hj2 hb2 hm2
 have hw1:IntKind.i64.wrap ((i:Int)+1)=(i:Int)+1:=by rw [IntKind.wrap_i64];omega
 have hq1:(0:Int)≤(i:Int)+1:=by omega
 have hq6:(i:Int)+1≤(n:Int)+1:=by omega
 have hin:i≤n:=by omega
 have htn:((i:Int)+1).toNat=i+1:=by omega
 have hq2:¬ (cap=i+1):=by omega
 have hq3:(i:Int)≤(n:Int)+1:=by omega
 have hq4:¬ (cap=i):=by omega
 clear hb hb' hk hb1 hk1 hm1 hb2 hm2 hCO hC' hO hA hB hC hX h1B h1X hW1 hne
 go_enter Tryz.func123,Tryz.ntmps123
 go_wp2_with (simp only [hov])
 go_region_law (refine step_copy_runI rfl _ _ 32 32 rfl _ _ (by simp [Act.eval,Act.put]) (by simp [Act.eval,Act.put]) (hcp1 _ _ _ _ (by omega)) ?_)
 go_wp2_with (at_builtin;refine wpList_copy_runI _ rfl _ _ 32 32 rfl _ _ rfl rfl (hcp2 _ _) ?_)
 go_ret
 exact ⟨rfl,HE.out⟩
theorem zero_len (z:Array Value) (n:Nat):(Builtin.zeroCells z n).toList.length=n * z.size:=by simp [Builtin.zeroCells]
theorem ins_grow {w:World} {g cap n i k:Nat} {A B R X:List Value} (hi:i<n) (hcap:n≤cap) (hr:cap<n+1) (hbig:n≤1000000) (hA:A.length=i * 6) (hB:B.length=(n - i) * 6) (hX:X.length=6)
 (hb:w.heap[g]?=some (.cells (A++(B++R)).toArray 40 (0,0))) (hk:w.heap[k]?=some (.cells X.toArray 40 (0,0))) (h1B:∀ v∈B,v.oneCell'=true) (h1X:∀ v∈X,v.oneCell'=true) :
 Calls Tryz.prog 123 #[.slice (some ⟨g,0,none⟩) n cap,.int .i64 (i:Int),.slice (some ⟨k,0,none⟩) 1 1] w fun e w'=>∃ (G:Nat) (Z:List Value),e=.returned (.slice (some ⟨w.heap.size,0,none⟩) (n+1) G) ∧
  w'.heap[w.heap.size]?=some (.cells (A++(X++(B++Z))).toArray 40 (0,0))∧n+1≤G∧G≤maxLen∧(A++(X++(B++Z))).length=G * 6∧Mod [] w w':=by
 obtain ⟨i0,hi0,hz0,hs0,hb0⟩:=info_parts info_grant
 have hz2:¬ ((i:Int)=(n:Int)):=by omega
 have hz3:(cap:Int)<(n:Int)+1:=by omega
 have hcn:cap=n:=by omega
 have hgw:g<w.heap.size:=lt_of_block hb
 have hkw:k<w.heap.size:=lt_of_block hk
 have hkk:(n:Int)+1 - (i:Int)=((n+1 - i:Nat):Int):=by omega
 have hik:i+(n+1 - i)=n+1:=by omega
 have hold:(Builtin.firstCells i0.size i (.slice (some ⟨g,0,none⟩) i cap)).run Tryz.prog w.drew=.ok A.toArray w.drew:=by
  rw [hs0]
  exact run_firstCells_some w.drew 6 i ⟨g,0,none⟩ i cap A hA (blk_src (w:=w.drew) (A:=[]) (B:=A) (R:=B++R) hb rfl)
 have hrz:∀ ty,(Builtin.append_ #[32,3] ty #[.slice (some ⟨g,0,none⟩) i cap,.int .i64 ((n:Int)+1 - (i:Int))]).run Tryz.prog w =
  .ok (.slice (some ⟨w.heap.size,0,none⟩) (n+1) (grownCap w (n+1) cap 40)) (w.drew.alloc (.cells (A.toArray++Builtin.zeroCells (aggG Grt.zero (.slice none 0 0)).cells (n+1 - i)++Builtin.zeroCells (aggG Grt.zero (.slice none 0 0)).cells (grownCap w (n+1) cap 40 - (n+1))) 40)):=fun ty=>by
  have h:=Lib.run_append_grow_zeros w 32 3 ty 40 i0 _ .i64 .i64 Tryz.underlying32 Tryz.underlying3 hi0 hz0 (some ⟨g,0,none⟩) i cap A hold (n+1 - i) (by omega) (by omega) (by omega) (by omega) (by rw [hb0];omega) (by rw [hb0,hik];exact growslice_fits hr (by omega))
  rw [hik] at h
  rw [hkk]
  exact h
 obtain ⟨G,hG⟩:∃ G,G=grownCap w (n+1) cap 40:=⟨_,rfl⟩
 rw [← hG] at hrz
 have hGn:n+1≤G:=by rw [hG];exact grownCap_ge w _ _ _
 have hGM:G≤maxLen:=by rw [hG];exact grownCap_le_maxLen w (n+1) cap _ (by unfold maxLen;omega)
 have hG63:G≤9223372036854775807:=hGM
 have hcs:(aggG Grt.zero (.slice none 0 0)).cells.size=6:=rfl
 obtain ⟨Z1,hZ1,hZ1l⟩:∃ Z1:List Value,(Builtin.zeroCells (aggG Grt.zero (.slice none 0 0)).cells (n+1 - i))=Z1.toArray∧Z1.length=(n+1 - i) * 6:=⟨_,(Array.toArray_toList).symm,by rw [zero_len,hcs]⟩
 obtain ⟨Z2,hZ2,hZ2l⟩:∃ Z2:List Value,(Builtin.zeroCells (aggG Grt.zero (.slice none 0 0)).cells (G - (n+1)))=Z2.toArray∧Z2.length=(G - (n+1)) * 6:=⟨_,(Array.toArray_toList).symm,by rw [zero_len,hcs]⟩
 obtain ⟨X0,B0,hXB,hX0,hB0⟩:∃ X0 B0,Z1=X0++B0∧X0.length=6∧B0.length=B.length:=⟨Z1.take 6,Z1.drop 6,(List.take_append_drop 6 _).symm,by simp;omega,by simp;omega⟩
 have hrow:A.toArray++Builtin.zeroCells (aggG Grt.zero (.slice none 0 0)).cells (n+1 - i)++Builtin.zeroCells (aggG Grt.zero (.slice none 0 0)).cells (G - (n+1))=(A++X0++(B0++Z2)).toArray:=by
  rw [hZ1,hZ2,hXB];simp
 rw [hrow] at hrz
 obtain ⟨W1,hW1⟩:∃ W1,W1=w.drew.alloc (.cells (A++X0++(B0++Z2)).toArray 40):=⟨_,rfl⟩
 rw [← hW1] at hrz
 have hb1:W1.heap[w.heap.size]?=some (.cells (A++X0++(B0++Z2)).toArray 40 (0,0)):=by rw [hW1];exact heap_alloc_new w.drew _
 have hm1:Mod [] w W1:=by rw [hW1];exact (Mod.refl _ _).drew.alloc _
 have hk1:=hm1.at_ hk (by simp)
 have hg1:=hm1.at_ hb (by simp)
 have hcpA:∀ ty dc,(Builtin.copy_ #[32,32] ty #[.slice (some ⟨w.heap.size,i * 6,none⟩) (n+1 - i) dc,.slice (some ⟨k,0,none⟩) 1 1]).run Tryz.prog W1=.ok (goInt (1:Nat)) (W1.setCells w.heap.size (i * 6) X):=fun ty dc =>
  run_copy6 W1 _ _ ty _ w.heap.size (i * 6) _ dc ⟨k,0,none⟩ 1 1 1 X Tryz.underlying32 size_grant (by simp only [Nat.min_def];split <;> omega) (by omega)
   (blk_src (A:=[]) (R:=[]) (by simpa using hk1) rfl) (fun j hj=>blk_there hb1 (by simp;omega)) (fun j _=>blk_free hb1 _) h1X
 obtain ⟨W2,hW2⟩:∃ W2,W2=W1.setCells w.heap.size (i * 6) X:=⟨_,rfl⟩
 rw [← hW2] at hcpA
 have hb2:W2.heap[w.heap.size]?=some (.cells (A++X++B0++Z2).toArray 40 (0,0)):=by
  rw [hW2]
  have:=setCells_heap (r:=w.heap.size) (T:=40) X (i * 6) W1 A X0 (B0++Z2) hA (by omega) hb1
  rw [this];simp
 have hm2:Mod [] w W2:=by rw [hW2];exact setCells_mod (fun h=>by omega) X _ _ hm1
 have hg2:=hm2.at_ hb (by simp)
 have hcpB:∀ ty dl dc sc,dl=n - i→(Builtin.copy_ #[32,32] ty #[.slice (some ⟨w.heap.size,(i+1) * 6,none⟩) dl dc,.slice (some ⟨g,i * 6,none⟩) (n - i) sc]).run Tryz.prog W2.drew=.ok (goInt (n - i:Nat)) (W2.drew.setCells w.heap.size ((i+1) * 6) B):=fun ty dl dc sc hdl =>
  run_copy6 W2.drew _ _ ty _ w.heap.size ((i+1) * 6) _ dc ⟨g,i * 6,none⟩ _ sc (n - i) B Tryz.underlying32 size_grant (by simp only [Nat.min_def];split <;> omega) hB
   (blk_src (w:=W2.drew) (R:=R) hg2 hA) (fun j hj=>blk_there (w:=W2.drew) hb2 (by simp;omega)) (fun j _=>blk_free (w:=W2.drew) hb2 _) h1B
 have hb3:(W2.drew.setCells w.heap.size ((i+1) * 6) B).heap[w.heap.size]?=some (.cells (A++(X++(B++Z2))).toArray 40 (0,0)):=by
  have:=setCells_heap (r:=w.heap.size) (T:=40) B ((i+1) * 6) W2.drew (A++X) B0 Z2 (by simp;omega) hB0 hb2
  rw [this];simp
 have hm3:Mod [] w (W2.drew.setCells w.heap.size ((i+1) * 6) B):=setCells_mod (fun h=>by omega) B _ _ hm2.drew
 have hlen:(A++(X++(B++Z2))).length=G * 6:=by
  simp only [List.length_append,hA,hX,hB,hZ2l]
  omega
 have HE:=Hj5 hb3 hGn hGM hlen hm3
 have hw1:IntKind.i64.wrap ((i:Int)+1)=(i:Int)+1:=by rw [IntKind.wrap_i64];omega
 have hq1:(0:Int)≤(i:Int)+1:=by omega
 have hq6:(i:Int)+1≤(n:Int)+1:=by omega
 have hin:i≤n:=by omega
 have htn:((i:Int)+1).toNat=i+1:=by omega
 have hq2:¬ (G=i+1):=by omega
 have hq3:(i:Int)≤(n:Int):=by omega
 have hq4:¬ (G=i):=by omega
 have hq5:¬ (cap=i):=by omega
 have hq7:(i:Int)≤(n:Int)+1:=by omega
 clear hb hk hb1 hk1 hg1 hm1 hb2 hm2 hg2 hb3 hm3 hlen hA hB hX h1B h1X hW1 hW2 hrow hZ1 hZ2 hZ1l hZ2l hXB hX0 hB0 hcs hGM hold hkk hik hcn hG
 go_enter Tryz.func123,Tryz.ntmps123
 go_wp2_with (first
  | (at_builtin;refine Lib.wpList_append_run _ rfl _ _ _ _ rfl _ _ rfl rfl _ _ (hrz _) ?_)
  | (at_builtin;refine wpList_copy_runI _ rfl _ _ 32 32 rfl _ _ rfl rfl (hcpA _ _) ?_)
  | fail)
 go_region_law (refine step_copy_runI rfl _ _ 32 32 rfl _ _ (by simp [Act.eval,Act.put]) (by simp [Act.eval,Act.put]) (hcpB _ _ _ _ (by omega)) ?_)
 go_wp2_with fail
 go_ret
 exact ⟨_,_,rfl,HE.out⟩
end Go.Proofs.YtpphoeimakjjdaaGreatDoor
/-
  WALKS: slices.Delete at grants, one grant; Insert and Delete over grants of one's own.
-/
namespace Go.Proofs.YtpphoeimakjjdaaGreatDoor
set_option maxRecDepth 100000
set_option maxHeartbeats 1000000
open Go.RowKit

theorem del_one {w:World} {g cap i m:Nat} {A Y B R:List Value} (hr:i+1+m≤cap) (hm:cap≤9223372036854775807) (hA:A.length=i * 6) (hY:Y.length=6) (hB:B.length=m * 6)
 (hb:w.heap[g]?=some (.cells (A++(Y++(B++R))).toArray 40 (0,0))) (h1B:∀ v∈B,v.oneCell'=true) :
 Calls Tryz.prog 125 #[.slice (some ⟨g,0,none⟩) (i+1+m) cap,.int .i64 (i:Int),.int .i64 ((i:Int)+1)] w fun e w'=>∃ Z:List Value,e=.returned (.slice (some ⟨g,0,none⟩) (i+m) cap) ∧
  w'.heap[g]?=some (.cells (A++(B++(Z++R))).toArray 40 (0,0))∧Z.length=6∧Mod [g] w w':=by
 obtain ⟨i0,hi0,hz0,hs0,hb0⟩:=info_parts info_grant
 obtain ⟨O,T,hOT,hO,hT⟩:∃ O T,Y++B=O++T∧O.length=B.length∧T.length=6:=⟨(Y++B).take B.length,(Y++B).drop B.length,(List.take_append_drop _ _).symm,by simp,by simp;omega⟩
 have hb':w.drew.heap[g]?=some (.cells (A++O++(T++R)).toArray 40 (0,0)):=by
  show w.heap[g]?=_
  rw [hb,show A++(Y++(B++R))=A++((Y++B)++R) by simp,hOT];simp
 obtain ⟨W1,hW1⟩:∃ W1,W1=w.drew.setCells g (0+i * 6) B:=⟨_,rfl⟩
 have hb1:W1.heap[g]?=some (.cells (A++B++T++R).toArray 40 (0,0)):=by
  rw [hW1]
  have:=setCells_heap (r:=g) (T:=40) B (0+i * 6) w.drew A O (T++R) (by omega) hO hb'
  rw [this];simp
 have hm1:Mod [g] w W1:=by rw [hW1];exact setCells_mod (fun _=>by simp) B _ _ (Mod.refl _ _).drew
 obtain ⟨Z,hZ,hZl⟩:∃ Z:List Value,(Builtin.zeroCells (aggG Grt.zero (.slice none 0 0)).cells 1).toList=Z∧Z.length=6:=⟨_,rfl,by rw [zero_len];rfl⟩
 have h1Z:∀ v∈Z,v.oneCell'=true:=by
  intro v hv
  rw [← hZ] at hv
  have e:(Builtin.zeroCells (aggG Grt.zero (.slice none 0 0)).cells 1).toList=cellsG Grt.zero (.slice none 0 0):=by kernel_rfl
  rw [e] at hv
  exact one_G rfl v hv
 have hcl:∀ ty dl dc,dl=1→(Builtin.clear_ #[32] ty #[.slice (some ⟨g,(i+m) * 6,none⟩) dl dc]).run Tryz.prog W1=.ok (.tuple #[]) (W1.setCells g ((i+m) * 6) Z):=fun ty dl dc hdl=>by
  subst hdl
  have hst:=run_storeCells_cells (P:=Tryz.prog) g ((i+m) * 6) Z 0 W1 (fun j hj=>blk_there hb1 (by simp;omega)) (fun j _=>blk_free hb1 _) h1Z
  simp only [Nat.add_zero] at hst
  have hZ':(Builtin.zeroCells (Value.agg #[.int .i64 0,.int .i64 0,.string { data:=#[] },.int .i64 0,.slice none 0 0,.int .i64 0]).cells 1).toList=Z:=hZ
  simp [Builtin.clear_,run_underlying Tryz.underlying32,hZ',hst]
 have hb2:(W1.setCells g ((i+m) * 6) Z).heap[g]?=some (.cells (A++(B++(Z++R))).toArray 40 (0,0)):=by
  have:=setCells_heap (r:=g) (T:=40) Z ((i+m) * 6) W1 (A++B) T R (by simp;omega) (by omega) hb1
  rw [this];simp
 have hm2:Mod [g] w (W1.setCells g ((i+m) * 6) Z):=setCells_mod (fun _=>by simp) Z _ _ hm1
 obtain ⟨Ad,hAd,hsrc⟩:∃ Ad:Addr,(if cap=i+1 then (some ⟨g,0,none⟩:Option Addr) else some ⟨g,(i+1) * 6,none⟩)=some Ad∧Hid (∀ j v,B[j]?=some v→w.drew.cell? (Ad.add j)=some v):=by
  by_cases h:cap=i+1
  · refine ⟨⟨g,0,none⟩,by simp [h],fun j v hv=>?_⟩
    have:B=[]:=List.length_eq_zero_iff.1 (by omega)
    rw [this] at hv;simp at hv
  · refine ⟨⟨g,(i+1) * 6,none⟩,by simp [h],?_⟩
    exact blk_src (w:=w.drew) (T:=40) (A:=A++Y) (B:=B) (R:=R) (by show w.heap[g]?=_;rw [hb];simp) (by simp;omega)
 have s3:Hid (∀ j,j<B.length→(w.drew.cell? ⟨g,0+i * 6+j,none⟩).isSome=true∧w.drew.frozen? ⟨g,0+i * 6+j,none⟩=false):=fun j hj=>⟨blk_there hb' (by simp;omega),blk_free hb' _⟩
 have hB':=hide hB
 have HE:=Hj3 hb2 hZl hm2
 have HW:=hide hW1
 have H1:=hide h1B
 have hcl1:=fun (ty:TypeId) (dc:Nat)=>hcl ty (i+1+m - (i+m)) dc (by omega)
 have hic:i≤cap:=by omega
 have hne:¬ ((i:Int)=(i:Int)+1):=by omega
 have hw1:(((i+1+m:Nat):Int))=(i:Int)+1+(m:Int):=by omega
 have hq1:(0:Int)≤(i:Int)+1:=by omega
 have htn:((i:Int)+1).toNat=i+1:=by omega
 have hq5:(i:Int)≤(i:Int)+1:=by omega
 have hq6:(i:Int)+1≤(i:Int)+1+(m:Int):=by omega
 clear hb hb' hW1 hb1 hm1 hZ hZl h1Z hb2 hm2 hA hY hB hOT hO hT h1B
 go_enter Tryz.func125,Tryz.ntmps125
 go_wp2_with fail
 go_region_law (refine step_append_room rfl (.tmp 22) (.tmp 25) 32 rfl 40 i0 6 Tryz.underlying32 hi0 hs0 g 0 i cap (by simp [Act.eval,Act.put]) Ad m (cap - (i+1)) B (by simp [Act.eval,Act.put]) hB'.out hsrc.out H1.out (by omega) s3.out ?_;rw [← HW.out])
 clear hcl
 go_wp2_with fail
 go_ret
 exact ⟨Z,rfl,HE.out⟩

theorem one_L {w:World} {base:Nat} {v:Value} {lv l:List (Grt × Value)} (h:GrM w base v lv) (hl:∀ p,p∈l→p∈lv):∀ u∈l.flatMap encG,u.oneCell'=true:=by
 intro u hu
 obtain ⟨p,hp,hu⟩:=List.mem_flatMap.1 hu
 exact one_G (one_row (h.st p (hl p hp)).1) u hu
theorem flatG_len (l:List (Grt × Value)):(l.flatMap encG).length=l.length * 6:=flat_length encG 6 encG_len l
theorem GrM.laid {w w':World} {base:Nat} {v:Value} {L:List (Grt × Value)} {g' G:Nat} {rest:List Value} (hst:∀ p,p∈L→w.ownsRow base 3 1 p.2 p.1.stamp.length (p.1.stamp.map (Value.int .i64))∧∀ k,k∈ob p.2→k ∉ ob v) (hm:Mod (ob v) w w') (hg:g'∈ob v∨w.heap.size≤g') (hbg:base≤g')
 (hb:w'.heap[g']?=some (.cells (L.flatMap encG++rest).toArray 40 (0,0))) (h1:L.length≤G) (h2:G≤maxLen) (h3:(L.flatMap encG++rest).length=G * 6):GrM w' base (.slice (some ⟨g',0,none⟩) L.length G) L:=by
 refine ⟨⟨flatG_len L,.inr ⟨g',G,_,rfl,hbg,hb,h1,h2,by simpa using h3,by rw [List.toList_toArray,List.take_append_of_le_length (by rw [flatG_len];exact Nat.le_refl _),List.take_of_length_le (by rw [flatG_len];exact Nat.le_refl _)]⟩⟩,fun p hp=>⟨hm.row (hst p hp).1 (fun k hk=>(hst p hp).2 k (by simpa [ob] using hk)),fun k hk hk2=>?_⟩⟩
 have hk2:k=g':=by simpa [ob,Value.ownBlock] using hk2
 subst hk2
 rcases hg with e | e
 · exact (hst p hp).2 k hk e
 · have:=(ob_of_row (hst p hp).1 k hk).2
   omega
theorem ob_some (g n c:Nat):ob (.slice (some ⟨g,0,none⟩) n c)=[g]:=rfl
def insP (lv:List (Grt × Value)) (i:Nat) (x:Grt × Value):List (Grt × Value):=lv.take i++x::lv.drop i
theorem insG_any {w:World} {base:Nat} {v:Value} {lv:List (Grt × Value)} (h:GrM w base v lv) (hn:lv.length≤100000) (hbase:base≤w.heap.size) {i:Nat} (hi:i≤lv.length) {k:Nat} {x:Grt} {sv:Value}
 (hk:w.heap[k]?=some (.cells (cellsG x sv).toArray 40 (0,0))) (hkv:k ∉ ob v) (hst:w.ownsRow base 3 1 sv x.stamp.length (x.stamp.map (Value.int .i64))) (hap:∀ k,k∈ob sv→k ∉ ob v) :
 Calls Tryz.prog 123 #[v,.int .i64 (i:Int),.slice (some ⟨k,0,none⟩) 1 1] w fun e w'=>∃ v',e=.returned v'∧GrM w' base v' (insP lv i (x,sv))∧Mod (ob v) w w'∧(∀ k,k∈ob v'→k∈ob v∨w.heap.size≤k):=by
 have hall:∀ p,p∈insP lv i (x,sv)→w.ownsRow base 3 1 p.2 p.1.stamp.length (p.1.stamp.map (Value.int .i64))∧∀ k,k∈ob p.2→k ∉ ob v:=by
  intro p hp
  rcases List.mem_append.1 hp with hp | hp
  · exact h.st p (List.mem_of_mem_take hp)
  · rcases List.mem_cons.1 hp with rfl | hp
    · exact ⟨hst,hap⟩
    · exact h.st p (List.mem_of_mem_drop hp)
 have hil:(insP lv i (x,sv)).length=lv.length+1:=by simp [insP];omega
 obtain ⟨q,c,rfl,hmx⟩:=h.shape
 by_cases hlt:i<lv.length
 · obtain ⟨-,g,rest,rfl,hbg,hb,hc1,hc2,htot⟩:=h.block (by omega)
   have hA:((lv.take i).flatMap encG).length=i * 6:=by rw [flatG_len,List.length_take,Nat.min_eq_left (by omega)]
   have hB:((lv.drop i).flatMap encG).length=(lv.length - i) * 6:=by rw [flatG_len,List.length_drop]
   have hsp:lv.flatMap encG=(lv.take i).flatMap encG++(lv.drop i).flatMap encG:=by rw [← List.flatMap_append,List.take_append_drop]
   have hins:(insP lv i (x,sv)).flatMap encG=(lv.take i).flatMap encG++(cellsG x sv++(lv.drop i).flatMap encG):=by
    simp [insP,encG]
   have h1B:=one_L h (l:=lv.drop i) (fun p hp=>List.mem_of_mem_drop hp)
   have h1X:=one_G (g:=x) (one_row hst)
   rw [ob_some] at hkv hall ⊢
   by_cases hroom:lv.length+1≤c
   · have hrl:6≤rest.length:=by rw [List.length_append,flatG_len] at htot;omega
     refine (ins_shift (A:=(lv.take i).flatMap encG) (B:=(lv.drop i).flatMap encG) (C:=rest.take 6) (D:=rest.drop 6) (X:=cellsG x sv) hlt hroom hc2 hA hB (by simp;omega) rfl (by rw [hb,hsp];simp) hk (by simpa using hkv) h1B h1X).mono ?_
     rintro e w' ⟨rfl,hb',hm⟩
     have hl:=GrM.laid (v:=.slice (some ⟨g,0,none⟩) 0 0) (g':=g) (G:=c) (rest:=rest.drop 6) hall hm (.inl (by simp [ob_some])) hbg (by rw [hb',hins];simp) (by rw [hil];exact hroom) hc2 (by
      rw [List.length_append,flatG_len] at htot
      rw [List.length_append,flatG_len,hil,List.length_drop]
      omega)
     rw [hil] at hl
     exact ⟨_,rfl,hl,hm,fun k hk=>.inl hk⟩
   · refine (ins_grow (A:=(lv.take i).flatMap encG) (B:=(lv.drop i).flatMap encG) (R:=rest) (X:=cellsG x sv) hlt hc1 (by omega) (by omega) hA hB rfl (by rw [hb,hsp];simp) hk h1B h1X).mono ?_
     rintro e w' ⟨G,Z,rfl,hb',hG1,hG2,hl,hm⟩
     have hm':Mod [g] w w':=hm.mono (by simp)
     have hl:=GrM.laid (v:=.slice (some ⟨g,0,none⟩) 0 0) (g':=w.heap.size) (G:=G) (rest:=Z) hall hm' (.inr (Nat.le_refl _)) hbase (by rw [hb',hins];simp) (by rw [hil];exact hG1) hG2 (by
      rw [hins]
      simpa using hl)
     rw [hil] at hl
     exact ⟨_,rfl,hl,hm',fun k hk=>.inr (by simp only [ob_some,List.mem_singleton] at hk;omega)⟩
 · have he:i=lv.length:=by omega
   subst he
   have e:insP lv lv.length (x,sv)=lv++[(x,sv)]:=by simp [insP]
   rw [e]
   have HG:=Hj4 h hk hst hap
   clear h hk hst hap hall hkv hil e hlt
   cases q with
   | none =>
     obtain ⟨n,hnl⟩:∃ n,lv.length=n:=⟨_,rfl⟩
     have h0:lv.length=0:=by
      rcases HG.out.1.row.2 with ⟨hv,hn⟩ | ⟨g,cap,cur,hv,_⟩
      · exact hn
      · simp at hv
     rw [h0]
     have HZ:=hide h0
     rw [h0] at HG
     clear h0 hnl hi hn hmx
     go_enter Tryz.func123,Tryz.ntmps123
     go_wp2_with (
      at_builtin
      refine wpList_app_gr w rfl _ _ rfl rfl HG.out.1 (by have:=HZ.out;omega) hbase rfl HG.out.2.1 HG.out.2.2.1 HG.out.2.2.2 ?_
      rintro u' w3 hgm3 hm3 ⟨p3,c3,rfl⟩ hu3)
     go_ret
     exact ⟨_,rfl,hgm3,hm3,hu3⟩
   | some a =>
     have hc1:lv.length≤c:=by
      rcases HG.out.1.row.2 with ⟨hv,hn⟩ | ⟨g,cap,cur,hv,_,_,hh,_⟩
      · omega
      · simp only [Value.slice.injEq] at hv;omega
     obtain ⟨n,hnl⟩:∃ n,lv.length=n:=⟨_,rfl⟩
     rw [hnl] at hc1 hi hn hmx ⊢
     rw [hnl] at HG
     have HN:=hide hnl
     clear hnl hmx
     go_enter Tryz.func123,Tryz.ntmps123
     go_wp2_with (
      at_builtin
      refine wpList_app_gr w rfl _ _ rfl rfl HG.out.1 (by have:=HN.out;omega) hbase rfl HG.out.2.1 HG.out.2.2.1 HG.out.2.2.2 ?_
      rintro u' w3 hgm3 hm3 ⟨p3,c3,rfl⟩ hu3)
     all_goals
      go_ret
      exact ⟨_,rfl,hgm3,hm3,hu3⟩
theorem delG_any {w:World} {base:Nat} {v:Value} {lv:List (Grt × Value)} (h:GrM w base v lv) {i:Nat} (hi:i<lv.length) :
 Calls Tryz.prog 125 #[v,.int .i64 (i:Int),.int .i64 ((i:Int)+1)] w fun e w'=>∃ v',e=.returned v'∧GrM w' base v' (lv.take i++lv.drop (i+1))∧Mod (ob v) w w'∧(∀ k,k∈ob v'→k∈ob v):=by
 obtain ⟨q,c,rfl,hmx⟩:=h.shape
 obtain ⟨-,g,rest,rfl,hbg,hb,hc1,hc2,htot⟩:=h.block (by omega)
 have hA:((lv.take i).flatMap encG).length=i * 6:=by rw [flatG_len,List.length_take,Nat.min_eq_left (by omega)]
 have hB:((lv.drop (i+1)).flatMap encG).length=(lv.length - (i+1)) * 6:=by rw [flatG_len,List.length_drop]
 have hsp:lv.flatMap encG=(lv.take i).flatMap encG++(encG (lv.getD i default)++(lv.drop (i+1)).flatMap encG):=by
  have e:lv=lv.take i++lv.getD i default::lv.drop (i+1):=by
   simp [hi]
  conv=>lhs;rw [e]
  simp
 have hil:(lv.take i++lv.drop (i+1)).length=i+(lv.length - (i+1)):=by simp;omega
 have hall:∀ p,p∈lv.take i++lv.drop (i+1)→w.ownsRow base 3 1 p.2 p.1.stamp.length (p.1.stamp.map (Value.int .i64))∧∀ k,k∈ob p.2→k ∉ ob (.slice (some ⟨g,0,none⟩) lv.length c):=by
  intro p hp
  rcases List.mem_append.1 hp with hp | hp
  · exact h.st p (List.mem_of_mem_take hp)
  · exact h.st p (List.mem_of_mem_drop hp)
 have h1B:=one_L h (l:=lv.drop (i+1)) (fun p hp=>List.mem_of_mem_drop hp)
 have hd:=del_one (A:=(lv.take i).flatMap encG) (Y:=encG (lv.getD i default)) (B:=(lv.drop (i+1)).flatMap encG) (R:=rest) (m:=lv.length - (i+1)) (cap:=c) (by omega) hc2 hA rfl hB (by rw [hb,hsp];simp) h1B
 rw [show i+1+(lv.length - (i+1))=lv.length by omega] at hd
 refine hd.mono ?_
 rintro e w' ⟨Z,rfl,hb',hZ,hm⟩
 have hl:=GrM.laid (v:=.slice (some ⟨g,0,none⟩) lv.length c) (g':=g) (G:=c) (rest:=Z++rest) hall (by rw [ob_some];exact hm) (.inl (by simp [ob_some])) hbg (by rw [hb'];simp) (by rw [hil];omega) hc2 (by
  rw [List.length_append,flatG_len] at htot
  rw [List.length_append,flatG_len,hil,List.length_append,hZ]
  omega)
 rw [hil] at hl
 exact ⟨_,rfl,hl,hm,fun k hk=>hk⟩
theorem GrM.setSt {w:World} {base:Nat} {g n c:Nat} {lv:List (Grt × Value)} (h:GrM w base (.slice (some ⟨g,0,none⟩) n c) lv) {i:Nat} (hi:i<lv.length) {s:List Int} {v':Value} (hst:w.ownsRow base 3 1 v' s.length (s.map (Value.int .i64))) (hap:g ∉ ob v') :
 GrM (w.setCell ⟨g,i * 6+4,none⟩ v') base (.slice (some ⟨g,0,none⟩) n c) (lv.set i ({ (lv.getD i default).1 with stamp:=s },v')):=by
 obtain ⟨rfl,g',rest,hg',hbg,hb,hc1,hc2,htot⟩:=h.block (by omega)
 simp only [Option.some.injEq,Addr.mk.injEq,and_true] at hg'
 subst hg'
 have hm:Mod (ob (.slice (some ⟨g,0,none⟩) lv.length c)) w (w.setCell ⟨g,i * 6+4,none⟩ v'):=(Mod.refl _ _).setCell (fun _=>by simp [ob_some]) _
 have hb2:=blk_set hb (i * 6+4) v'
 have e:(lv.flatMap encG++rest).toArray.setIfInBounds (i * 6+4) v'=((lv.set i ({ (lv.getD i default).1 with stamp:=s },v')).flatMap encG++rest).toArray:=by
  have h1:lv=lv.take i++lv.getD i default::lv.drop (i+1):=by simp [hi]
  have h2:lv.set i ({ (lv.getD i default).1 with stamp:=s },v')=lv.take i++({ (lv.getD i default).1 with stamp:=s },v')::lv.drop (i+1):=by rw [List.set_eq_take_append_cons_drop,if_pos hi]
  have h3:(lv.flatMap encG++rest)=(lv.take i).flatMap encG++(encG (lv.getD i default)++((lv.drop (i+1)).flatMap encG++rest)):=by
   conv=>lhs;rw [h1]
   simp
  rw [h2,h3,List.setIfInBounds_toArray,List.set_append_right _ _ (by rw [flatG_len];simp;omega)]
  have h4:i * 6+4 - ((lv.take i).flatMap encG).length=4:=by rw [flatG_len,List.length_take,Nat.min_eq_left (by omega)];omega
  rw [h4]
  simp [encG,cellsG]
 rw [e] at hb2
 have hln:(lv.set i ({ (lv.getD i default).1 with stamp:=s },v')).length=lv.length:=by simp
 have hl:=GrM.laid (w:=w) (v:=.slice (some ⟨g,0,none⟩) lv.length c) (g':=g) (G:=c) (rest:=rest) (base:=base) (L:=lv.set i ({ (lv.getD i default).1 with stamp:=s },v')) (fun p hp=>?_) hm (.inl (by simp [ob_some])) hbg hb2 (by rw [hln];exact hc1) hc2 (by
  rw [List.length_append,flatG_len] at htot ⊢
  rw [hln];exact htot)
 · rw [hln] at hl
   exact hl
 · rcases List.mem_or_eq_of_mem_set hp with hp | rfl
   · exact h.st p hp
   · exact ⟨hst,fun k hk hk2=>by
      rw [ob_some,List.mem_singleton] at hk2
      subst hk2
      exact hap hk⟩
end Go.Proofs.YtpphoeimakjjdaaGreatDoor
