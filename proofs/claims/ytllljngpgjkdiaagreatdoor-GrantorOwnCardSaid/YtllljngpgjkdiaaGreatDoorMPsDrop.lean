/-
  PsPut PsPrune PsDrop: see the remarks below.
-/
import Derived.Test.YtllljngpgjkdiaaGreatDoorMPsX
import Derived.Deep.RegionHeld3
import Derived.Deep.LoopGhost
import Derived.Deep.DeepCutAuto
import Derived.StillTailTactics
/-
  WALK: layer 5: Put.
-/
namespace Go.Proofs.YtllljngpgjkdiaaGreatDoor
set_option maxRecDepth 100000
set_option maxHeartbeats 4000000
open Go.RowKit Go.Maps

def SplR (w:World) (s:ByteArray) (q:Option Addr) (D:List ByteArray) (er:Int) (w':World):Prop :=
 Gr w w'∧((er=10∧pathOk s.data.toList=false∧D=[])∨(er=0∧pathOk s.data.toList=true∧D.map (fun d=>d.data.toList)=segsOf s.data.toList∧D.length≤4 ∧
  (∀ i,i<D.length→(D.getD i ByteArray.empty).size≤maxLen)∧∀ i,i<D.length→∃ b,q=some ⟨b,0,none⟩∧w.heap.size≤b∧w'.cell? ⟨b,i,none⟩=some (.string (D.getD i ByteArray.empty))))
theorem join_len:∀ (L:List Seg) (x:Seg),x∈L→x.length≤(join47 L).length
 | [],x,h=>by cases h
 | [s],x,h=>by rw [List.mem_singleton.1 h];exact Nat.le_refl _
 | s::t::r,x,h=>by
   rw [join47_cons (by simp),List.length_append,List.length_cons]
   rcases List.mem_cons.1 h with e | e
   · rw [e];omega
   · have:=join_len (t::r) x e;omega
theorem seg_len {l:List UInt8} (h0:l≠[]) {x:Seg} (h:x∈segsOf l):x.length≤l.length:=by
 unfold segsOf at h
 rw [if_neg h0] at h
 have:=join_len _ x h
 rwa [join_split] at this
theorem psplit_gen (s:ByteArray) (hs:s.size≤9223372036854775807) (w:World):Calls Tryz.prog 111 #[.string s] w fun e w'=>∃ q D er,e=.returned (.tuple #[.slice q D.length D.length,.int .i64 er])∧SplR w s q D er w':=by
 refine (psplit_any s hs w).mono ?_
 rintro e w' (⟨h1,rfl,rfl⟩ | ⟨h1,rfl,rfl⟩ | ⟨h1,h2,D,hD,rfl,rfl⟩)
 · exact ⟨none,[],10,rfl,Gr.refl _,.inl ⟨rfl,h1,rfl⟩⟩
 · exact ⟨none,[],0,rfl,Gr.refl _,.inr ⟨rfl,by rw [h1];rfl,by rw [h1];rfl,by simp,by simp,by simp⟩⟩
 · have hl:D.length≤4:=by
    have e1:=congrArg List.length hD
    rw [List.length_map] at e1
    rw [e1]
    exact segs_length h1
   have hlp:=pathOk_len h1
   refine ⟨_,D,0,rfl,(Gr.refl w).alloc _,.inr ⟨rfl,h1,hD,hl,fun i hi=>?_,fun i hi=>⟨w.heap.size,rfl,Nat.le_refl _,?_⟩⟩⟩
   · have hm:(D.getD i ByteArray.empty).data.toList∈segsOf s.data.toList:=by
      rw [← hD]
      exact List.mem_map.2 ⟨D.getD i ByteArray.empty,by simp [hi],rfl⟩
     have:=seg_len h2 hm
     rw [Lib.size_eq]
     unfold maxLen
     omega
   rw [blk_cell (heap_alloc_new w (.cells (D.map Value.string).toArray 9 (0,0)))]
   simp [hi]
theorem zero_str (w:World):(zeroValue 9).run Tryz.prog w=.ok (.string ByteArray.empty) w:=by kernel_rfl
theorem zero_br (w:World):(zeroValue 114).run Tryz.prog w=.ok (.pointer none) w:=by kernel_rfl
def GrownTo (w w':World) (b em cm:Nat):Prop:=Gr w w'∧w.heap.size≤b∧w.heap.size≤em∧w.heap.size≤cm ∧
    ∀ (N:List Nd) (l:List Ent) (q:Nd) (x:Seg) (w2:World),TreeM w N l→q∈N→(∀ n,n∈N→n.pre≠q.pre++[x])→MapL sK w2 q.cm (setM ((kidsOf N q.pre).map kidV) (segOf x) (.pointer (some ⟨b,0,none⟩)))→w'.grownBy w2 (some q.cm) →
      TreeM w2 (⟨q.pre++[x],b,em,cm⟩::N) l∧Mod [q.cm] w w2
theorem grown_gen (w:World):Calls Tryz.prog 78 #[] w fun e w'=>∃ b em cm,e=.returned (.pointer (some ⟨b,0,none⟩))∧GrownTo w w' b em cm:=by
 refine (grown_any w).mono ?_
 rintro e w' ⟨rfl,rfl⟩
 exact ⟨_,_,_,rfl,(((Gr.refl w).alloc _).alloc _).alloc _,by omega,Nat.le_refl _,by omega,fun N l q x w2 h hq hno h2 hg=>h.grow hq hno h2 hg⟩
def PLoop (w3:World) (N:List Nd) (l:List Ent) (D:List ByteArray) (g:Nat) (bv i:Value) (wr:World):Prop :=
 ∃ (k:Nat) (N':List Nd) (n:Nd),k+g=D.length∧i=.int .i64 k∧bv=.pointer (some ⟨n.b,0,none⟩)∧n∈N'∧n.pre=(D.map fun d=>d.data.toList).take k∧TreeM wr N' l∧(∀ x,x∈N→x∈N') ∧
   (∀ x,x∈N'→x∈N∨(x.pre <+: (D.map fun d=>d.data.toList)∧w3.heap.size≤x.b∧w3.heap.size≤x.em∧w3.heap.size≤x.cm))∧Mod (blksN N) w3 wr
theorem segOf_bytes (x:ByteArray):segOf x.data.toList=x:=by cases x;simp [segOf]
def SPutTo (w:World) (sb wb:Nat) (N:List Nd) (s:List Ent × Int) (e:Ending) (w':World):Prop:=e=.returned (.int .i64 s.2)∧∃ N',SetM w' sb wb N' s.1∧SetTo w sb wb N w' N'
theorem SPutTo.same {w w':World} {sb wb:Nat} {N:List Nd} {l:List Ent} (h:SetM w sb wb N l) (m:Mod [] w w') (k:Int):SPutTo w sb wb N (l,k) (.returned (.int .i64 k)) w' :=
 ⟨rfl,N,h.same m,m.mono (by simp),fun _ hk=>.inl hk⟩
theorem new_own {N N':List Nd} {B:Nat} {Q:Nd→Prop} (h:∀ x,x∈N'→x∈N∨(Q x∧B≤x.b∧B≤x.em∧B≤x.cm)):∀ k,k∈blksN N'→k∈blksN N∨B≤k:=by
 intro k hk
 obtain ⟨x,hx,hc⟩:=List.mem_flatMap.1 hk
 rcases h x hx with h1 | ⟨-,h1,h2,h3⟩
 · exact .inl (mem_blks3 h1 hc)
 · simp only [List.mem_cons,List.not_mem_nil,or_false] at hc
   rcases hc with e | e | e <;> exact .inr (by omega)
theorem SetM.apart2 {w:World} {sb wb:Nat} {N:List Nd} {l:List Ent} (h:SetM w sb wb N l):sb≠wb∧sb ∉ blksN N∧wb ∉ blksN N:=by
 have h1:=List.nodup_cons.1 h.apart
 have h2:=List.nodup_cons.1 h1.2
 exact ⟨fun e=>h1.1 (by rw [e];exact List.mem_cons_self),fun e=>h1.1 (List.mem_cons_of_mem _ e),h2.1⟩
theorem put_end {w wc wr w5 w6 w7:World} {sb wb:Nat} {N N':List Nd} {l:List Ent} {e:Ent} {n:Nd} (g:Gr w wc) (h3:SetM wc sb wb N l) (hn:n∈N') (hT:TreeM w5 N' (e::l)) (m5:Mod [n.em] wr w5) (g6:Gr w5 w6) (hmr:Mod (blksN N) wc wr)
 (hnew:∀ x,x∈N'→x∈N∨(x.pre <+: e.sg∧wc.heap.size≤x.b∧wc.heap.size≤x.em∧wc.heap.size≤x.cm)) (hsub:∀ x,x∈N→x∈N') (hok:entOk e) (hid:∀ y,y∈l→y.id≠e.id) (hlen:l.length≠64)
 (q1:MapL iK w7 wb ((e::l).map whV)) (q2:w6.grownBy w7 (some wb)):SPutTo w sb wb N (insE e l,0) (.returned (.int .i64 0)) w7:=by
 have hown:=new_own hnew
 obtain ⟨a1,a2,a3⟩:=h3.apart2
 have hlt:=h3.lt
 have hem:=(mem_blks hn).2.1
 have hsN:sb ∉ blksN N':=fun x=>by
  rcases hown _ x with y | y
  · exact a2 y
  · have:=hlt sb (by simp);omega
 have hwN:wb ∉ blksN N':=fun x=>by
  rcases hown _ x with y | y
  · exact a3 y
  · have:=hlt wb (by simp);omega
 have m7:Mod [wb] w6 w7:=(Mod.refl [wb] w6).grown q2 (fun k e _=>by simp at e;simp [e])
 have hT7:TreeM w7 N' (e::l):=(hT.mod (g6.mod []) (by simp)).mod m7 (fun k hk=>by simp;exact fun x=>hwN (by rw [← x];exact hk))
 have mAll:Mod (wb::blksN N') wc w7:=by
  refine ((hmr.trans m5 (U:=wb::blksN N') (fun x hx _=>?_) (fun x hx _=>?_)).gr g6).trans m7 (fun _ x _=>x) (fun x hx _=>by simp at hx;simp [hx])
  · obtain ⟨y,hy,hc⟩:=List.mem_flatMap.1 hx
    exact List.mem_cons_of_mem _ (mem_blks3 (hsub y hy) hc)
  · rw [List.mem_singleton.1 hx];exact List.mem_cons_of_mem _ hem
 have p:=insE_perm e l
 refine ⟨rfl,N',⟨?_,(hT7.perm p.symm).nd,q1.perm (p.symm.map _),?_,(hT7.perm p.symm).tr,fun x hx h0=>?_,?_,fun x hx=>?_,?_⟩,⟨?_,fun k hk=>?_⟩⟩
 · obtain ⟨r,hr,hr0,hb⟩:=h3.blk
   exact ⟨r,hsub r hr,hr0,mAll.at_ hb (by simp;exact ⟨a1,hsN⟩)⟩
 · exact List.nodup_cons.2 ⟨by simp;exact ⟨a1,hsN⟩,List.nodup_cons.2 ⟨hwN,hT.apart⟩⟩
 · rcases hnew x hx with y | ⟨y,-⟩
   · obtain ⟨e',he',hp⟩:=h3.pr x y h0
     exact ⟨e',mem_insE.2 (.inr he'),hp⟩
   · exact ⟨e,mem_insE.2 (.inl rfl),y⟩
 · exact (p.pairwise_iff (fun {_ _} q=>Ne.symm q)).2 (List.pairwise_cons.2 ⟨fun y hy=>(hid y hy).symm,h3.ids⟩)
 · rcases mem_insE.1 hx with rfl | y
   · exact hok
   · exact h3.ok x y
 · have:=p.length_eq
   have:=h3.small
   simp only [List.length_cons] at *
   omega
 · refine (g.mod (wb::blksN N)).trans mAll (fun _ x _=>x) fun x hx hlt2=>?_
   have:=g.size
   rcases List.mem_cons.1 hx with y | y
   · rw [y];exact List.mem_cons_self
   · rcases hown _ y with z | z
     · exact List.mem_cons_of_mem _ z
     · omega
 · have:=g.size
   rcases hown _ hk with z | z
   · exact .inl z
   · exact .inr (by omega)
theorem sput_any {w:World} {sb wb:Nat} {N:List Nd} {l:List Ent} (h:SetM w sb wb N l) (id:Int) (p:ByteArray) (m who:Int) (hp:p.size≤9223372036854775807) (hi:(Lit.int .i64 id).wf=true) :
 Calls Tryz.prog 79 #[.pointer (some ⟨sb,0,none⟩),.agg #[.int .i64 id,.string p,.int .i64 m,.int .i64 who]] w fun en w'=>SPutTo w sb wb N (putS5 l ⟨id,p,m,who⟩) en w':=by
 obtain ⟨⟨L',k'⟩,hsp⟩:∃ sp,putS5 l ⟨id,p,m,who⟩=sp:=⟨_,rfl⟩
 rw [hsp]
 have g1:=(Gr.refl w).alloc (objE id p m who)
 have hb1:=heap_alloc_new w (objE id p m who)
 have HX:=hd3 h g1 hb1
 have HSP:=hide hsp
 clear h g1 hb1 hsp
 go_enter Tryz.func79,Tryz.ntmps79
 go_wp2_with fail
 refine (psplit_gen p hp _).mono ?_
 rintro en w2 ⟨q,D,er,rfl,g2,hs2⟩
 obtain ⟨h,g1,hb1⟩:=HX.out
 have g12:=g1.trans g2
 have h2:=h.same (g12.mod [])
 have hb2:=(g2.mod []).at_ hb1 (by simp)
 have HX2:=hd6 h g12 h2 hb2 g2 hs2
 clear HX h g1 hb1 g2 g12 hs2
 obtain ⟨r,hr,hr0,hsb⟩:=h2.blk
 have CS:=blk_cell hsb
 have CE:=blk_cell hb2
 have hw:=h2.wh
 have hget:=wh_get h2.ids id
 have hwl:=hw.lt
 clear h2 hb2 hsb
 have HK:∀ w':World,w'.heap[wb]?=w2.heap[wb]?→(Instr.lookup 116 (.map (some wb)) (.int .i64 id) true).run Tryz.prog w'=.ok (lookV true (.string ByteArray.empty) (getM (l.map whV) id)) w' :=
  fun w' e=>(hw.at_ e).look (t:=116) Tryz.underlying116 (zero_str w') true hi
 obtain ⟨pv,th,hV,hth⟩:∃ pv th,lookV true (.string ByteArray.empty) (getM (l.map whV) id)=.tuple #[.string pv,.bool th]∧th=hasId l id:=by
  rw [hget,← hasId_get]
  cases getS5 l id with
  | none=>exact ⟨_,_,rfl,rfl⟩
  | some y=>exact ⟨_,_,rfl,rfl⟩
 rw [hV] at HK
 have HK':=hide HK
 have hlk:=HK w2 rfl
 have c1:w2.cell? ⟨sb,1,none⟩=some (.map (some wb)):=CS 1
 have c2:w2.cell? ⟨w.heap.size,0,none⟩=some (.int .i64 id):=CE 0
 have HTH:=hide hth
 clear HK hV hget hth CS CE
 go_wp2_with fail
 go_region_held3 (fun w'=>w'.cell? ⟨sb,1,none⟩=some (.map (some wb))∧w'.cell? ⟨w.heap.size,0,none⟩=some (.int .i64 id)∧(Instr.lookup 116 (.map (some wb)) (.int .i64 id) true).run Tryz.prog w'=.ok (.tuple #[.string pv,.bool th]) w')
  (first | (go_split_ands;refine ⟨?_,?_,HK'.out _ rfl⟩ <;> (first | rfl | assumption | go_keep)) | fail)
  (fail)
 clear hlk c1 c2 HK'
 obtain ⟨h,g12,h2,hb2,g2,hs2⟩:=HX2.out
 have gD:=(Gr.refl w2).drew
 have h3:=h2.same (gD.mod [])
 have hb3:=(gD.mod []).at_ hb2 (by simp)
 have hs3:SplR (w.alloc (objE id p m who)) p q D er w2.drew:=⟨g2.drew,hs2⟩
 have g13:=g12.drew
 obtain ⟨w3,hw3⟩:∃ w3,w2.drew=w3:=⟨_,rfl⟩
 rw [hw3] at h3 hb3 hs3 g13 ⊢
 have hsplit:=hs3.2
 have CE:=blk_cell hb3
 have HX3:=hd4 h g13 h3 hb3
 clear HX2 h g12 h2 hb2 hs2 gD hb3 hs3 hw3 g13 g2
 rcases hsplit with ⟨rfl,hpk,rfl⟩ | ⟨rfl,hpk,hD,hDl,hDz,hDc⟩
 · have e0:putS5 l ⟨id,p,m,who⟩=(l,10):=by
    unfold putS5
    rw [if_pos (show pathOk (Ent.bs ⟨id,p,m,who⟩)=false from hpk)]
   obtain ⟨rfl,rfl⟩:=Prod.mk.inj (HSP.out.symm.trans e0)
   clear hpk e0 HSP h3 CE
   go_wp2_with fail
   go_ret
   exact SPutTo.same HX3.out.1 (HX3.out.2.1.mod []) 10
 · have e0:putS5 l ⟨id,p,m,who⟩=if modE m=false then (l,11) else if hasId l id=true then (l,50) else if l.length=64 then (l,51) else (insE ⟨id,p,m,who⟩ l,0):=by
    unfold putS5
    rw [if_neg (show ¬ pathOk (Ent.bs ⟨id,p,m,who⟩)=false by rw [show pathOk (Ent.bs ⟨id,p,m,who⟩)=true from hpk];simp)]
   have HE:=hide (HSP.out.symm.trans e0)
   clear e0 HSP
   have hmw:(m=1∨m=2)∨((m != 1)=true∧(m != 2)=true):=by
    by_cases h1:m=1
    · exact .inl (.inl h1)
    · by_cases h2:m=2
      · exact .inl (.inr h2)
      · exact .inr ⟨by simpa using h1,by simpa using h2⟩
   rcases hmw with hm | ⟨b1,b2⟩
   · have hme:modE m=true:=by
      unfold modE
      rcases hm with rfl | rfl <;> simp
     have e1:=HE.out
     rw [if_neg (by rw [hme];simp)] at e1
     have HE2:=hide e1
     have HM:=hide hm
     clear e1 hme HE hm
     go_upto_region 7 with fail
     go_cut [34] (fun s34 wx=>s34=.bool false∧wx=w3)
     case first =>
      rcases HM.out with rfl | rfl
      all_goals
       go_wp2_with fail
       go_meet
       case rel=>exact ⟨rfl,rfl⟩
     case rest =>
     obtain ⟨rfl,rfl⟩:=hcut
     cases th
     · have e1:=HE2.out
       rw [if_neg (by rw [← HTH.out];simp)] at e1
       obtain ⟨r3,hr3,hr30,hsb3⟩:=h3.blk
       have CS3:=blk_cell hsb3
       have hwh:=h3.wh
       by_cases h64:l.length=64
       · rw [if_pos h64] at e1
         have b64:((l.length:Int)==64)=true:=by rw [h64];rfl
         obtain ⟨rfl,rfl⟩:=Prod.mk.inj e1
         clear e1 HE2 hsb3 h3 h64 CE
         go_wp2_with (
          at_len
          refine wpList_len_L (T:=iK) _ rfl _ rfl Tryz.underlying116 rfl hwh ?_
          rw [List.length_map])
         go_ret
         exact SPutTo.same HX3.out.1 (HX3.out.2.1.mod []) 51
       · rw [if_neg h64] at e1
         have b64:((l.length:Int)==64)=false:=by simp;omega
         have HE3:=hide e1
         clear e1 HE2
         go_wp2_with (
          at_len
          refine wpList_len_L (T:=iK) _ rfl _ rfl Tryz.underlying116 rfl hwh ?_
          rw [List.length_map])
         have hT0:=h3.tree
         have hwb3:=hwh.lt
         clear hsb3 hwh
         go_loopg [9,11,58] D.length (fun g bv _ ii wr=>PLoop wc N l D g bv ii wr)
         case atStart=>exact ⟨0,N,r3,Nat.zero_add _,rfl,rfl,hr3,by rw [hr30];rfl,hT0,fun _ hx=>hx,fun _ hx=>.inl hx,Mod.refl _ _⟩
         case round =>
          obtain ⟨k,N',n,hk,rfl,rfl,hn,hnp,hT,hsub,hnew,hmr⟩:=hrel
          by_cases hlt:k<D.length
          · obtain ⟨gg,rfl⟩:∃ g,gk=g+1:=⟨gk - 1,by omega⟩
            obtain ⟨qb,rfl,hqw,hcell⟩:=hDc k hlt
            have hz:=hDz k hlt
            have htk:=take_snoc (fun d:ByteArray=>d.data.toList) D hlt ByteArray.empty
            have hqn:qb ∉ blksN N:=fun x=>by
             have y1:=HX3.out.1.lt qb (by simp [x])
             have y2:=((Gr.refl w).alloc (objE id p m who)).size
             omega
            have hcw:=hmr.kept hcell hqn
            generalize D.getD k ByteArray.empty=d at hz htk hcw
            rw [← hnp] at htk
            replace htk:(D.map fun d=>d.data.toList).take (k+1)=n.pre++[d.data.toList]:=htk
            have hnd:=hT.nd n hn
            have CB:=blk_cell hnd.blk
            have hcm:=hnd.cm
            have hnlt:=lt_of_block hnd.blk
            have i0:(0:Int)≤(k:Int):=by omega
            have i1:(k:Int)<(D.length:Int):=by omega
            by_cases hex:∃ z,z∈N'∧z.pre=n.pre++[d.data.toList]
            · obtain ⟨z,hz1,hz2⟩:=hex
              have hg:lookV false (.pointer none) (getM ((kidsOf N' n.pre).map kidV) d)=.pointer (some ⟨z.b,0,none⟩):=by
               have:=kid_some hcm hz1 hz2
               rw [segOf_bytes] at this
               rw [this]
               rfl
              have HL:=hide (show PLoop wc N l D gg (.pointer (some ⟨z.b,0,none⟩)) (.int .i64 (k+1:Nat)) wr from ⟨k+1,N',z,by omega,rfl,rfl,hz1,by rw [hz2,htk],hT,hsub,hnew,hmr⟩)
              clear hDc hDz htk hcell hnd hT hsub hnew hmr hz1 hz2 hT0 h3 HTH HE3 hnp
              go_wp2_with (
               at_lookup
               refine wpList_look_L (T:=sK) _ rfl _ _ false rfl Tryz.underlying157 (zero_br _) rfl hcm hz rfl ?_
               rw [hg])
              go_roundg gg
              case measure=>omega
              case rel=>exact HL.out
            · have hno:∀ z,z∈N'→z.pre≠n.pre++[d.data.toList]:=fun z h1 h2=>hex ⟨z,h1,h2⟩
              have hg:lookV false (.pointer none) (getM ((kidsOf N' n.pre).map kidV) d)=.pointer none:=by
               have:=kid_none hno
               rw [segOf_bytes] at this
               rw [this]
               rfl
              have hkl:(kidsOf N' n.pre).length≤l.length:=kids_le hT.tr.one fun y hy=>by
               obtain ⟨x,hx⟩:=kid_pre hy
               rcases hnew y (mem_kids.1 hy).1 with h1 | ⟨h1,-⟩
               · exact HX3.out.1.pr y h1 (by rw [hx];simp)
               · exfalso
                 refine hno y (mem_kids.1 hy).1 ?_
                 have e:=List.prefix_iff_eq_take.1 h1
                 have e2:y.pre.length=k+1:=by
                  rw [hx,hnp,List.length_append,List.length_take,List.length_map,List.length_singleton]
                  omega
                 rw [e2] at e
                 rw [← htk]
                 exact e
              have hkl2:((kidsOf N' n.pre).map kidV).length<maxLen:=by
               rw [List.length_map]
               have:=HX3.out.1.small
               unfold maxLen
               omega
              have HZ:=hd9 hT hn hno hsub hnew hmr htk hnp hnd
              clear hDc hDz htk hcell hnd hT hsub hnew hmr hT0 h3 HTH HE3 hnp hno hex hkl
              go_wp2_with (
               at_lookup
               refine wpList_look_L (T:=sK) _ rfl _ _ false rfl Tryz.underlying157 (zero_br _) rfl hcm hz rfl ?_
               rw [hg])
              have c1:wr.cell? ⟨n.b,1,none⟩=some (.map (some n.cm)):=CB 1
              have hst:∀ (w4:World) (nb nem ncm:Nat),GrownTo wr.drew w4 nb nem ncm→w4.cell? ⟨n.b,1,none⟩=some (.map (some n.cm))∧∃ w5,(Instr.mapUpdate 157 (.map (some n.cm)) (.string d) (.pointer (some ⟨nb,0,none⟩))).run Tryz.prog w4=.ok () w5∧w5.cell? ⟨n.b,1,none⟩=some (.map (some n.cm))∧∃ K5,MapL sK w5 n.cm K5∧lookV false (.pointer none) (getM K5 d)=.pointer (some ⟨nb,0,none⟩)∧Hid (PLoop wc N l D gg (.pointer (some ⟨nb,0,none⟩)) (.int .i64 (k+1:Nat)) w5):=by
               rintro w4 nb nem ncm ⟨g4,hb1,hb2,hb3,hgr⟩
               have gw4:=(Gr.refl wr).drew.trans g4
               refine ⟨gw4.kept c1,?_⟩
               have hcm4:=hcm.mod (gw4.mod []) (by simp)
               obtain ⟨w5,hrun,q1,q2⟩:=hcm4.store Tryz.underlying157 hkl2 (x:=d) hz (.pointer (some ⟨nb,0,none⟩))
               refine ⟨w5,hrun,?_⟩
               obtain ⟨hT,hn,hno,hsub,hnew,hmr,htk,hnp,hnd⟩:=HZ.out
               have hTd:=hT.mod ((Gr.refl wr).drew.mod []) (by simp)
               rw [← segOf_bytes d] at q1
               obtain ⟨hT5,m5⟩:=hgr N' l n d.data.toList w5 hTd hn hno q1 q2
               have m5':Mod [n.cm] wr w5:=((Gr.refl wr).drew.mod [n.cm]).then m5
               have hnd5:=hT5.nd n (by simp [hn])
               refine ⟨blk_cell hnd5.blk 1,_,hnd5.cm,?_,hide ⟨k+1,_,_,by omega,rfl,rfl,List.mem_cons_self ..,htk.symm,hT5,fun x hx=>List.mem_cons_of_mem _ (hsub x hx),fun x hx=>?_,?_⟩⟩
               · have:=kid_some hnd5.cm (List.mem_cons_self ..) rfl
                 rw [segOf_bytes] at this
                 rw [this]
                 rfl
               · have hs1:wc.heap.size≤wr.drew.heap.size:=hmr.size
                 rcases List.mem_cons.1 hx with e | hx
                 · rw [e]
                   exact .inr ⟨by show n.pre++[d.data.toList] <+: _;rw [← htk];exact List.take_prefix _ _,by show wc.heap.size≤nb;omega,by show wc.heap.size≤nem;omega,by show wc.heap.size≤ncm;omega⟩
                 · exact hnew x hx
               · refine hmr.trans m5' (fun _ x _=>x) fun x hx hlt2=>?_
                 rw [List.mem_singleton.1 hx] at hlt2 ⊢
                 rcases hnew n hn with h1 | ⟨-,-,-,h1⟩
                 · exact (mem_blks h1).2.2
                 · omega
              clear hcm HZ hg
              go_region_held3 (fun w'=>w'.cell? ⟨n.b,1,none⟩=some (.map (some n.cm)))
               (first | assumption | go_keep)
               (first
                 | (go_at_call 78;refine (grown_gen wr.drew).mono ?_;rintro en w4 ⟨nb,nem,ncm,rfl,hg4⟩;obtain ⟨c4,w5,hrun5,C5,K5,hcm5,hg5,HL5⟩:=hst w4 nb nem ncm hg4)
                 | fail)
              all_goals
               clear hst
               go_wp2_with (
                at_lookup
                refine wpList_look_L (T:=sK) _ rfl _ _ false rfl Tryz.underlying157 (zero_br _) rfl hcm5 hz rfl ?_
                rw [hg5])
               go_roundg gg
               case measure=>omega
               case rel=>exact HL5.out
          · have hkk:k=D.length:=by omega
            obtain ⟨h0,g13,h33,hb3⟩:=HX3.out
            have hnp2:n.pre=segsOf p.data.toList:=by
             rw [hnp,hkk,← hD]
             exact List.take_of_length_le (by simp)
            have hpn:w.heap.size ∉ blksN N:=fun x=>by
             have:=h0.lt w.heap.size (by simp [x])
             omega
            have hb4:=hmr.at_ hb3 hpn
            have CE4:=blk_cell hb4
            have hnd:=hT.nd n hn
            have CB:=blk_cell hnd.blk
            have hem:=hnd.em.mod ((Gr.refl wr).drew.mod []) (by simp)
            have hidne:∀ y,y∈l→y.id≠id:=fun y hy e=>by
             have h1:=HTH.out
             have:hasId l id=true:=List.any_eq_true.2 ⟨y,hy,by simpa using e⟩
             rw [this] at h1
             cases h1
            have hel:((entsOf l n.pre).map entV).length<maxLen:=by
             rw [List.length_map]
             have h1:(entsOf l n.pre).length≤l.length:=List.length_filter_le _ _
             have h2:=h0.small
             unfold maxLen
             omega
            have hwl2:(l.map whV).length<maxLen:=by
             rw [List.length_map]
             have h2:=h0.small
             unfold maxLen
             omega
            obtain ⟨r3,hr3,hr30,hsb3⟩:=h33.blk
            obtain ⟨a1,a2,a3⟩:=h33.apart2
            have CS4:=hmr.at_ hsb3 a2
            have hwh4:=h33.wh.mod hmr a3
            have hown:=new_own hnew
            have hnem:n.em≠sb∧n.em≠wb∧n.em≠w.heap.size:=by
             have hlt2:=h33.lt
             have h1:=hlt2 sb (by simp)
             have h2:=hlt2 wb (by simp)
             have h3:=lt_of_block hb3
             rcases hown _ (mem_blks hn).2.1 with y | y
             · exact ⟨fun e=>a2 (e ▸ y),fun e=>a3 (e ▸ y),fun e=>hpn (e ▸ y)⟩
             · exact ⟨by omega,by omega,by omega⟩
            have hTd:=hT.mod ((Gr.refl wr).drew.mod []) (by simp)
            have hput:∀ w5,MapL iK w5 n.em (setM ((entsOf l n.pre).map entV) id (aggE ⟨id,p,m,who⟩))→wr.drew.grownBy w5 (some n.em)→TreeM w5 N' (⟨id,p,m,who⟩::l)∧Mod [n.em] wr w5:=fun w5 x1 x2=>by
             obtain ⟨y1,y2⟩:=hTd.put hn (e:=⟨id,p,m,who⟩) hnp2 hidne x1 x2
             exact ⟨y1,((Gr.refl wr).drew.mod [n.em]).then y2⟩
            have hfin:∀ w5 w7,TreeM w5 N' (⟨id,p,m,who⟩::l)→Mod [n.em] wr w5→MapL iK w7 wb (setM (l.map whV) id (.string p))→w5.drew.grownBy w7 (some wb)→SPutTo w sb wb N (insE ⟨id,p,m,who⟩ l,0) (.returned (.int .i64 0)) w7:=fun w5 w7 x1 x2 x3 x4 =>
             put_end g13 h33 hn x1 x2 ((Gr.refl w5).drew) hmr (fun x hx=>by
              rcases hnew x hx with y | ⟨y1,y2⟩
              · exact .inl y
              · exact .inr ⟨by rw [hD] at y1;exact y1,y2⟩) hsub ⟨hpk,HM.out⟩ hidne h64 (wh_put (e:=⟨id,p,m,who⟩) hidne x3) x4
            have HF:=hd8 hput hfin HE3.out hnem CS4 CE4 hwh4 hb4
            have c1:wr.cell? ⟨n.b,0,none⟩=some (.map (some n.em)):=CB 0
            clear hput hfin hnem hwh4 hown hTd hT hsub hnew hmr hnd h33 hb3 hb4 CB CS4 g13 h0 HE3 hidne hDc hDz hD hpk hnp hnp2 hr3 hr30 hsb3 a1 a2 a3 hpn HX3 HTH hT0 h3 CS3 h64
            go_wp2_with fail
            go_still_tail 7,(by kernel_rfl)
            change wpList _ _ _ _ _ wr.drew
            go_wp2_with (
             at_mapUpdate
             refine wpList_store_L (T:=iK) _ rfl _ _ _ rfl Tryz.underlying156 rfl hem hel (key:=id) hi rfl _ rfl ?_
             intro w5 q1 q2)
            obtain ⟨hput,hfin,e1,⟨n1,n2,n3⟩,CS4,CE4,hwh4,hb4⟩:=HF.out
            obtain ⟨hT5,m5⟩:=hput w5 q1 q2
            have CS5:=blk_cell (m5.at_ CS4 (by simp;exact n1.symm))
            have CE5:=blk_cell (m5.at_ hb4 (by simp;exact n3.symm))
            have hwh5:=(hwh4.mod m5 (by simp;exact n2.symm)).mod ((Gr.refl w5).drew.mod []) (by simp)
            have hfin5:=fun w7 x3 x4=>hfin w5 w7 hT5 m5 x3 x4
            have HF5:=hd2 hfin5 e1
            have c2:w5.cell? ⟨sb,1,none⟩=some (.map (some wb)):=CS5 1
            clear hfin5 e1 hput hfin n1 n2 n3 CS4 CE4 hwh4 hb4 HF hT5 m5 hem hel q1 q2 CS5 c1
            go_wp2_with fail
            go_still_tail 8,(by kernel_rfl)
            change wpList _ _ _ _ _ w5.drew
            go_wp2_with (
             at_mapUpdate
             refine wpList_store_L (T:=iK) _ rfl _ _ _ rfl Tryz.underlying116 rfl hwh5 hwl2 (key:=id) hi rfl _ rfl ?_
             intro w7 q1 q2
             clear hwh5 CE5 c2)
            go_ret
            obtain ⟨hfin5,e1⟩:=HF5.out
            rw [e1]
            exact hfin5 w7 q1 q2
     · have e1:=HE2.out
       rw [if_pos HTH.out.symm] at e1
       obtain ⟨rfl,rfl⟩:=Prod.mk.inj e1
       clear e1 HE2 h3 CE
       go_wp2_with fail
       go_ret
       exact SPutTo.same HX3.out.1 (HX3.out.2.1.mod []) 50
   · have hme:modE m=false:=by
      unfold modE
      simp only [bne_iff_ne,ne_eq] at b1 b2
      simp [b1,b2]
     have e1:=HE.out
     rw [if_pos hme] at e1
     obtain ⟨rfl,rfl⟩:=Prod.mk.inj e1
     clear hme e1 HE h3 hpk hD hDl hDz hDc
     go_wp2_with fail
     go_ret
     exact SPutTo.same HX3.out.1 (HX3.out.2.1.mod []) 11
end Go.Proofs.YtllljngpgjkdiaaGreatDoor
/-
  WALK: layer 5: prune.
-/
namespace Go.Proofs.YtllljngpgjkdiaaGreatDoor
set_option maxRecDepth 100000
set_option maxHeartbeats 2000000
open Go.RowKit Go.Maps

theorem id_one {l:List Ent} (h:l.Pairwise fun a b=>a.id≠b.id) {x y:Ent} (hx:x∈l) (hy:y∈l) (e:x.id=y.id):x=y:=by
 induction l with
 | nil=>cases hx
 | cons z r ih =>
   have h':=List.pairwise_cons.1 h
   rcases List.mem_cons.1 hx with e1 | e1 <;> rcases List.mem_cons.1 hy with e2 | e2
   · rw [e1,e2]
   · exact absurd (by rw [← e1,e]) (h'.1 y e2)
   · exact absurd (by rw [← e2,e]) (h'.1 x e1)
   · exact ih h'.2 e1 e2
theorem ents_drop (l:List Ent) (p:List Seg) (i:Int):(entsOf (dropS5 l i) p).map entV=delM ((entsOf l p).map entV) i:=by
 unfold delM entsOf dropS5
 rw [List.filter_map,List.filter_filter,List.filter_filter]
 congr 1
 refine List.filter_congr fun x _=>?_
 exact Bool.and_comm _ _
theorem ents_drop_other {l:List Ent} (h:l.Pairwise fun a b=>a.id≠b.id) {e:Ent} (he:e∈l) {p:List Seg} (hp:p≠e.sg):entsOf (dropS5 l e.id) p=entsOf l p:=by
 unfold entsOf dropS5
 rw [List.filter_filter]
 refine List.filter_congr fun x hx=>?_
 by_cases hs:x.sg=p
 · have:x.id≠e.id:=fun q=>hp (by rw [← id_one h hx he q,hs])
   simp [hs,this]
 · simp [hs]
theorem mem_dropS5 {l:List Ent} {i:Int} {x:Ent}:x∈dropS5 l i↔x∈l∧x.id≠i:=by simp [dropS5]
theorem TreeM.drop {w w2:World} {N:List Nd} {l:List Ent} (h:TreeM w N l) (hids:l.Pairwise fun a b=>a.id≠b.id) {q:Nd} (hq:q∈N) {e:Ent} (he:e∈l) (hp:q.pre=e.sg)
 (h2:MapL iK w2 q.em (delM ((entsOf l q.pre).map entV) e.id)) (hg:w.grownBy w2 (some q.em)):TreeM w2 N (dropS5 l e.id)∧Mod [q.em] w w2:=by
 have m:Mod [q.em] w w2:=(Mod.refl [q.em] w).grown hg (fun k x _=>by simp at x;simp [x])
 refine ⟨⟨fun n hn=>?_,h.apart,h.tr.sub fun x hx=>(mem_dropS5.1 hx).1⟩,m⟩
 have hn0:=h.nd n hn
 by_cases hpq:n.pre=q.pre
 · have e0:n=q:=pre_one h.tr.one hn hq hpq
   obtain ⟨o1,o2,o3⟩:=own3 (blks_own h.apart n hn)
   subst e0
   refine ⟨m.at_ hn0.blk (by simpa using o1),?_,hn0.cm.mod m (by simpa using Ne.symm o3)⟩
   rw [ents_drop]
   exact h2
 · have ha:=blks_apart h.apart n hn q hq hpq
   refine ⟨m.at_ hn0.blk (by simpa using ha n.b (by simp) q.em (by simp)),?_,hn0.cm.mod m (by simpa using ha n.cm (by simp) q.em (by simp))⟩
   rw [ents_drop_other hids he (by rw [← hp];exact hpq)]
   exact hn0.em.mod m (by simpa using ha n.em (by simp) q.em (by simp))
theorem flat_sub {α β:Type} (f:α→List β) (g:α→Bool):∀ (L:List α),((L.filter g).flatMap f).Sublist (L.flatMap f)
 | []=>List.Sublist.refl _
 | x::r=>by
   rw [List.filter_cons,List.flatMap_cons]
   split
   · rw [List.flatMap_cons]
     exact List.Sublist.append (List.Sublist.refl _) (flat_sub f g r)
   · exact (flat_sub f g r).trans (List.sublist_append_right _ _)
theorem kids_cut_map (N:List Nd) (p:List Seg) (x:Seg):(kidsOf (cutN N (p++[x])) p).map kidV=delM ((kidsOf N p).map kidV) (segOf x):=by
 rw [kids_cut]
 unfold delM
 rw [List.filter_map]
 congr 1
 refine List.filter_congr fun m hm=>?_
 obtain ⟨y,hy⟩:=kid_pre hm
 show decide (m.pre≠p++[x])=decide (segOf (m.pre.getLastD [])≠segOf x)
 rw [(snoc_last hy).2.2,Bool.eq_iff_iff,decide_eq_true_eq,decide_eq_true_eq]
 constructor
 · intro h e;exact h (by rw [hy,segOf_inj e])
 · intro h e
   refine h ?_
   rw [hy] at e
   have:=List.append_cancel_left e
   rw [(List.cons.inj this).1]
theorem kids_cut_other (N:List Nd) {p q:List Seg} {x:Seg} (h:q≠p):kidsOf (cutN N (p++[x])) q=kidsOf N q:=by
 rw [kids_cut]
 refine List.filter_eq_self.2 fun m hm=>decide_eq_true fun e=>h ?_
 have:=(mem_kids.1 hm).2.2
 rw [← this,e,List.dropLast_concat]
theorem TreeM.cut {w w2:World} {N:List Nd} {l:List Ent} (h:TreeM w N l) {q:Nd} (hq:q∈N) {x:Seg} (h1:entsOf l (q.pre++[x])=[]) (h3:kidsOf N (q.pre++[x])=[])
 (h2:MapL sK w2 q.cm (delM ((kidsOf N q.pre).map kidV) (segOf x))) (hg:w.grownBy w2 (some q.cm)):TreeM w2 (cutN N (q.pre++[x])) l∧Mod [q.cm] w w2:=by
 have m:Mod [q.cm] w w2:=(Mod.refl [q.cm] w).grown hg (fun k x _=>by simp at x;simp [x])
 refine ⟨⟨fun n hn'=>?_,h.apart.sublist (flat_sub _ _ _),h.tr.cut (by simp) h1 h3⟩,m⟩
 have hn:=(mem_cutN.1 hn').1
 have hn0:=h.nd n hn
 by_cases hpq:n.pre=q.pre
 · have e0:n=q:=pre_one h.tr.one hn hq hpq
   obtain ⟨o1,o2,o3⟩:=own3 (blks_own h.apart n hn)
   subst e0
   refine ⟨m.at_ hn0.blk (by simpa using o2),hn0.em.mod m (by simpa using o3),?_⟩
   rw [kids_cut_map]
   exact h2
 · have ha:=blks_apart h.apart n hn q hq hpq
   refine ⟨m.at_ hn0.blk (by simpa using ha n.b (by simp) q.cm (by simp)),hn0.em.mod m (by simpa using ha n.em (by simp) q.cm (by simp)),?_⟩
   rw [kids_cut_other N hpq]
   exact hn0.cm.mod m (by simpa using ha n.cm (by simp) q.cm (by simp))
def SegV (w:World) (N:List Nd) (q:Option Addr) (D:List ByteArray):Prop:=∀ i,i<D.length→∃ b off,q=some ⟨b,off,none⟩∧b ∉ blksN N∧(D.getD i ByteArray.empty).size≤maxLen∧w.cell? ⟨b,off+i,none⟩=some (.string (D.getD i ByteArray.empty))
def PrunedTo (w:World) (N:List Nd) (l:List Ent) (p:List Seg) (e:Ending) (w':World):Prop:=e=.returned (.tuple #[])∧∃ N',TreeM w' N' l∧Prn N l p N'∧Mod (blksN N) w w'
theorem prune0 {w:World} {N:List Nd} {l:List Ent} (h:TreeM w N l) (hP:Pruned N l) (hids:l.Pairwise fun a b=>a.id≠b.id) {n:Nd} (hn:n∈N) {e:Ent} (he:e∈l) (hp:n.pre=e.sg) (q:Option Addr) (c:Nat) (hi:(Lit.int .i64 e.id).wf=true) :
 Calls Tryz.prog 123 #[.pointer (some ⟨n.b,0,none⟩),.slice q 0 c,.int .i64 e.id] w fun en w'=>PrunedTo w N (dropS5 l e.id) n.pre en w':=by
 have hnd:=h.nd n hn
 have CB:=blk_cell hnd.blk
 have hem:=hnd.em
 have HX:=hd6 h hP hids hn he hp
 clear h hP hids hn he hp hnd
 go_enter Tryz.func123,Tryz.ntmps123
 go_wp2_with (
  at_delete
  refine wpList_delete_L (T:=iK) _ rfl _ _ rfl Tryz.underlying156 rfl hem (key:=e.id) hi rfl ?_
  intro w4 q1 q2
  clear hem CB)
 refine bodyPost_ret (results_none rfl _ _ _) rfl ?_
 obtain ⟨h,hP,hids,hn,he,hp⟩:=HX.out
 obtain ⟨hT,m⟩:=h.drop hids hn he hp q1 q2
 refine ⟨rfl,N,hT,Prn.base h.tr hP (fun x hx=>(mem_dropS5.1 hx).1) (fun x hx=>?_),m.mono fun x hx _=>by rw [List.mem_singleton.1 hx];exact (mem_blks hn).2.1⟩
 by_cases hxe:x.id=e.id
 · exact .inr (by rw [id_one hids hx he hxe,hp])
 · exact .inl (mem_dropS5.2 ⟨hx,hxe⟩)
theorem prune_cut {w w3 w5:World} {N N1:List Nd} {l:List Ent} {e:Ent} {n z:Nd} {x:ByteArray} {R:List ByteArray} (hPr:Prn N (dropS5 l e.id) z.pre N1) (hP:Pruned N l) (hp:e.sg=n.pre++(x::R).map fun x=>x.data.toList) (hn1:n∈N1) (hm1:Mod (blksN N) w.drew w3) (hzp:z.pre=n.pre++[x.data.toList])
 {hids:l.Pairwise fun a b=>a.id≠b.id} {he:e∈l} (hT1:TreeM w3 N1 (dropS5 l e.id)) (q1:MapL sK w5 n.cm (delM ((kidsOf N1 n.pre).map kidV) (segOf x.data.toList))) (q2:w3.drew.grownBy w5 (some n.cm)) (h1:entsOf (dropS5 l e.id) z.pre=[]) (h2:kidsOf N1 z.pre=[]) :
 PrunedTo w N (dropS5 l e.id) n.pre (.returned (.tuple #[])) w5:=by
 rw [hzp] at hPr h1 h2
 have hTd:=hT1.mod ((Gr.refl w3).drew.mod []) (by simp)
 obtain ⟨hT,m⟩:=hTd.cut hn1 h1 h2 q1 q2
 have hst:=(Prn.step (s:=e.sg) hP (fun y hy=>?_) (by rw [hp];exact ⟨R.map fun x=>x.data.toList,by simp⟩) hPr).1 ⟨h1,h2⟩
 · refine ⟨rfl,_,hT,hst,((((Gr.refl w).drew.mod (blksN N)).then hm1).drew).trans m (fun _ y _=>y) fun y hy _=>?_⟩
   rw [List.mem_singleton.1 hy]
   exact (mem_blks (hPr.sub n hn1)).2.2
 · by_cases hye:y.id=e.id
   · exact .inr (by rw [id_one hids hy he hye])
   · exact .inl (mem_dropS5.2 ⟨hy,hye⟩)
theorem prune_let {w w3:World} {N N1:List Nd} {l:List Ent} {e:Ent} {n z:Nd} {x:ByteArray} {R:List ByteArray} (hPr:Prn N (dropS5 l e.id) z.pre N1) (hP:Pruned N l) (hp:e.sg=n.pre++(x::R).map fun x=>x.data.toList) (_:n∈N1) (hm1:Mod (blksN N) w.drew w3) (hzp:z.pre=n.pre++[x.data.toList])
 {hids:l.Pairwise fun a b=>a.id≠b.id} {he:e∈l} (hT1:TreeM w3 N1 (dropS5 l e.id)) (h1:¬ (entsOf (dropS5 l e.id) z.pre=[]∧kidsOf N1 z.pre=[])) :
 PrunedTo w N (dropS5 l e.id) n.pre (.returned (.tuple #[])) w3:=by
 rw [hzp] at hPr h1
 have hst:=(Prn.step (s:=e.sg) hP (fun y hy=>?_) (by rw [hp];exact ⟨R.map fun x=>x.data.toList,by simp⟩) hPr).2 h1
 · exact ⟨rfl,_,hT1,hst,((Gr.refl w).drew.mod (blksN N)).then hm1⟩
 · by_cases hye:y.id=e.id
   · exact .inr (by rw [id_one hids hy he hye])
   · exact .inl (mem_dropS5.2 ⟨hy,hye⟩)
theorem prune_any (d:Nat):∀ {w:World} {N:List Nd} {l:List Ent} (_:TreeM w N l) (_:Pruned N l) (_:l.Pairwise fun a b=>a.id≠b.id) {n:Nd} (_:n∈N) {e:Ent} (_:e∈l) {D:List ByteArray} (_:D.length=d) (_:e.sg=n.pre++D.map fun x=>x.data.toList) (q:Option Addr) (_:SegV w N q D) (c:Nat) (_:D.length≤c) (_:c≤4) (_:(Lit.int .i64 e.id).wf=true),
 Calls Tryz.prog 123 #[.pointer (some ⟨n.b,0,none⟩),.slice q D.length c,.int .i64 e.id] w fun en w'=>PrunedTo w N (dropS5 l e.id) n.pre en w':=by
 induction d with
 | zero =>
   intro w N l h hP hids n hn e he D hD hp q hq c hc hc4 hi
   rw [hD]
   have:D=[]:=List.length_eq_zero_iff.1 hD
   subst this
   exact prune0 h hP hids hn he (by simpa using hp.symm) q c hi
 | succ d ih =>
   intro w N l h hP hids n hn e he D hD hp q hq c hc hc4 hi
   obtain ⟨x,R,rfl⟩:∃ x R,D=x::R:=by
    cases D with
    | nil=>simp at hD
    | cons x R=>exact ⟨x,R,rfl⟩
   obtain ⟨b,off,rfl,hbN,hxs,hcx⟩:=hq 0 (by simp)
   simp only [List.getD_cons_zero] at hxs hcx
   simp only [Nat.add_zero] at hcx
   have hnd:=h.nd n hn
   have CB:=blk_cell hnd.blk
   have hcm:=hnd.cm
   have hpx:n.pre++[x.data.toList] <+: e.sg:=⟨R.map fun x=>x.data.toList,by rw [hp];simp⟩
   obtain ⟨z,hz,hzp⟩:=h.tr.at_ he hpx
   have hg:lookV false (.pointer none) (getM ((kidsOf N n.pre).map kidV) x)=.pointer (some ⟨z.b,0,none⟩):=by
    have:=kid_some hcm hz hzp
    rw [segOf_bytes] at this
    rw [this]
    rfl
   have HK:∀ w':World,w'.heap[n.cm]?=w.heap[n.cm]?→(Instr.lookup 157 (.map (some n.cm)) (.string x) false).run Tryz.prog w'=.ok (.pointer (some ⟨z.b,0,none⟩)) w':=fun w' ew=>by
    rw [← hg]
    exact (hcm.at_ ew).look (t:=157) Tryz.underlying157 (zero_br w') false hxs
   have hlk:=HK w rfl
   have HK':=hide HK
   have c1:w.cell? ⟨n.b,1,none⟩=some (.map (some n.cm)):=CB 1
   have hR:R.length+1=(x::R).length:=rfl
   have HX:=hd10 h hP hids hn he hp hq hz hzp hD
   have hle:R.length+1≤c:=by simpa using hc
   have hc0:(0:Nat)<R.length+1:=by omega
   have HCX:=hide hcx
   clear hR h hP hids hn he hp hq hz hzp hD hnd CB hcm hpx hg HK
   simp only [List.length_cons]
   go_enter Tryz.func123,Tryz.ntmps123
   go_wp2_with fail
   go_region_held3 (fun w'=>w'.cell? ⟨n.b,1,none⟩=some (.map (some n.cm))∧w'.cell? ⟨b,off,none⟩=some (.string x)∧(Instr.lookup 157 (.map (some n.cm)) (.string x) false).run Tryz.prog w'=.ok (.pointer (some ⟨z.b,0,none⟩)) w')
    (first | (go_split_ands;refine ⟨?_,?_,HK'.out _ rfl⟩ <;> (first | rfl | assumption | go_keep)) | fail)
    (fail)
   clear hlk HK' c1 hcx
   have hcall:∀ q' c',(q'=some ⟨b,off,none⟩∧c'=0∧c=1)∨(q'=some ⟨b,off+1,none⟩∧c'=c - 1)→Calls Tryz.prog 123 #[.pointer (some ⟨z.b,0,none⟩),.slice q' R.length c',.int .i64 e.id] w.drew fun en w'=>PrunedTo w.drew N (dropS5 l e.id) z.pre en w':=by
    intro q' c' hqc
    obtain ⟨h,hP,hids,hn,he,hp,hq,hz,hzp,hD⟩:=HX.out
    refine ih (h.mod ((Gr.refl w).drew.mod []) (by simp)) hP hids hz he (by simpa using hD) (by rw [hp,hzp];simp) q' ?_ c' ?_ ?_ hi
    · intro i hi2
      rcases hqc with ⟨-,-,h1⟩ | ⟨rfl,-⟩
      · omega
      · obtain ⟨b2,off2,e2,h1,h2,h3⟩:=hq (i+1) (by simpa using hi2)
        obtain ⟨rfl,rfl⟩:b=b2∧off=off2:=by simpa using e2
        refine ⟨b,off+1,rfl,h1,by simpa using h2,?_⟩
        rw [show off+1+i=off+(i+1) by omega]
        simpa using h3
    · rcases hqc with ⟨-,rfl,h1⟩ | ⟨-,rfl⟩ <;> omega
    · rcases hqc with ⟨-,rfl,h1⟩ | ⟨-,rfl⟩ <;> omega
   have HC:=hide hcall
   clear hcall ih
   go_upto_region 4 with (
    go_at_call 123
    refine (HC.out _ _ (by first | exact .inl ⟨rfl,rfl,by omega⟩ | exact .inr ⟨rfl,rfl⟩)).mono ?_
    rintro en w3 ⟨rfl,N1,hT1,hPr,hm1⟩
    obtain ⟨h,hP,hids,hn,he,hp,hq,hz,hzp,hD⟩:=HX.out
    have hn1:n∈N1:=hPr.keep n hn (fun x=>by have:=x.1.length_le;rw [hzp] at this;simp at this;omega)
    have hz1:z∈N1:=hPr.keep z hz (fun x=>x.2 rfl)
    have hnd1:=hT1.nd n hn1
    have hzd1:=hT1.nd z hz1
    have CN:=blk_cell hnd1.blk
    have CZ:=blk_cell hzd1.blk
    have hze:=hzd1.em
    have hzc:=hzd1.cm
    have hnc:=hnd1.cm
    have hcx3:w3.cell? ⟨b,off,none⟩=some (.string x):=hm1.kept (a:=w.drew) HCX.out hbN
    obtain ⟨k1,hk1⟩:∃ k1,((entsOf (dropS5 l e.id) z.pre).map entV).length=k1:=⟨_,rfl⟩
    obtain ⟨k2,hk2⟩:∃ k2,((kidsOf N1 z.pre).map kidV).length=k2:=⟨_,rfl⟩
    have hl1:(Builtin.len_ #[156] 3 #[.map (some z.em)]).run Tryz.prog w3=.ok (.int .i64 k1) w3:=by
     have:=hze.tight.len Tryz.underlying156 3
     rwa [hze.size,hk1] at this
    have hl2:(Builtin.len_ #[157] 3 #[.map (some z.cm)]).run Tryz.prog w3=.ok (.int .i64 k2) w3:=by
     have:=hzc.tight.len Tryz.underlying157 3
     rwa [hzc.size,hk2] at this
    have hst:=fun (w5:World) (q1:MapL sK w5 n.cm (delM ((kidsOf N1 n.pre).map kidV) (segOf x.data.toList))) (q2:w3.drew.grownBy w5 (some n.cm)) (z1:k1=0) (z2:k2=0) =>
     prune_cut hPr hP hp hn1 hm1 hzp (hids:=hids) (he:=he) hT1 q1 q2 (by rw [z1,List.length_map] at hk1;exact List.length_eq_zero_iff.1 hk1) (by rw [z2,List.length_map] at hk2;exact List.length_eq_zero_iff.1 hk2)
    have hst2:=fun (z1:¬ (k1=0∧k2=0)) =>
     prune_let hPr hP hp hn1 hm1 hzp (hids:=hids) (he:=he) hT1 (fun y=>z1 ⟨by rw [← hk1,y.1];rfl,by rw [← hk2,y.2];rfl⟩)
    have HST:=hd2 hst hst2
    have HP:=hd5 hT1 hPr hm1 hn1 hz1
    clear hT1 hPr hm1 hn1 hz1 hnd1 hzd1 h hP hids hn he hp hq hz hzp hD HC hk1 hk2 hze hzc hst hst2)
   all_goals
    by_cases hk0:k1=0∧k2=0
    · obtain ⟨rfl,rfl⟩:=hk0
      go_wp2_with fail
      have hncd:=hnc.mod ((Gr.refl w3).drew.mod []) (by simp)
      have c3:w3.cell? ⟨n.b,1,none⟩=some (.map (some n.cm)):=CN 1
      clear hnc CN CZ hl1 hl2
      go_still_tail 7,(by kernel_rfl)
      change wpList _ _ _ _ _ w3.drew
      go_wp2_with (
       at_delete
       refine wpList_delete_L (T:=sK) _ rfl _ _ rfl Tryz.underlying157 rfl hncd (key:=x) hxs rfl ?_
       intro w5 q1 q2
       rw [← segOf_bytes x] at q1
       have q:=HST.out.1 w5 q1 q2 trivial trivial
       clear hncd c3 q1 q2)
      go_end0
      exact q
    · by_cases hk1:k1=0
      · subst hk1
        have b2:((k2:Int)==0)=false:=by simp;omega
        have HK0:=hide hk0
        clear hk0
        go_wp2_with fail
        go_end0
        exact HST.out.2 HK0.out
      · have b2:((k1:Int)==0)=false:=by simp;omega
        have HK0:=hide hk0
        clear hk0 hk1
        go_wp2_with fail
        go_end0
        exact HST.out.2 HK0.out
end Go.Proofs.YtllljngpgjkdiaaGreatDoor
/-
  WALK: layer 5: Drop.
-/
namespace Go.Proofs.YtllljngpgjkdiaaGreatDoor
set_option maxRecDepth 100000
set_option maxHeartbeats 1000000
open Go.RowKit Go.Maps

theorem wh_drop (l:List Ent) (i:Int):delM (l.map whV) i=(dropS5 l i).map whV:=by
 unfold delM dropS5
 rw [List.filter_map]
 rfl
theorem get_mem {l:List Ent} {i:Int} {e:Ent} (h:getS5 l i=some e):e∈l∧e.id=i:=by
 unfold getS5 at h
 exact ⟨List.mem_of_find?_eq_some h,by simpa using List.find?_some h⟩
theorem blks_sub {N N':List Nd} (h:∀ n,n∈N'→n∈N) {k:Nat} (hk:k∈blksN N'):k∈blksN N:=by
 obtain ⟨x,hx,hc⟩:=List.mem_flatMap.1 hk
 exact mem_blks3 (h x hx) hc
def DropTo (w:World) (sb wb:Nat) (N:List Nd) (l:List Ent) (i:Int) (e:Ending) (w':World):Prop:=e=.returned (.bool (hasId l i))∧∃ N',SetM w' sb wb N' (dropS5 l i)∧SetTo w sb wb N w' N'
theorem drop_none {l:List Ent} {i:Int} (h:getS5 l i=none):hasId l i=false∧dropS5 l i=l:=by
 have h0:=hasId_get l i
 rw [h] at h0
 refine ⟨h0.symm,List.filter_eq_self.2 fun x hx=>decide_eq_true fun e=>?_⟩
 have:hasId l i=true:=List.any_eq_true.2 ⟨x,hx,by simpa using e⟩
 rw [this] at h0
 cases h0
theorem drop_end {w w2 w3 w4:World} {sb wb:Nat} {N N1:List Nd} {l:List Ent} {e:Ent} (g:Gr w w2) (h:SetM w2 sb wb N l) (hT:TreeM w3 N1 (dropS5 l e.id)) (hPr:Prn N (dropS5 l e.id) [] N1) (hm:Mod (blksN N) w2 w3) (he:e∈l)
 (q1:MapL iK w4 wb (delM (l.map whV) e.id)) (q2:w3.grownBy w4 (some wb)):DropTo w sb wb N l e.id (.returned (.bool true)) w4:=by
 obtain ⟨a1,a2,a3⟩:=h.apart2
 have hb:hasId l e.id=true:=List.any_eq_true.2 ⟨e,he,by simp⟩
 have hsub:∀ k,k∈blksN N1→k∈blksN N:=fun k hk=>blks_sub hPr.sub hk
 have m4:Mod [wb] w3 w4:=(Mod.refl [wb] w3).grown q2 (fun k e _=>by simp at e;simp [e])
 have hT4:=hT.mod m4 (fun k hk=>by simp;exact fun x=>a3 (x ▸ hsub k hk))
 have mAll:Mod (wb::blksN N) w2 w4:=hm.trans m4 (fun x hx _=>List.mem_cons_of_mem _ hx) (fun x hx _=>by simp at hx;simp [hx])
 rw [wh_drop] at q1
 refine ⟨by rw [hb],N1,⟨?_,hT4.nd,q1,?_,hT4.tr,fun n hn h0=>hPr.has n hn (List.nil_prefix) h0,h.ids.filter _,fun x hx=>h.ok x (mem_dropS5.1 hx).1,Nat.le_trans (List.length_filter_le _ _) h.small⟩,⟨(g.mod (wb::blksN N)).then mAll,fun k hk=>.inl (hsub k hk)⟩⟩
 · obtain ⟨r,hr,hr0,hb⟩:=h.blk
   exact ⟨r,hPr.keep r hr (fun x=>x.2 hr0),hr0,mAll.at_ hb (by simp;exact ⟨a1,a2⟩)⟩
 · exact List.nodup_cons.2 ⟨by simp;exact ⟨a1,fun x=>a2 (hsub _ x)⟩,List.nodup_cons.2 ⟨fun x=>a3 (hsub _ x),hT.apart⟩⟩
theorem sdrop_any {w:World} {sb wb:Nat} {N:List Nd} {l:List Ent} (h:SetM w sb wb N l) (id:Int) (hi:(Lit.int .i64 id).wf=true) :
 Calls Tryz.prog 89 #[.pointer (some ⟨sb,0,none⟩),.int .i64 id] w fun en w'=>DropTo w sb wb N l id en w':=by
 obtain ⟨r,hr,hr0,hsb⟩:=h.blk
 have CS:=blk_cell hsb
 have hwh:=h.wh
 have hget:=wh_get h.ids id
 have HX:=hd3 h hr hr0
 cases hg:getS5 l id with
 | none =>
   obtain ⟨e1,e2⟩:=drop_none hg
   rw [hg] at hget
   have HE:=hd2 e1 e2
   clear h hr hr0 hsb hg e1 e2
   go_enter Tryz.func89,Tryz.ntmps89
   go_wp2_with (
    at_lookup
    refine wpList_look_L (T:=iK) _ rfl _ _ true rfl Tryz.underlying116 (zero_str _) rfl hwh hi rfl ?_
    rw [hget]
    simp only [Option.map_none,lookV,if_true])
   go_ret
   refine ⟨by rw [HE.out.1];rfl,N,by rw [HE.out.2];exact HX.out.1,Mod.refl _ _,fun _ hk=>.inl hk⟩
 | some e =>
   obtain ⟨he,rfl⟩:=get_mem hg
   rw [hg] at hget
   have hok:=(h.ok e he).1
   have hps:e.path.size≤9223372036854775807:=by
    have:=pathOk_len hok
    rw [Lib.size_eq]
    exact Nat.le_trans this (by decide)
   have HE:=hide he
   clear h hr hr0 hsb hg he
   go_enter Tryz.func89,Tryz.ntmps89
   go_wp2_with (first
    | (at_lookup
       refine wpList_look_L (T:=iK) _ rfl _ _ true rfl Tryz.underlying116 (zero_str _) rfl hwh hi rfl ?_
       rw [hget]
       simp only [Option.map_some,lookV,if_true])
    | (go_at_call 111
       refine (psplit_gen e.path hps _).mono ?_
       rintro en w2 ⟨q,D,er,rfl,g2,hs2⟩
       rcases hs2 with ⟨-,h1,-⟩ | ⟨rfl,-,hD,hDl,hDz,hDc⟩
       · exact absurd (h1.symm.trans hok) (by simp)
       obtain ⟨h,hr,hr0⟩:=HX.out
       have h2:=h.same (g2.mod [])
       have hpr:=prune_any D.length h2.tree h2.pr h2.ids hr HE.out rfl (by rw [hr0];exact hD.symm) q (fun i hi2=>by
        obtain ⟨b,x1,x2,x3⟩:=hDc i hi2
        exact ⟨b,0,x1,fun x=>by have:=h.lt b (by simp [x]);omega,hDz i hi2,by rw [Nat.zero_add];exact x3⟩) D.length (Nat.le_refl _) hDl hi
       have HPR:=hide hpr
       have HX2:=hd3 h2 g2 hr0
       obtain ⟨a1,a2,a3⟩:=h2.apart2
       obtain ⟨r',hr',hr0',hsb2⟩:=h2.blk
       obtain rfl:r'=r:=pre_one h2.tr.one hr' hr (by rw [hr0,hr0'])
       have CS2:=blk_cell hsb2
       have HA:=hd3 a2 a3 hsb2
       clear hpr h hr hr0 h2 hD hDz hDc hwh a1 a2 a3 hr' hr0' hsb2)
    | (go_at_call 123
       refine HPR.out.mono ?_
       rintro en w3 ⟨rfl,N1,hT,hP1,hm1⟩
       obtain ⟨a2,a3,hsb2⟩:=HA.out
       obtain ⟨h2,g2,hr0⟩:=HX2.out
       have CS3:=blk_cell (hm1.at_ hsb2 a2)
       have hwh3:=h2.wh.mod hm1 a3
       have HT:=hd3 hT hP1 hm1
       clear h2 g2 hT hP1 hm1 CS2 a2 a3 hsb2 HA HPR hr0)
    | (at_delete
       refine wpList_delete_L (T:=iK) _ rfl _ _ rfl Tryz.underlying116 rfl hwh3 (key:=e.id) hi rfl ?_
       intro w4 q1 q2
       clear hwh3 CS3)
    | fail)
   go_ret
   obtain ⟨hT,hP1,hm1⟩:=HT.out
   obtain ⟨h2,g2,hr0⟩:=HX2.out
   rw [hr0] at hP1
   exact drop_end g2 h2 hT hP1 hm1 HE.out q1 q2
end Go.Proofs.YtllljngpgjkdiaaGreatDoor
