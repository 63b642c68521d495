/-
  PsMem PsGrow PsX: see the remarks below.
-/
import Derived.Test.YtllljngpgjkdiaaGreatDoorMPsTree
import Derived.Test.YtllljngpgjkdiaaGreatDoorMPsSplit
import Derived.Test.YtllljngpgjkdiaaGreatDoorMKeyIS
import Derived.Test.YtllljngpgjkdiaaGreatDoorMResC
/-
  MEMORY: layer 5: a set in memory: its tree of branches, each with a map of entries and a map of children, and the map of where each entry lies. New, Len.
-/
namespace Go.Proofs.YtllljngpgjkdiaaGreatDoor
open Go.RowKit Go.Maps

def iK:KeyT Tryz.prog 3 Int where
 K:=int_keyed Tryz.underlying3
 kv x:=.int .i64 x
 kl x:=.int .i64 x
 ok x:=(Lit.int .i64 x).wf=true
 of:=(intK Tryz.underlying3).of
 inj:=(intK Tryz.underlying3).inj
 inv:=(intK Tryz.underlying3).inv
def sK:KeyT Tryz.prog 9 ByteArray where
 K:=string_keyed Tryz.underlying9
 kv x:=.string x
 kl x:=.string x.data.toList
 ok x:=x.size≤maxLen
 of:=(strK Tryz.underlying9).of
 inj:=(strK Tryz.underlying9).inj
 inv:=(strK Tryz.underlying9).inv
def aggE (e:Ent):Value:=.agg #[.int .i64 e.id,.string e.path,.int .i64 e.mode,.int .i64 e.who]
def segOf (s:Seg):ByteArray:=⟨s.toArray⟩
def kidV (m:Nd):ByteArray × Value:=(segOf (m.pre.getLastD []),.pointer (some ⟨m.b,0,none⟩))
def entV (e:Ent):Int × Value:=(e.id,aggE e)
def whV (e:Ent):Int × Value:=(e.id,.string e.path)
abbrev objBr (em cm:Nat):Obj:=.cells #[.map (some em),.map (some cm)] 159 (0,0)
abbrev objSet (rb wb:Nat):Obj:=.cells #[.pointer (some ⟨rb,0,none⟩),.map (some wb)] 118 (0,0)
def blksN (N:List Nd):List Nat:=N.flatMap fun n=>[n.b,n.em,n.cm]
structure NdM (w:World) (N:List Nd) (l:List Ent) (n:Nd):Prop where
 blk:w.heap[n.b]?=some (objBr n.em n.cm)
 em:MapL iK w n.em ((entsOf l n.pre).map entV)
 cm:MapL sK w n.cm ((kidsOf N n.pre).map kidV)
def entOk (e:Ent):Prop:=pathOk e.bs=true∧(e.mode=1∨e.mode=2)
structure SetM (w:World) (sb wb:Nat) (N:List Nd) (l:List Ent):Prop where
 blk:∃ r,r∈N∧r.pre=[]∧w.heap[sb]?=some (objSet r.b wb)
 nd:∀ n,n∈N→NdM w N l n
 wh:MapL iK w wb (l.map whV)
 apart:(sb::wb::blksN N).Nodup
 tr:TrP N l
 pr:Pruned N l
 ids:l.Pairwise fun a b=>a.id≠b.id
 ok:∀ e,e∈l→entOk e
 small:l.length≤64
theorem mem_blks {N:List Nd} {n:Nd} (h:n∈N):n.b∈blksN N∧n.em∈blksN N∧n.cm∈blksN N:=by
 unfold blksN
 refine ⟨List.mem_flatMap.2 ⟨n,h,by simp⟩,List.mem_flatMap.2 ⟨n,h,by simp⟩,List.mem_flatMap.2 ⟨n,h,by simp⟩⟩
theorem SetM.lt {w:World} {sb wb:Nat} {N:List Nd} {l:List Ent} (h:SetM w sb wb N l):∀ k,k∈sb::wb::blksN N→k<w.heap.size:=by
 intro k hk
 rcases List.mem_cons.1 hk with e | hk
 · obtain ⟨r,_,_,hb⟩:=h.blk
   rw [e];exact lt_of_block hb
 · rcases List.mem_cons.1 hk with e | hk
   · rw [e];exact h.wh.lt
   · obtain ⟨n,hn,hx⟩:=List.mem_flatMap.1 hk
     have q:=h.nd n hn
     simp only [List.mem_cons,List.not_mem_nil,or_false] at hx
     rcases hx with e | e | e
     · rw [e];exact lt_of_block q.blk
     · rw [e];exact q.em.lt
     · rw [e];exact q.cm.lt
theorem NdM.mod {w w':World} {N:List Nd} {l:List Ent} {n:Nd} (h:NdM w N l n) {S:List Nat} (m:Mod S w w') (h1:n.b ∉ S) (h2:n.em ∉ S) (h3:n.cm ∉ S):NdM w' N l n:=⟨m.at_ h.blk h1,h.em.mod m h2,h.cm.mod m h3⟩
theorem SetM.mod {w w':World} {sb wb:Nat} {N:List Nd} {l:List Ent} (h:SetM w sb wb N l) {S:List Nat} (m:Mod S w w') (hS:∀ k,k∈sb::wb::blksN N→k ∉ S):SetM w' sb wb N l:=by
 refine ⟨?_,fun n hn=>?_,h.wh.mod m (hS wb (by simp)),h.apart,h.tr,h.pr,h.ids,h.ok,h.small⟩
 · obtain ⟨r,h1,h2,h3⟩:=h.blk
   exact ⟨r,h1,h2,m.at_ h3 (hS sb (by simp))⟩
 · obtain ⟨x1,x2,x3⟩:=mem_blks hn
   exact (h.nd n hn).mod m (hS _ (by simp [x1])) (hS _ (by simp [x2])) (hS _ (by simp [x3]))
theorem SetM.same {w w':World} {sb wb:Nat} {N:List Nd} {l:List Ent} (h:SetM w sb wb N l) (m:Mod [] w w'):SetM w' sb wb N l:=h.mod m (by simp)
structure SetTo (w:World) (sb wb:Nat) (N:List Nd) (w':World) (N':List Nd):Prop where
 mod:Mod (wb::blksN N) w w'
 own:∀ k,k∈blksN N'→k∈blksN N∨w.heap.size≤k
/-! ### New, Len -/
def rootN (b:Nat) (em cm:Nat):Nd:=⟨[],b,em,cm⟩
theorem set_new {w:World} {sb wb b em cm:Nat} (h1:w.heap[sb]?=some (objSet b wb)) (h2:w.heap[b]?=some (objBr em cm)) (h3:MapL iK w em []) (h4:MapL sK w cm []) (h5:MapL iK w wb []) (h6:[sb,wb,b,em,cm].Nodup):SetM w sb wb [rootN b em cm] []:=by
 refine ⟨⟨rootN b em cm,by simp,rfl,h1⟩,fun n hn=>?_,h5,by simpa [blksN,rootN] using h6,⟨by simp,⟨rootN b em cm,by simp,rfl⟩,fun n hn hne=>?_,by simp⟩,fun n hn hne=>?_,List.Pairwise.nil,by simp,by simp⟩
 · rw [List.mem_singleton.1 hn]
   exact ⟨h2,h3,h4⟩
 · rw [List.mem_singleton.1 hn] at hne;exact absurd rfl hne
 · rw [List.mem_singleton.1 hn] at hne;exact absurd rfl hne
theorem grown_any (w:World):Calls Tryz.prog 78 #[] w fun e w'=>e=.returned (.pointer (some ⟨w.heap.size+2,0,none⟩))∧w'=((w.alloc (.map #[] 0)).alloc (.map #[] 0)).alloc (objBr w.heap.size (w.heap.size+1)):=by
 have hmm:=@run_makeMap Tryz.prog
 go_enter Tryz.func78,Tryz.ntmps78
 go_wp2
 go_ret
 exact ⟨rfl,rfl⟩
theorem grown_mem (w:World):(((w.alloc (.map #[] 0)).alloc (.map #[] 0)).alloc (objBr w.heap.size (w.heap.size+1))).heap[w.heap.size+2]?=some (objBr w.heap.size (w.heap.size+1)) ∧
 MapL iK (((w.alloc (.map #[] 0)).alloc (.map #[] 0)).alloc (objBr w.heap.size (w.heap.size+1))) w.heap.size []∧MapL sK (((w.alloc (.map #[] 0)).alloc (.map #[] 0)).alloc (objBr w.heap.size (w.heap.size+1))) (w.heap.size+1) []:=by
 have e1:(w.alloc (.map #[] 0)).heap.size=w.heap.size+1:=by simp
 have e2:((w.alloc (.map #[] 0)).alloc (.map #[] 0)).heap.size=w.heap.size+2:=by simp
 have hb:=heap_alloc_new ((w.alloc (.map #[] 0)).alloc (.map #[] 0)) (objBr w.heap.size (w.heap.size+1))
 rw [e2] at hb
 have m0:MapL iK (w.alloc (.map #[] 0)) w.heap.size []:=MapL.made w
 have m1:MapL sK ((w.alloc (.map #[] 0)).alloc (.map #[] 0)) (w.alloc (.map #[] 0)).heap.size []:=MapL.made _
 rw [e1] at m1
 exact ⟨hb,m0.mod ((((Gr.refl _).alloc _).alloc _).mod []) (by simp),m1.mod (((Gr.refl _).alloc _).mod []) (by simp)⟩
set_option maxRecDepth 100000 in
theorem snew_any (w:World):Calls Tryz.prog 39 #[] w fun e w'=>∃ sb wb N,e=.returned (.pointer (some ⟨sb,0,none⟩))∧SetM w' sb wb N []∧(∀ k,k∈sb::wb::blksN N→w.heap.size≤k)∧Gr w w':=by
 have hmm:=@run_makeMap Tryz.prog
 obtain ⟨h1,h2,h3⟩:=grown_mem w
 have hg:=(((Gr.refl w).alloc (.map #[] 0)).alloc (.map #[] 0)).alloc (objBr w.heap.size (w.heap.size+1))
 have hsz:(((w.alloc (.map #[] 0)).alloc (.map #[] 0)).alloc (objBr w.heap.size (w.heap.size+1))).heap.size=w.heap.size+3:=by simp
 go_enter Tryz.func39,Tryz.ntmps39
 go_wp2_with fail
 refine (grown_any w).mono ?_
 rintro e w1 ⟨rfl,hw1⟩
 rw [← hw1] at h1 h2 h3 hg hsz
 have HX:=hd4 h1 h2 h3 hg
 have HS:=hide hsz
 clear hw1 h1 h2 h3 hg hsz
 go_wp2
 go_ret
 obtain ⟨h1,h2,h3,hg⟩:=HX.out
 have hsz:=HS.out
 have m0:MapL iK (w1.alloc (.map #[] 0)) w1.heap.size []:=MapL.made w1
 have e1:(w1.alloc (.map #[] 0)).heap.size=w1.heap.size+1:=by simp
 have hb:=heap_alloc_new (w1.alloc (.map #[] 0)) (objSet (w.heap.size+2) w1.heap.size)
 rw [e1] at hb
 have g2:=((Gr.refl w1).alloc (.map #[] 0)).alloc (objSet (w.heap.size+2) w1.heap.size)
 refine ⟨w1.heap.size+1,w1.heap.size,[rootN (w.heap.size+2) w.heap.size (w.heap.size+1)],rfl,set_new hb ((g2.mod []).at_ h1 (by simp)) (h2.mod (g2.mod []) (by simp)) (h3.mod (g2.mod []) (by simp)) (m0.mod (((Gr.refl _).alloc _).mod []) (by simp)) ?_,?_,hg.trans g2⟩
 · simp only [List.nodup_cons,List.mem_cons,List.not_mem_nil,or_false,not_or]
   refine ⟨⟨?_,?_,?_,?_⟩,⟨?_,?_,?_⟩,⟨?_,?_⟩,?_,?_⟩ <;> first | omega | simp
 · intro k hk
   simp [blksN,rootN] at hk
   omega
end Go.Proofs.YtllljngpgjkdiaaGreatDoor
/-
  MEMORY LAWS: layer 5: the tree grows by a place, takes an entry.
-/
namespace Go.Proofs.YtllljngpgjkdiaaGreatDoor
open Go.RowKit Go.Maps

structure TreeM (w:World) (N:List Nd) (l:List Ent):Prop where
 nd:∀ n,n∈N→NdM w N l n
 apart:(blksN N).Nodup
 tr:TrP N l
theorem SetM.tree {w:World} {sb wb:Nat} {N:List Nd} {l:List Ent} (h:SetM w sb wb N l):TreeM w N l:=⟨h.nd,(List.nodup_cons.1 (List.nodup_cons.1 h.apart).2).2,h.tr⟩
theorem segOf_inj {a b:Seg} (h:segOf a=segOf b):a=b:=by
 have:=congrArg (fun x:ByteArray=>x.data.toList) h
 simpa [segOf] using this
theorem snoc_last {p:List Seg} {x:Seg} {m:List Seg} (h:m=p++[x]):m≠[]∧m.dropLast=p∧m.getLastD []=x:=by
 subst h
 refine ⟨by simp,by simp,?_⟩
 rw [List.getLastD_eq_getLast?]
 simp
theorem kid_some {w:World} {cm:Nat} {N:List Nd} {p:List Seg} (h:MapL sK w cm ((kidsOf N p).map kidV)) {n:Nd} {x:Seg} (hn:n∈N) (hp:n.pre=p++[x]):getM ((kidsOf N p).map kidV) (segOf x)=some (.pointer (some ⟨n.b,0,none⟩)):=by
 obtain ⟨h1,h2,h3⟩:=snoc_last hp
 refine getM_some h.one (List.mem_map.2 ⟨n,mem_kids.2 ⟨hn,h1,h2⟩,?_⟩)
 unfold kidV
 rw [h3]
theorem kid_fresh {N:List Nd} {p:List Seg} {x:Seg} (hno:∀ n,n∈N→n.pre≠p++[x]):∀ q,q∈(kidsOf N p).map kidV→q.1≠segOf x:=by
 intro q hq e
 obtain ⟨m,hm,rfl⟩:=List.mem_map.1 hq
 obtain ⟨y,hy⟩:=kid_pre hm
 obtain ⟨-,-,h3⟩:=snoc_last hy
 have:y=x:=by
  have e':segOf (m.pre.getLastD [])=segOf x:=e
  rw [h3] at e'
  exact segOf_inj e'
 exact hno m (mem_kids.1 hm).1 (by rw [hy,this])
theorem kid_none {N:List Nd} {p:List Seg} {x:Seg} (hno:∀ n,n∈N→n.pre≠p++[x]):getM ((kidsOf N p).map kidV) (segOf x)=none:=getM_none (kid_fresh hno)
theorem TreeM.lt {w:World} {N:List Nd} {l:List Ent} (h:TreeM w N l):∀ k,k∈blksN N→k<w.heap.size:=by
 intro k hk
 obtain ⟨n,hn,hx⟩:=List.mem_flatMap.1 hk
 have q:=h.nd n hn
 simp only [List.mem_cons,List.not_mem_nil,or_false] at hx
 rcases hx with e | e | e
 · rw [e];exact lt_of_block q.blk
 · rw [e];exact q.em.lt
 · rw [e];exact q.cm.lt
theorem TreeM.mod {w w':World} {N:List Nd} {l:List Ent} (h:TreeM w N l) {S:List Nat} (m:Mod S w w') (hS:∀ k,k∈blksN N→k ∉ S):TreeM w' N l :=
 ⟨fun n hn=>by
   obtain ⟨x1,x2,x3⟩:=mem_blks hn
   exact (h.nd n hn).mod m (hS _ x1) (hS _ x2) (hS _ x3),h.apart,h.tr⟩
theorem blks_cons (z:Nd) (r:List Nd):blksN (z::r)=[z.b,z.em,z.cm]++blksN r:=by simp [blksN]
theorem mem_blks3 {N:List Nd} {n:Nd} (h:n∈N) {c:Nat} (hc:c∈[n.b,n.em,n.cm]):c∈blksN N:=List.mem_flatMap.2 ⟨n,h,hc⟩
theorem blks_apart {N:List Nd}:(blksN N).Nodup→∀ n,n∈N→∀ q,q∈N→n.pre≠q.pre→∀ a,a∈[n.b,n.em,n.cm]→∀ c,c∈[q.b,q.em,q.cm]→a≠c:=by
 induction N with
 | nil=>intro _ n hn;cases hn
 | cons z r ih =>
   intro hd n hn q hq hne a ha c hc
   rw [blks_cons,List.nodup_append] at hd
   obtain ⟨h1,h2,h3⟩:=hd
   rcases List.mem_cons.1 hn with e1 | e1 <;> rcases List.mem_cons.1 hq with e2 | e2
   · exact absurd (by rw [e1,e2]) hne
   · subst e1;exact h3 a ha c (mem_blks3 e2 hc)
   · subst e2;exact fun e=>h3 c hc a (mem_blks3 e1 ha) e.symm
   · exact ih h2 n e1 q e2 hne a ha c hc
theorem blks_own {N:List Nd}:(blksN N).Nodup→∀ n,n∈N→[n.b,n.em,n.cm].Nodup:=by
 induction N with
 | nil=>intro _ n hn;cases hn
 | cons z r ih =>
   intro hd n hn
   rw [blks_cons,List.nodup_append] at hd
   rcases List.mem_cons.1 hn with e1 | e1
   · subst e1;exact hd.1
   · exact ih hd.2.1 n e1
theorem own3 {a b c:Nat} (h:[a,b,c].Nodup):a≠b∧a≠c∧b≠c:=by
 simp only [List.nodup_cons,List.mem_cons,List.not_mem_nil,or_false,not_or] at h
 exact ⟨h.1.1,h.1.2,h.2.1⟩
theorem delM_self {κ:Type} [DecidableEq κ] {L:List (κ × Value)} {x:κ} (h:∀ q,q∈L→q.1≠x):delM L x=L:=List.filter_eq_self.2 fun q hq=>by simpa using h q hq
theorem TreeM.grow {w w2:World} {N:List Nd} {l:List Ent} (h:TreeM w N l) {q:Nd} (hq:q∈N) {x:Seg} (hno:∀ n,n∈N→n.pre≠q.pre++[x])
 (h2:MapL sK w2 q.cm (setM ((kidsOf N q.pre).map kidV) (segOf x) (.pointer (some ⟨w.heap.size+2,0,none⟩))))
 (hg:(((w.alloc (.map #[] 0)).alloc (.map #[] 0)).alloc (objBr w.heap.size (w.heap.size+1))).grownBy w2 (some q.cm)) :
 TreeM w2 (⟨q.pre++[x],w.heap.size+2,w.heap.size,w.heap.size+1⟩::N) l∧Mod [q.cm] w w2:=by
 obtain ⟨b1,b2,b3⟩:=grown_mem w
 have hlt:=h.lt
 have g1:=(((Gr.refl w).alloc (.map #[] 0)).alloc (.map #[] 0)).alloc (objBr w.heap.size (w.heap.size+1))
 have m1:Mod [q.cm] _ w2:=(Mod.refl [q.cm] (((w.alloc (.map #[] 0)).alloc (.map #[] 0)).alloc (objBr w.heap.size (w.heap.size+1)))).grown hg (fun k e _=>by simp at e;simp [e])
 have m:Mod [q.cm] w w2:=(g1.mod [q.cm]).then m1
 obtain ⟨hqb,hqe,hqc⟩:=mem_blks hq
 have hql:=hlt _ hqc
 have hpre:∀ p,p≠q.pre→kidsOf (⟨q.pre++[x],w.heap.size+2,w.heap.size,w.heap.size+1⟩::N) p=kidsOf N p:=fun p hp=>by
  rw [kids_cons,if_neg (fun y=>hp (by have:=y.2;simpa using this.symm))]
 have hkq:kidsOf (⟨q.pre++[x],w.heap.size+2,w.heap.size,w.heap.size+1⟩::N) q.pre=⟨q.pre++[x],w.heap.size+2,w.heap.size,w.heap.size+1⟩::kidsOf N q.pre:=by
  rw [kids_cons,if_pos ⟨by simp,by simp⟩]
 refine ⟨⟨fun n hn=>?_,?_,?_⟩,m⟩
 · rcases List.mem_cons.1 hn with e | hn
   · subst e
     refine ⟨m1.at_ b1 (by simp;omega),?_,?_⟩
     · rw [ents_fresh h.tr hno]
       exact b2.mod m1 (by simp;omega)
     · rw [hpre _ (by simp),kids_fresh h.tr hno]
       exact b3.mod m1 (by simp;omega)
   · have hn0:=h.nd n hn
     by_cases he:n.pre=q.pre
     · have e0:n=q:=pre_one h.tr.one hn hq he
       obtain ⟨o1,o2,o3⟩:=own3 (blks_own h.apart n hn)
       subst e0
       refine ⟨m.at_ hn0.blk (by simpa using o2),hn0.em.mod m (by simpa using o3),?_⟩
       rw [hkq,List.map_cons]
       have e:setM ((kidsOf N n.pre).map kidV) (segOf x) (.pointer (some ⟨w.heap.size+2,0,none⟩))=kidV ⟨n.pre++[x],w.heap.size+2,w.heap.size,w.heap.size+1⟩::(kidsOf N n.pre).map kidV:=by
        unfold setM
        rw [delM_self (kid_fresh hno)]
        congr 1
        unfold kidV
        rw [(snoc_last rfl).2.2]
       rw [← e]
       exact h2
     · have ha:=blks_apart h.apart n hn q hq he
       exact ⟨m.at_ hn0.blk (by simpa using ha n.b (by simp) q.cm (by simp)),hn0.em.mod m (by simpa using ha n.em (by simp) q.cm (by simp)),by
        rw [hpre _ he]
        exact hn0.cm.mod m (by simpa using ha n.cm (by simp) q.cm (by simp))⟩
 · rw [blks_cons,List.nodup_append]
   refine ⟨?_,h.apart,fun a ha c hc e=>?_⟩
   · simp
   · have:=hlt c hc
     simp at ha
     omega
 · exact h.tr.grow hno ⟨q,hq,by simp⟩
theorem TrP.perm {N:List Nd} {l l':List Ent} (h:TrP N l) (p:l.Perm l'):TrP N l':=h.sub fun _ hx=>p.mem_iff.2 hx
theorem ents_perm {l l':List Ent} (p:l.Perm l') (s:List Seg):(entsOf l s).Perm (entsOf l' s):=p.filter _
theorem TreeM.perm {w:World} {N:List Nd} {l l':List Ent} (h:TreeM w N l) (p:l.Perm l'):TreeM w N l' :=
 ⟨fun n hn=>⟨(h.nd n hn).blk,(h.nd n hn).em.perm ((ents_perm p n.pre).map _),(h.nd n hn).cm⟩,h.apart,h.tr.perm p⟩
theorem TreeM.put {w w2:World} {N:List Nd} {l:List Ent} (h:TreeM w N l) {q:Nd} (hq:q∈N) {e:Ent} (he:q.pre=e.sg) (hid:∀ y,y∈l→y.id≠e.id)
 (h2:MapL iK w2 q.em (setM ((entsOf l q.pre).map entV) e.id (aggE e))) (hg:w.grownBy w2 (some q.em)):TreeM w2 N (e::l)∧Mod [q.em] w w2:=by
 have m:Mod [q.em] w w2:=(Mod.refl [q.em] w).grown hg (fun k x _=>by simp at x;simp [x])
 refine ⟨⟨fun n hn=>?_,h.apart,h.tr.put ⟨q,hq,he⟩ (fun x hx=>by simpa using hx)⟩,m⟩
 have hn0:=h.nd n hn
 by_cases hp:n.pre=q.pre
 · have e0:n=q:=pre_one h.tr.one hn hq hp
   obtain ⟨o1,o2,o3⟩:=own3 (blks_own h.apart n hn)
   subst e0
   refine ⟨m.at_ hn0.blk (by simpa using o1),?_,hn0.cm.mod m (by simpa using Ne.symm o3)⟩
   have e1:entsOf (e::l) n.pre=e::entsOf l n.pre:=by
    unfold entsOf
    rw [List.filter_cons,if_pos (by simp [he])]
   rw [e1,List.map_cons]
   have e2:setM ((entsOf l n.pre).map entV) e.id (aggE e)=entV e::(entsOf l n.pre).map entV:=by
    unfold setM
    rw [delM_self (fun p hp=>by
     obtain ⟨y,hy,rfl⟩:=List.mem_map.1 hp
     exact hid y (List.mem_filter.1 hy).1)]
    rfl
   rw [← e2]
   exact h2
 · have ha:=blks_apart h.apart n hn q hq hp
   have e1:entsOf (e::l) n.pre=entsOf l n.pre:=by
    unfold entsOf
    rw [List.filter_cons,if_neg (by simp;exact fun x=>hp (by rw [← x,he]))]
   exact ⟨m.at_ hn0.blk (by simpa using ha n.b (by simp) q.em (by simp)),by
    rw [e1]
    exact hn0.em.mod m (by simpa using ha n.em (by simp) q.em (by simp)),hn0.cm.mod m (by simpa using ha n.cm (by simp) q.em (by simp))⟩
theorem wh_put {w2:World} {wb:Nat} {l:List Ent} {e:Ent} (hid:∀ y,y∈l→y.id≠e.id) (h2:MapL iK w2 wb (setM (l.map whV) e.id (.string e.path))):MapL iK w2 wb ((e::l).map whV):=by
 have e2:setM (l.map whV) e.id (.string e.path)=whV e::l.map whV:=by
  unfold setM
  rw [delM_self (fun p hp=>by
   obtain ⟨y,hy,rfl⟩:=List.mem_map.1 hp
   exact hid y hy)]
  rfl
 rw [List.map_cons,← e2]
 exact h2
theorem wh_get {l:List Ent} (h:l.Pairwise fun a b=>a.id≠b.id) (i:Int):getM (l.map whV) i=(getS5 l i).map fun e=>.string e.path:=by
 induction l with
 | nil=>rfl
 | cons x r ih =>
   unfold getM getS5
   rw [List.map_cons,List.find?_cons,List.find?_cons]
   by_cases hx:x.id=i
   · have e1:decide ((whV x).1=i)=true:=decide_eq_true hx
     have e2:decide (x.id=i)=true:=decide_eq_true hx
     rw [e1,e2]
     rfl
   · have e1:decide ((whV x).1=i)=false:=decide_eq_false hx
     have e2:decide (x.id=i)=false:=decide_eq_false hx
     rw [e1,e2]
     exact ih (List.pairwise_cons.1 h).2
theorem hasId_get (l:List Ent) (i:Int):(getS5 l i).isSome=hasId l i:=by
 unfold getS5 hasId
 rw [Bool.eq_iff_iff,List.find?_isSome]
 simp
end Go.Proofs.YtllljngpgjkdiaaGreatDoor
namespace Go.Proofs.YtllljngpgjkdiaaGreatDoor
open Go.RowKit Go.Maps
abbrev objE (id:Int) (p:ByteArray) (m who:Int):Obj:=.cells #[.int .i64 id,.string p,.int .i64 m,.int .i64 who] 121 (0,0)
theorem nodup_len {α:Type} [DecidableEq α]:∀ (L M:List α),L.Nodup→(∀ x,x∈L→x∈M)→L.length≤M.length
 | [],M,_,_=>by simp
 | a::r,M,h,hs=>by
   have h':=List.nodup_cons.1 h
   have:=nodup_len r (M.erase a) h'.2 fun x hx=>(List.mem_erase_of_ne (fun e=>h'.1 (by rw [← e];exact hx))).2 (hs x (by simp [hx]))
   rw [List.length_erase_of_mem (hs a (by simp))] at this
   have hp:=List.length_pos_of_mem (hs a (by simp))
   simp only [List.length_cons]
   omega
theorem kids_le {N:List Nd} {l:List Ent} (h:N.Pairwise fun m n=>m.pre≠n.pre) {p:List Seg} (hs:∀ m,m∈kidsOf N p→∃ e,e∈l∧m.pre <+: e.sg):(kidsOf N p).length≤l.length:=by
 have h1:((kidsOf N p).map Nd.pre).Nodup:=List.pairwise_map.2 (h.filter _)
 have:=nodup_len _ (l.map fun e=>e.sg.take (p.length+1)) h1 fun x hx=>by
  obtain ⟨m,hm,rfl⟩:=List.mem_map.1 hx
  obtain ⟨e,he,t,ht⟩:=hs m hm
  obtain ⟨y,hy⟩:=kid_pre hm
  refine List.mem_map.2 ⟨e,he,?_⟩
  show e.sg.take (p.length+1)=m.pre
  rw [← ht,hy]
  exact List.take_left' (by simp)
 simpa using this
theorem take_snoc {α β:Type} (f:α→β) (D:List α) {k:Nat} (h:k<D.length) (z:α):(D.map f).take (k+1)=(D.map f).take k++[f (D.getD k z)]:=by
 rw [List.take_add_one]
 simp [h]
end Go.Proofs.YtllljngpgjkdiaaGreatDoor
