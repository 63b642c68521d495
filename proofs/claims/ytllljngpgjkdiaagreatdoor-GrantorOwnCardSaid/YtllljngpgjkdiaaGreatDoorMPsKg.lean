/-
  PsRow PsBelow PsAlong PsIds PsAsk PsClash PsKg: see the remarks below.
-/
import Derived.Test.YtllljngpgjkdiaaGreatDoorMPsColl
import Derived.Test.YtllljngpgjkdiaaGreatDoorMPsDrop
import Derived.Test.YtllljngpgjkdiaaGreatDoorShelfPs
import Derived.Deep.AppendLies
import Derived.Deep.Upon
import Derived.Sort.OwnSortedInts
import Derived.Deep.LoopGhost
/-
  PLAIN LAWS OF MEMORY: a row appended to a row; rows of entries, of numbers; slices.Sort at numbers.
-/
namespace Go.Proofs.YtllljngpgjkdiaaGreatDoor
open Go.RowKit Go.Maps Go.Sort Go.Shelf

def obl (v:Value):List Nat:=v.ownBlock.toList
theorem mem_obl {v:Value} {k:Nat}:k∈obl v↔v.ownBlock=some k:=by simp [obl]
section
variable {P:Program}
theorem row_form {w:World} {base:Nat} {e:TypeId} {size:Nat} {v:Value} {n:Nat} {xs:List Value} (h:w.ownsRow base e size v n xs) :
 ∃ q c,v=.slice q n c∧n≤c∧((q=none∧n=0)∨∃ g cur,q=some ⟨g,0,none⟩∧base≤g∧w.heap[g]?=some (.cells cur e (0,0))∧cur.size=c * size∧cur.toList.take (n * size)=xs):=by
 rcases h.2 with ⟨rfl,hn⟩ | ⟨g,cap,cur,rfl,hb,hg,h1,h2,h3,h4⟩
 · exact ⟨none,0,by rw [hn],by omega,.inl ⟨rfl,hn⟩⟩
 · exact ⟨some ⟨g,0,none⟩,cap,rfl,h1,.inr ⟨g,cur,rfl,hb,hg,h3,h4⟩⟩
theorem wpList_append_row {ops:Array Oper} {rest:List Oper} {o:Oper} {a:Act} {Q:Exit→Act→World→Prop} (w:World) (hgd:o.guard=none) (s x:Operand) (t:TypeId)
 (ho:o.op=.call { callee:=.builtin .append,args:=#[s,x],argTypes:=#[t,t] })
 (e:TypeId) (i:TypeInfo) (z:Value) (size bytes:Nat) (ht:P.underlying t=some (.slice e)) (hi:P.info? e=some i) (hz:i.zero=some z) (hsize:i.size=size) (hby:i.bytes=bytes) (hzs:z.cells.size=size) (hsz:0<size)
 {u v:Value} {base base2 n m:Nat} {xs ys:List Value} (hs:a.eval s=u) (hu:w.ownsRow base e size u n xs) (hx:a.eval x=v) (hv:w.ownsRow base2 e size v m ys) (h1:∀ y∈ys,y.oneCell'=true) (h63:n+m≤maxLen) (hbytes:(n+m) * bytes≤140737488355328) (hbase:base≤w.heap.size)
 (h:∀ u' w',w'.ownsRow base e size u' (n+m) (xs++ys)→w.grownBy w' u.ownBlock→wpList P ops Q rest (a.put o.dst u') w'):wpList P ops Q (o::rest) a w:=by
 by_cases hm:m=0
 · subst hm
   have hy:ys=[]:=List.length_eq_zero_iff.1 (by rw [hv.1];simp)
   subst hy
   obtain ⟨q,c,rfl,hqc,-⟩:=row_form hu
   obtain ⟨p,d,rfl,hpd,-⟩:=row_form hv
   have src:Src P i.size t (.slice p 0 d) 0 [] w:=by
    cases p with
    | none=>exact Src.ofNil w ht d
    | some ad=>exact Src.ofSlice w ht ad 0 d [] (by simp) (fun _ _ h=>by simp at h) (fun _ h=>by cases h)
   have hr:=run_append_nothing w t t o.type e i ht hi q n c hqc _ src
   refine wpList_plain hgd fun K hK=>?_
   unfold Oper.wp execOp
   simp only [ho,resolve,invoke,builtin,Sem.run_bind,Sem.run_pure,Result.andThen_ok,List.map_toArray,List.map_cons,List.map_nil,hs,hx,hr]
   refine hK _ _ (h _ _ (by rw [List.append_nil];exact hu) ⟨rfl,rfl,rfl,Nat.le_refl _,fun _ _ _=>rfl⟩)
 · obtain ⟨g,c,rfl,hgc,hrest⟩:=row_form hv
   rcases hrest with ⟨-,h0⟩ | ⟨g,cur,rfl,hb,hg,hc1,hc2⟩
   · exact absurd h0 hm
   · refine wpList_append_lies w hgd s x t ho base e i z size bytes ht hi hz hsize hby hzs hsz u n xs hs hu ⟨g,0,none⟩ m c ys hx hv.1 (fun j y hj=>?_) h1 (by omega) h63 hbytes hbase _ rfl fun g' cap' w' q1 q2 _ _=>h _ w' q1 q2
     have hj2:(cur.toList.take (m * size))[j]?=some y:=by rw [hc2];exact hj
     have hlt:j<m * size:=by
      have:=(List.getElem?_eq_some_iff.1 hj).1
      rw [hv.1] at this
      exact this
     rw [List.getElem?_take_of_lt hlt,Array.getElem?_toList] at hj2
     rw [Addr.add_lit,Nat.zero_add]
     simp [World.cell?,hg,hj2]
end
theorem encE_len (e:Ent):(encE e).length=4:=rfl
theorem encE_one (e:Ent):∀ v∈encE e,v.oneCell'=true:=by simp [encE,Value.oneCell']
theorem encEs_one (xs:List Ent):∀ v∈xs.flatMap encE,v.oneCell'=true:=by
 intro v hv
 obtain ⟨e,_,he⟩:=List.mem_flatMap.1 hv
 exact encE_one e v he
def RowE (w:World) (base:Nat) (v:Value) (xs:List Ent):Prop:=w.ownsRow base 121 4 v xs.length (xs.flatMap encE)
theorem RowE.nil (w:World) (base:Nat):RowE w base (.slice none 0 0) []:=World.ownsRow_nil _ _ _ _
theorem RowE.mod {S:List Nat} {w w':World} {base:Nat} {v:Value} {xs:List Ent} (h:RowE w base v xs) (m:Mod S w w') (hS:∀ k,v.ownBlock=some k→k ∉ S):RowE w' base v xs:=m.row h hS
theorem RowE.mono {w:World} {base base':Nat} {v:Value} {xs:List Ent} (h:RowE w base v xs) (hb:base'≤base):RowE w base' v xs:=World.ownsRow.mono h hb
theorem RowE.form {w:World} {base:Nat} {v:Value} {xs:List Ent} (h:RowE w base v xs):∃ q c,v=.slice q xs.length c:=by
 obtain ⟨q,c,e,-⟩:=row_form h
 exact ⟨q,c,e⟩
instance:Inhabited Ent:=⟨⟨0,ByteArray.empty,0,0⟩⟩
theorem RowE.at_ {w:World} {base:Nat} {q:Option Addr} {n c:Nat} {xs:List Ent} (h:RowE w base (.slice q n c) xs) {i:Nat} (hi:i<xs.length):∃ g,q=some ⟨g,0,none⟩∧base≤g∧g<w.heap.size ∧
 w.cell? ⟨g,i * 4,none⟩=some (.int .i64 (xs.getD i default).id)∧w.cell? ⟨g,i * 4+1,none⟩=some (.string (xs.getD i default).path)∧w.cell? ⟨g,i * 4+2,none⟩=some (.int .i64 (xs.getD i default).mode)∧w.cell? ⟨g,i * 4+3,none⟩=some (.int .i64 (xs.getD i default).who):=by
 obtain ⟨q',c',e,-,hrest⟩:=row_form h
 obtain ⟨rfl,rfl,rfl⟩:q=q'∧n=xs.length∧c=c':=by simpa using e
 rcases hrest with ⟨-,h0⟩ | ⟨g,cur,rfl,hb,hg,hc1,hc2⟩
 · omega
 · have key:∀ k,k<4→w.cell? ⟨g,i * 4+k,none⟩=(encE (xs.getD i default))[k]?:=fun k hk=>by
    have e1:=flat_get encE 4 encE_len xs i k hi hk
    rw [← hc2,List.getElem?_take_of_lt (by omega),Array.getElem?_toList] at e1
    rw [← e1]
    simp [World.cell?,hg]
   exact ⟨g,rfl,hb,lt_of_block hg,key 0 (by omega),key 1 (by omega),key 2 (by omega),key 3 (by omega)⟩
/-! ### rows of numbers -/
def RowN (w:World) (base:Nat) (v:Value) (xs:List Int):Prop:=w.ownsRow base 3 1 v xs.length (xs.map (Value.int .i64))
theorem RowN.nil (w:World) (base:Nat):RowN w base (.slice none 0 0) []:=World.ownsRow_nil _ _ _ _
theorem RowN.mod {S:List Nat} {w w':World} {base:Nat} {v:Value} {xs:List Int} (h:RowN w base v xs) (m:Mod S w w') (hS:∀ k,v.ownBlock=some k→k ∉ S):RowN w' base v xs:=m.row h hS
theorem RowN.mono {w:World} {base base':Nat} {v:Value} {xs:List Int} (h:RowN w base v xs) (hb:base'≤base):RowN w base' v xs:=World.ownsRow.mono h hb
theorem RowN.form {w:World} {base:Nat} {v:Value} {xs:List Int} (h:RowN w base v xs):∃ q c,v=.slice q xs.length c:=by
 obtain ⟨q,c,e,-⟩:=row_form h
 exact ⟨q,c,e⟩
theorem RowN.own {w:World} {base:Nat} {v:Value} {xs:List Int} (h:RowN w base v xs) {k:Nat} (hk:v.ownBlock=some k):base≤k∧k<w.heap.size:=h.lt k hk
theorem RowE.own {w:World} {base:Nat} {v:Value} {xs:List Ent} (h:RowE w base v xs) {k:Nat} (hk:v.ownBlock=some k):base≤k∧k<w.heap.size:=World.ownsRow.lt h k hk
theorem sortN_any {w:World} {base:Nat} {v:Value} {xs:List Int} (h:RowN w base v xs) (hsm:xs.length≤100000) :
 Calls Tryz.prog 127 #[v] w fun e w'=>e=.returned (.tuple #[])∧RowN w' base v (sortI xs)∧w.grownBy w' v.ownBlock:=by
 rcases h.2 with ⟨rfl,hn⟩ | ⟨g,cap,cur,rfl,hb,hg,h1,h2,h3,h4⟩
 · have hd:xs=[]:=List.length_eq_zero_iff.1 hn
   subst hd
   have hcon:=AnyM.slices_Sort_int_none Tryz.laysSortInt none 0 w
   change Calls Tryz.prog 127 _ _ _ at hcon
   refine hcon.mono ?_
   rintro e w' ⟨rfl,rfl⟩
   have e0:sortI []=[]:=List.perm_nil.1 (sortI_perm [])
   exact ⟨rfl,by rw [e0];exact h,⟨rfl,rfl,rfl,Nat.le_refl _,fun _ _ _=>rfl⟩⟩
 · have hl:(sortI xs).length=xs.length:=(sortI_perm xs).length_eq
   have hcon:=AnyM.slices_Sort_int Tryz.laysSortInt g 0 cap xs w (holds_of_blockI hg (by simpa using h4)) (lt_of_block hg) (by omega)
   change Calls Tryz.prog 127 _ _ _ at hcon
   refine hcon.mono ?_
   rintro e w' ⟨rfl,n,os,rfl⟩
   have q:=ownsRow_sortedI (n:=n) (os:=os) (ss:=xs) (ts:=sortI xs) hl hb hg h1 h2 (by simpa using h3)
   refine ⟨rfl,?_,grownBy_sortedI _⟩
   unfold RowN
   rw [hl]
   exact q
end Go.Proofs.YtllljngpgjkdiaaGreatDoor
/-
  WALK: layer 5: below.
-/
namespace Go.Proofs.YtllljngpgjkdiaaGreatDoor
set_option maxRecDepth 100000
set_option maxHeartbeats 2000000
open Go.RowKit Go.Maps

theorem coll_gen {w:World} {b:Nat} {L:List Ent} (hL:L.Pairwise fun a b=>a.id≠b.id) (hsm:L.length≤64) (hown:MapL iK w b (L.map entV)) :
 Calls Tryz.prog 125 #[.func (.func 159) #[] #[.pointer (some ⟨w.heap.size,0,none⟩)]] (w.alloc (.cells #[.map (some b)] 156)) fun e w' =>
  ∃ (v:Value) (xs:List Ent),e=.returned v∧xs.Perm L∧RowE w' (w.heap.size+1) v xs∧Mod [] w w':=by
 refine (collect_any hL hsm (b:=b) (by rw [blk_cell (heap_alloc_new w (.cells #[.map (some b)] 156))];rfl) (hown.mod (((Gr.refl w).alloc _).mod []) (by simp))).mono ?_
 rintro e w' ⟨v,xs,h1,h2,h3,h4⟩
 rw [World.size_alloc] at h3
 exact ⟨v,xs,h1,h2,h3,(((Gr.refl w).alloc _).mod []).then h4⟩
theorem ents_le (l:List Ent) (p:List Seg):(entsOf l p).length≤l.length:=List.length_filter_le _ _
theorem ents_ids {l:List Ent} (h:l.Pairwise fun a b=>a.id≠b.id) (p:List Seg):(entsOf l p).Pairwise fun a b=>a.id≠b.id:=h.filter _
theorem pickN {lr:List Nd} (h:lr.Pairwise fun a b=>(kidV a).1≠(kidV b).1) {e:Nd} (he:e∈lr):lr.Perm (e::lr.filter fun y=>decide ((kidV y).1≠(kidV e).1)):=by
 induction lr with
 | nil=>cases he
 | cons z r ih =>
   have h':=List.pairwise_cons.1 h
   rw [List.filter_cons]
   rcases List.mem_cons.1 he with x | x
   · subst x
     rw [if_neg (by simp)]
     rw [List.filter_eq_self.2 (fun q hq=>decide_eq_true (h'.1 q hq).symm)]
   · rw [if_pos (decide_eq_true (h'.1 e x))]
     exact (List.Perm.cons z (ih h'.2 x)).trans (List.Perm.swap e z _)
theorem del_kidV (lr:List Nd) (x:ByteArray):delM (lr.map kidV) x=(lr.filter fun y=>decide ((kidV y).1≠x)).map kidV:=by
 unfold delM
 rw [List.filter_map]
 rfl
theorem range_apart {κ:Type} {T:TypeId} {K:KeyT Tryz.prog T κ} {w:World} {b r base:Nat} {L lf:List (κ × Value)} {u:Value} {xs:List Ent} (hR:RangeL K w b r L lf) (hu:RowE w base u xs):u.ownBlock≠some r:=by
 obtain ⟨n,left,cnt,h1,-⟩:=hR.rep
 obtain ⟨o,ho,hw⟩:=h1.iter_walk
 obtain ⟨q,c,rfl,-,h2⟩:=row_form hu
 rcases h2 with ⟨rfl,-⟩ | ⟨g,cur,rfl,-,hg,-⟩
 · simp [Value.ownBlock]
 · intro e
   have:g=r:=by simpa [Value.ownBlock] using e
   subst this
   rw [hg] at ho
   cases ho
   cases hw
theorem below_le (l:List Ent) (p:List Seg):(belowL l p).length≤l.length:=List.length_filter_le _ _
def BelTo (w:World) (l:List Ent) (p:List Seg) (e:Ending) (w':World):Prop:=∃ (v:Value) (xs:List Ent),e=.returned v∧xs.Perm (belowL l p)∧RowE w' w.heap.size v xs∧Mod [] w w'
def BelRel (w:World) (l:List Ent) (n:Nd) (K:List Nd) (r:Nat) (g:Nat) (u:Value) (wr:World):Prop :=
 ∃ (lf:List (ByteArray × Value)) (lr:List Nd) (xs:List Ent),lf=lr.map kidV∧lr.length=g∧lr.Sublist K∧RangeL sK wr n.cm r (K.map kidV) lf∧(xs++lr.flatMap fun m=>belowL l m.pre).Perm (belowL l n.pre)∧RowE wr w.heap.size u xs∧Mod [] w wr
theorem below_any (d:Nat):∀ (w:World) (N:List Nd) (l:List Ent) (_:TreeM w N l) (_:l.Pairwise fun a b=>a.id≠b.id) (_:l.length≤64) (_:∀ m,m∈N→m.pre.length≤4) (n:Nd) (_:n∈N) (_:n.pre.length+d=5),
 Calls Tryz.prog 93 #[.pointer (some ⟨n.b,0,none⟩)] w fun en w'=>BelTo w l n.pre en w':=by
 induction d with
 | zero =>
   intro w N l h hids hsm hmax n hn hd
   have:=hmax n hn
   omega
 | succ d ih =>
   intro w N l h hids hsm hmax n hn hd
   obtain ⟨i0,hi,hz0,hz1,hz2⟩:=info_parts info_ent
   have hnd:=h.nd n hn
   have CB:=blk_cell hnd.blk
   have hem:=hnd.em
   have hcol:=fun (W:World) (m:Mod [] w W)=>coll_gen (ents_ids hids n.pre) (Nat.le_trans (ents_le l n.pre) hsm) (hem.mod m (by simp))
   have HC:=hide hcol
   have HX:=hd6 h hids hsm hmax hn hd
   have HIH:=hide ih
   have HI:=hd4 hi hz0 hz1 hz2
   clear h hids hsm hmax hn hd hem hcol ih hnd hi hz0 hz1 hz2
   go_enter Tryz.func93,Tryz.ntmps93
   go_wp2_with (first
    | (go_at_call 126
       refine (values_any _ _).mono ?_
       rintro e w' ⟨rfl,rfl⟩)
    | (go_at_call 125
       refine (HC.out w (Mod.refl _ _)).mono ?_
       rintro e w1 ⟨v1,xs1,rfl,hp1,hr1,hm1⟩
       obtain ⟨h,hids,hsm,hmax,hn,hd⟩:=HX.out
       have h1:=h.mod hm1 (by simp)
       have hnd1:=h1.nd n hn
       have CB1:=blk_cell hnd1.blk
       have hcm1:=hnd1.cm
       have HR:=hd4 hp1 hr1 hm1 h1
       clear hp1 hr1 hm1 h1 hnd1 h hids hsm hmax hn hd HC CB)
    | (at_range
       refine wpList_range_L (T:=sK) _ rfl _ rfl Tryz.underlying157 rfl hcm1 ?_
       intro w2 hR0 hm2 hs2)
    | fail)
   go_frame
   go_loopg [3] (kidsOf N n.pre).length (fun g u wr=>BelRel w l n (kidsOf N n.pre) w1.heap.size g u wr)
   case atStart =>
    obtain ⟨hp1,hr1,hm1,h1⟩:=HR.out
    refine ⟨_,kidsOf N n.pre,xs1,rfl,rfl,List.Sublist.refl _,hR0,?_,(hr1.mod hm2 (by simp)).mono (Nat.le_succ _),hm1.then hm2⟩
    exact (List.Perm.append_right _ hp1).trans (below_perm h1.tr n.pre).symm
   case round =>
    clear hR0 hm2 hs2 CB1
    obtain ⟨lf,lr,xs,hlf,hg,hsub,hR,hpm,hrow,hmw⟩:=hrel
    have HG:=hd4 hlf hg hsub hpm
    have HW:=hd2 hrow hmw
    clear hlf hg hsub hpm hrow hmw
    go_wp2_with (
     at_next
     refine wpList_next_L (T:=sK) _ rfl _ rfl rfl hR ?_ ?_)
    · intro h0
      go_wp2_with fail
      go_ret
      obtain ⟨hlf,hg,hsub,hpm⟩:=HG.out
      obtain ⟨hrow,hmw⟩:=HW.out
      have hlr:lr=[]:=List.map_eq_nil_iff.1 (hlf.symm.trans h0)
      rw [hlr] at hpm
      exact ⟨_,xs,rfl,by simpa using hpm,hrow,hmw⟩
    · intro x v w3 hx hR3 hm3 hen
      obtain ⟨hlf,hg,hsub,hpm⟩:=HG.out
      obtain ⟨hrow,hmw⟩:=HW.out
      obtain ⟨h,hids,hsm,hmax,hn,hd⟩:=HX.out
      rw [hlf] at hx hR3
      obtain ⟨z,hz,ez⟩:=List.mem_map.1 hx
      have hzk:=hsub.subset hz
      obtain ⟨y,hy⟩:=kid_pre hzk
      have hone:=hcm1.one
      rw [List.pairwise_map] at hone
      have hpk:=pickN (hone.sublist hsub) hz
      obtain ⟨rfl,rfl⟩:=Prod.mk.inj ez
      have hrl:=hR.lt
      have hap:=range_apart hR hrow
      have hr1b:w.heap.size≤w1.heap.size:=HR.out.2.2.1.size
      have hm3w:Mod [] w w3:=hmw.trans hm3 (by simp) (fun k hk hlt=>by rw [List.mem_singleton.1 hk] at hlt;omega)
      have h3:=h.mod hm3w (by simp)
      have hbl:=HIH.out w3 N l h3 hids hsm hmax z (mem_kids.1 hzk).1 (by rw [hy];simp;omega)
      have hrow3:RowE w3 w.heap.size u3 xs:=hrow.mod hm3 (fun k hk=>by simp;exact fun e=>hap (by rw [hk,e]))
      have hlen:xs.length+(belowL l z.pre).length≤64:=by
       have h1:=hpm.length_eq
       have h2:=(hpk.flatMap_right (fun m=>belowL l m.pre)).length_eq
       have h3:=below_le l n.pre
       simp only [List.length_append,List.flatMap_cons] at h1 h2
       omega
      have HB:=hide hbl
      have HN:=hd5 hpk hR3 hm3w hlen hrow3
      simp only [sK] at hen
      clear hlf hg hsub hpm hrow hmw h hids hsm hmax hn hd hx hz hzk hy hone hpk hrl hap h3 hbl hrow3 hlen hR hR3 hm3 hm3w hr1b
      go_wp2_with (first
       | (go_at_call 93
          refine HB.out.mono ?_
          rintro e w4 ⟨v4,ys,rfl,hp4,hr4,hm4⟩
          obtain ⟨hi,hz0,hz1,hz2⟩:=HI.out
          obtain ⟨hpk,hR3,hm3w,hlen,hrow3⟩:=HN.out
          have hrow4:=hrow3.mod hm4 (by simp)
          have hR4:=hR3.mod _ hm4 (by simp) (by simp)
          have hlen4:xs.length+ys.length≤64:=by rw [hp4.length_eq];exact hlen
          have q6:xs.length+ys.length≤maxLen:=by unfold maxLen;omega
          have q7:(xs.length+ys.length) * 40≤140737488355328:=by omega
          have q8:w.heap.size≤w4.heap.size:=(hm3w.then hm4).size
          have H4:=hd5 hp4 hR4 hm4 hpk hm3w
          clear hp4 hR4 hm4 hpk hR3 hm3w hlen hrow3 HN HB)
       | (at_builtin
          refine wpList_append_row _ rfl _ _ 133 rfl 121 i0 _ 4 40 Tryz.underlying133 hi hz0 hz1 hz2 rfl (by decide) rfl hrow4 rfl hr4 (encEs_one ys) q6 q7 q8 ?_
          intro u5 w5 hown5 hgr5
          have hu5:RowE w5 w.heap.size u5 (xs++ys):=by
           unfold RowE
           rw [List.length_append,List.flatMap_append]
           exact hown5
          obtain ⟨hp4,hR4,hm4,hpk,hm3w⟩:=H4.out
          have hap:=range_apart hR4 hrow4
          have hown4:=fun k (hk:u3.ownBlock=some k)=>hrow4.own hk
          have hm5:Mod (obl u3) w4 w5:=(Mod.refl (obl u3) w4).grown hgr5 (fun k e _=>mem_obl.2 e)
          have hR5:=hR4.mod _ hm5 (fun e=>by
           have h1:=hown4 n.cm (mem_obl.1 e)
           have h2:=(HX.out.1.nd n HX.out.2.2.2.2.1).cm.lt
           omega) (fun e=>hap (mem_obl.1 e))
          have hmw5:Mod [] w w5:=(hm3w.then hm4).trans hm5 (by simp) (fun k hk hlt=>by
           have h1:=hown4 k (mem_obl.1 hk)
           omega)
          have H5:=hd5 hp4 hR5 hu5 hmw5 hpk
          clear hp4 hR4 hm4 hpk hm3w hap hown4 hm5 hR5 hmw5 hu5 hown5 hgr5 hrow4 hr4 H4 hi hz0 hz1 hz2)
       | fail)
      go_roundg (lr.filter fun y=>decide ((kidV y).1≠(kidV z).1)).length
      case measure =>
       have h1:=H5.out.2.2.2.2.length_eq
       have h2:=HG.out.2.1
       rw [List.length_cons] at h1
       omega
      case rel =>
       obtain ⟨hp4,hR5,hu5,hmw5,hpk⟩:=H5.out
       obtain ⟨hlf,hg,hsub,hpm⟩:=HG.out
       refine ⟨_,_,xs++ys,rfl,rfl,List.filter_sublist.trans hsub,by rw [← del_kidV];exact hR5,?_,hu5,hmw5⟩
       refine List.Perm.trans ?_ hpm
       rw [List.append_assoc]
       refine List.Perm.append_left xs ?_
       refine List.Perm.trans ?_ (hpk.flatMap_right (fun m=>belowL l m.pre)).symm
       rw [List.flatMap_cons]
       exact List.Perm.append_right _ hp4
end Go.Proofs.YtllljngpgjkdiaaGreatDoor
/-
  WALK: layer 5: along.
-/
namespace Go.Proofs.YtllljngpgjkdiaaGreatDoor
set_option maxRecDepth 100000
set_option maxHeartbeats 2000000
open Go.RowKit Go.Maps

def onWay (l:List Ent) (s:List Seg) (k:Nat):List Ent:=(List.range k).flatMap fun i=>entsOf l (s.take i)
theorem onWay_succ (l:List Ent) (s:List Seg) (k:Nat):onWay l s (k+1)=onWay l s k++entsOf l (s.take k):=by
 unfold onWay
 rw [List.range_succ,List.flatMap_append]
 simp
theorem onWay_le (l:List Ent) (s:List Seg) {k:Nat} (hk:k≤s.length+1):(onWay l s k).length≤l.length:=by
 have h1:=(over_perm l s).length_eq
 have h2:(onWay l s k).length≤(onWay l s (s.length+1)).length:=by
  obtain ⟨d,hd⟩:∃ d,s.length+1=k+d:=⟨s.length+1 - k,by omega⟩
  unfold onWay
  rw [hd,List.range_add,List.flatMap_append,List.length_append]
  omega
 have h3:(l.filter fun e=>decide (e.sg <+: s)).length≤l.length:=List.length_filter_le _ _
 have h4:(onWay l s (s.length+1)).length=(l.filter fun e=>decide (e.sg <+: s)).length:=h1.symm
 omega
def AlTo (w:World) (N:List Nd) (l:List Ent) (p:List UInt8) (e:Ending) (w':World):Prop :=
 ∃ (v:Value) (xs:List Ent) (bp:Option Addr),e=.returned (.tuple #[v,.pointer bp])∧RowE w' w.heap.size v xs∧Mod [] w w' ∧
   ((pathOk p=false∧xs=[]∧bp=none)∨(pathOk p=true∧xs.Perm (onWay l (segsOf p) (segsOf p).length)∧((∃ n,n∈N∧n.pre=segsOf p∧bp=some ⟨n.b,0,none⟩)∨((∀ n,n∈N→n.pre≠segsOf p)∧bp=none))))
def AlRel (w2:World) (N:List Nd) (l:List Ent) (D:List ByteArray) (g:Nat) (bv u i:Value) (wr:World):Prop :=
 ∃ (k:Nat) (n:Nd) (xs:List Ent),k+g=D.length∧i=.int .i64 k∧bv=.pointer (some ⟨n.b,0,none⟩)∧n∈N∧n.pre=(D.map fun d=>d.data.toList).take k∧RowE wr w2.heap.size u xs∧xs.Perm (onWay l (D.map fun d=>d.data.toList) k)∧Mod [] w2 wr
theorem salong_any {w:World} {sb wb:Nat} {N:List Nd} {l:List Ent} (h:SetM w sb wb N l) (p:ByteArray) (hp:p.size≤9223372036854775807) :
 Calls Tryz.prog 92 #[.pointer (some ⟨sb,0,none⟩),.string p] w fun en w'=>AlTo w N l p.data.toList en w':=by
 obtain ⟨i0,hi,hz0,hz1,hz2⟩:=info_parts info_ent
 have HI:=hd4 hi hz0 hz1 hz2
 have HX:=hide h
 clear h hi hz0 hz1 hz2
 go_enter Tryz.func92,Tryz.ntmps92
 go_wp2_with fail
 refine (psplit_gen p hp _).mono ?_
 rintro en w2 ⟨q,D,er,rfl,g2,hs2⟩
 rcases hs2 with ⟨rfl,h1,rfl⟩ | ⟨rfl,hpk,hD,hDl,hDz,hDc⟩
 · clear HX HI
   go_wp2_with fail
   go_ret2
   exact ⟨_,[],none,rfl,RowE.nil _ _,g2.mod [],.inl ⟨h1,rfl,rfl⟩⟩
 · have h2:=HX.out.same (g2.mod [])
   obtain ⟨r,hr,hr0,hsb⟩:=h2.blk
   have CS:=blk_cell hsb
   have HD:=hd5 hpk hD hDl hDz hDc
   have HX2:=hd4 h2 hr hr0 g2
   clear hpk hD hDz hDc h2 hr hr0 hsb g2
   go_wp2_with fail
   go_loopg [8,9,29] D.length (fun g bv u i wr=>AlRel w2 N l D g bv u i wr)
   case atStart =>
    obtain ⟨h2,hr,hr0,g2⟩:=HX2.out
    exact ⟨0,r,[],Nat.zero_add _,rfl,rfl,hr,by rw [hr0];rfl,RowE.nil _ _,by simp [onWay],Mod.refl _ _⟩
   case round =>
    clear CS
    obtain ⟨k,n,xs,hk,rfl,rfl,hn,hnp,hrow,hpm,hmr⟩:=hrel
    by_cases hlt:k<D.length
    · obtain ⟨gg,rfl⟩:∃ g,gk=g+1:=⟨gk - 1,by omega⟩
      obtain ⟨hpk,hD,hDl2,hDz,hDc⟩:=HD.out
      obtain ⟨h2,hr,hr0,g2⟩:=HX2.out
      obtain ⟨qb,rfl,hqw,hcell⟩:=hDc k hlt
      have hz:=hDz k hlt
      have hcw:=hmr.kept hcell (by simp)
      have htk:=take_snoc (fun d:ByteArray=>d.data.toList) D hlt ByteArray.empty
      generalize D.getD k ByteArray.empty=d at hz htk hcw
      rw [← hnp] at htk
      replace htk:(D.map fun d=>d.data.toList).take (k+1)=n.pre++[d.data.toList]:=htk
      have hr2:=h2.same hmr
      have hnd:=hr2.nd n hn
      have CB:=blk_cell hnd.blk
      have hcol:=coll_gen (ents_ids hr2.ids n.pre) (Nat.le_trans (ents_le l n.pre) hr2.small) hnd.em
      have i0':(0:Int)≤(k:Int):=by omega
      have i1:(k:Int)<(D.length:Int):=by omega
      have hSl:(D.map fun d=>d.data.toList).length=D.length:=by simp
      have hle:=onWay_le l (D.map fun d=>d.data.toList) (k:=k+1) (by rw [hSl];omega)
      rw [onWay_succ,List.length_append] at hle
      have hlen:xs.length+(entsOf l n.pre).length≤64:=by
       rw [hpm.length_eq,hnp]
       exact Nat.le_trans hle hr2.small
      have hex:(∃ z,z∈N∧z.pre=n.pre++[d.data.toList])∨∀ z,z∈N→z.pre≠n.pre++[d.data.toList]:=by
       by_cases hz:∃ z,z∈N∧z.pre=n.pre++[d.data.toList]
       · exact .inl hz
       · exact .inr fun z h1 h2=>hz ⟨z,h1,h2⟩
      obtain ⟨bp,hbp,hlk⟩:∃ bp,((∃ z,z∈N∧z.pre=n.pre++[d.data.toList]∧bp=some ⟨z.b,0,none⟩)∨((∀ z,z∈N→z.pre≠n.pre++[d.data.toList])∧bp=none))∧∀ W:World,MapL sK W n.cm ((kidsOf N n.pre).map kidV)→(Instr.lookup 157 (.map (some n.cm)) (.string d) false).run Tryz.prog W=.ok (.pointer bp) W:=by
       rcases hex with ⟨z,hz1,hz2⟩ | hno
       · refine ⟨_,.inl ⟨z,hz1,hz2,rfl⟩,fun W hM=>?_⟩
         have h1:=hM.look (t:=157) Tryz.underlying157 (zero_br W) false hz
         have h2:=kid_some hM hz1 hz2
         rw [segOf_bytes] at h2
         rw [h2] at h1
         exact h1
       · refine ⟨_,.inr ⟨hno,rfl⟩,fun W hM=>?_⟩
         have h1:=hM.look (t:=157) Tryz.underlying157 (zero_br W) false hz
         have h2:=kid_none (N:=N) (p:=n.pre) hno
         rw [segOf_bytes] at h2
         rw [h2] at h1
         exact h1
      have HLK:=hide hlk
      have HC:=hide hcol
      have HK:=hd7 hn hnp hpm htk hlen hrow hr2
      have hsz1:w2.heap.size≤wr.heap.size:=hmr.size
      clear hpk hD hDl2 hDz hDc h2 hr hr0 g2 hcell hqw htk hr2 hnd hcol hSl hle hlen hpm hn hnp hrow hex hlk
      rcases hbp with ⟨z,hz1,hz2,rfl⟩ | ⟨hno,rfl⟩
      all_goals
       go_wp2_with (first
        | (go_at_call 126
           refine (values_any _ _).mono ?_
           rintro e w' ⟨rfl,rfl⟩)
        | (go_at_call 125
           refine HC.out.mono ?_
           rintro e w4 ⟨v4,ys,rfl,hp4,hr4,hm4⟩
           obtain ⟨hn,hnp,hpm,htk,hlen,hrow,hr2⟩:=HK.out
           obtain ⟨hi,hz0,hz1,hz2⟩:=HI.out
           have hrow4:=hrow.mod hm4 (by simp)
           have hlen4:xs.length+ys.length≤64:=by rw [hp4.length_eq];exact hlen
           have q6:xs.length+ys.length≤maxLen:=by unfold maxLen;omega
           have q7:(xs.length+ys.length) * 40≤140737488355328:=by omega
           have q8:w2.heap.size≤w4.heap.size:=Nat.le_trans hsz1 hm4.size
           have H4:=hd2 hp4 hm4
           clear hp4 hm4 hn hnp hpm htk hlen hrow hr2 HC CB hcw)
        | (at_builtin
           refine wpList_append_row _ rfl _ _ 133 rfl 121 i0 _ 4 40 Tryz.underlying133 hi hz0 hz1 hz2 rfl (by decide) rfl hrow4 rfl hr4 (encEs_one ys) q6 q7 q8 ?_
           intro u5 w5 hown5 hgr5
           have hu5:RowE w5 w2.heap.size u5 (xs++ys):=by
            unfold RowE
            rw [List.length_append,List.flatMap_append]
            exact hown5
           obtain ⟨hp4,hm4⟩:=H4.out
           obtain ⟨hn,hnp,hpm,htk,hlen,hrow,hr2⟩:=HK.out
           obtain ⟨h2,-,-,g2⟩:=HX2.out
           have hown4:=fun k (hk:u9.ownBlock=some k)=>hrow4.own hk
           have hm5:Mod (obl u9) w4 w5:=(Mod.refl (obl u9) w4).grown hgr5 (fun k e _=>mem_obl.2 e)
           have hsN:∀ k,k∈sb::wb::blksN N→k ∉ obl u9:=fun k hk e=>(by
            have h1:=hown4 k (mem_obl.1 e)
            have h3:=h2.lt k hk
            omega)
           have hs5:=(hr2.same hm4).mod hm5 hsN
           have hnd5:=hs5.nd n hn
           have CB5:=blk_cell hnd5.blk
           have hcm5:=hnd5.cm
           have hlk5:=HLK.out w5 hcm5
           have hmw5:Mod [] w2 w5:=(hmr.then hm4).trans hm5 (by simp) (fun k hk hlt2=>(by
            have h1:=hown4 k (mem_obl.1 hk)
            omega))
           have HM5:=hide hmw5
           have H5:=hd3 hu5 hp4 hm5
           clear hu5 hp4 hm4 hn hnp hpm htk hlen hrow hr2 h2 g2 hown4 hm5 hsN hs5 hnd5 hcm5 hown5 hgr5 hrow4 hr4 hi hz0 hz1 hz2)
        | fail)
      · go_roundg gg
        case measure=>omega
        case rel =>
         obtain ⟨hu5,hp4,hm5⟩:=H5.out
         obtain ⟨hn,hnp,hpm,htk,hlen,hrow,hr2⟩:=HK.out
         refine ⟨k+1,z,xs++ys,by omega,rfl,rfl,hz1,by rw [htk,hz2],hu5,?_,?_⟩
         · rw [onWay_succ,← hnp]
           exact hpm.append hp4
         · exact HM5.out
      · go_ret2
        obtain ⟨hu5,hp4,hm5⟩:=H5.out
        obtain ⟨hn,hnp,hpm,htk,hlen,hrow,hr2⟩:=HK.out
        obtain ⟨hpk,hD,hDl2,hDz,hDc⟩:=HD.out
        obtain ⟨h2,hr,hr0,g2⟩:=HX2.out
        have hSl:(segsOf p.data.toList).length=D.length:=by rw [← hD];simp
        rw [← htk,hD] at hno
        have hon:xs++ys |>.Perm (onWay l (segsOf p.data.toList) (k+1)):=by
         rw [onWay_succ,← hD,← hnp]
         exact hpm.append hp4
        have hmiss:onWay l (segsOf p.data.toList) (segsOf p.data.toList).length=onWay l (segsOf p.data.toList) (k+1):=by
         unfold onWay
         exact flat_miss h2.tr (by omega) (by omega) hno
        refine ⟨_,xs++ys,none,rfl,hu5.mono g2.size,(g2.mod []).then HM5.out,.inr ⟨hpk,by rw [hmiss];exact hon,.inr ⟨fun m hm hms=>?_,rfl⟩⟩⟩
        obtain ⟨m2,hm2,hp2⟩:=h2.tr.up _ m hm rfl ((segsOf p.data.toList).take (k+1)) (by rw [hms];exact List.take_prefix _ _)
        exact hno m2 hm2 hp2
    · clear HI
      go_wp2_with fail
      go_ret2
      obtain ⟨hpk,hD,hDl2,hDz,hDc⟩:=HD.out
      obtain ⟨h2,hr,hr0,g2⟩:=HX2.out
      have hkk:k=D.length:=by omega
      rw [hkk,hD] at hpm
      rw [hkk,hD] at hnp
      have hSl:(segsOf p.data.toList).length=D.length:=by rw [← hD];simp
      refine ⟨_,xs,_,rfl,hrow.mono g2.size,(g2.mod []).then hmr,.inr ⟨hpk,by rw [hSl];exact hpm,.inl ⟨n,hn,?_,rfl⟩⟩⟩
      rw [hnp]
      exact List.take_of_length_le (by omega)
end Go.Proofs.YtllljngpgjkdiaaGreatDoor
/-
  WALK: layer 5: ids.
-/
namespace Go.Proofs.YtllljngpgjkdiaaGreatDoor
set_option maxRecDepth 100000
set_option maxHeartbeats 2000000
open Go.RowKit Go.Maps

theorem row_one {w:World} {b:Nat} {v:Value} {e:TypeId} (h:w.heap[b]?=some (.cells #[v] e (0,0))):w.ownsRow b e 1 (.slice (some ⟨b,0,none⟩) 1 1) 1 [v] :=
 ⟨rfl,.inr ⟨b,1,#[v],rfl,Nat.le_refl _,h,Nat.le_refl _,by unfold maxLen;omega,rfl,rfl⟩⟩
theorem info_num:(Tryz.prog.info? 3).map (fun i=>(i.zero,i.size,i.bytes))=some (some (.int .i64 0),1,8):=by kernel_rfl
def fitsC (m who:Int) (e:Ent):Bool:=(e.who != who)&&((m==2)||(e.mode==2))
theorem clash1_any {w:World} {bw bm:Nat} {m who:Int} (h1:w.cell? ⟨bw,0,none⟩=some (.int .i64 who)) (h2:w.cell? ⟨bm,0,none⟩=some (.int .i64 m)) (id:Int) (p:ByteArray) (em ew:Int) :
 Calls Tryz.prog 95 #[.agg #[.int .i64 id,.string p,.int .i64 em,.int .i64 ew],.pointer (some ⟨bw,0,none⟩),.pointer (some ⟨bm,0,none⟩)] w fun e w'=>e=.returned (.bool (fitsC m who ⟨id,p,em,ew⟩))∧Gr w w':=by
 have G:=hide ((Gr.refl w).alloc (objE id p em ew))
 have l1:=World.block_lt_of_cell? w ⟨bw,0,none⟩ h1
 have l2:=World.block_lt_of_cell? w ⟨bm,0,none⟩ h2
 have n1:¬ bw=w.heap.size:=by simp at l1;omega
 have n2:¬ bm=w.heap.size:=by simp at l2;omega
 unfold fitsC
 simp only
 cases hb1:(ew != who)
 · go_enter Tryz.func95,Tryz.ntmps95
   go_wp2_with fail
   go_ret
   exact ⟨rfl,G.out⟩
 · cases hb2:(m==2)
   · go_enter Tryz.func95,Tryz.ntmps95
     go_wp2_with fail
     go_ret
     exact ⟨rfl,G.out⟩
   · go_enter Tryz.func95,Tryz.ntmps95
     go_wp2_with fail
     go_ret
     exact ⟨rfl,G.out⟩
theorem eql_none (W:World):(binOp .eql 138 Value.nilFunc Value.nilFunc).run Tryz.prog W=.ok (.bool true) W:=by kernel_rfl
theorem eql_some (a b:Value) (W:World):(binOp .eql 138 (.func (.func 95) #[] #[a,b]) Value.nilFunc).run Tryz.prog W=.ok (.bool false) W:=by kernel_rfl
def IdsTo (w:World) (xs:List Ent) (f:Ent→Bool) (e:Ending) (w':World):Prop:=∃ v,e=.returned v∧RowN w' w.heap.size v (sortI ((xs.filter f).map Ent.id))∧Mod [] w w'
def IdsRel (w:World) (xs:List Ent) (f:Ent→Bool) (g:Nat) (u i:Value) (wr:World):Prop :=
 ∃ k,k+g=xs.length∧i=.int .i64 (k:Nat)∧RowN wr w.heap.size u (((xs.take k).filter f).map Ent.id)∧Mod [] w wr
theorem take_succ_getD (xs:List Ent) {k:Nat} (h:k<xs.length):xs.take (k+1)=xs.take k++[xs.getD k default]:=by
 rw [List.take_add_one]
 simp [h]
theorem ids_hit (xs:List Ent) (f:Ent→Bool) {k:Nat} (h:k<xs.length) (hf:f (xs.getD k default)=true):((xs.take (k+1)).filter f).map Ent.id=((xs.take k).filter f).map Ent.id++[(xs.getD k default).id]:=by
 rw [take_succ_getD xs h,List.filter_append,List.map_append,List.filter_cons,if_pos hf]
 rfl
theorem ids_miss (xs:List Ent) (f:Ent→Bool) {k:Nat} (h:k<xs.length) (hf:f (xs.getD k default)=false):((xs.take (k+1)).filter f).map Ent.id=((xs.take k).filter f).map Ent.id:=by
 rw [take_succ_getD xs h,List.filter_append,List.map_append,List.filter_cons,if_neg (by rw [hf];simp)]
 simp
theorem ids_nil0 {w:World} {base:Nat} {q:Option Addr} {n c:Nat} {xs:List Ent} (hx:RowE w base (.slice q n c) xs) (hn:n=xs.length) (hsm:xs.length≤64) (f:Ent→Bool) (hf:∀ e,f e=true) :
 Calls Tryz.prog 94 #[.slice q n c,Value.nilFunc] w fun en w'=>IdsTo w xs f en w':=by
 subst hn
 obtain ⟨i0,hi,hz0,hz1,hz2⟩:=info_parts info_num
 have HI:=hd4 hi hz0 hz1 hz2
 have HX:=hide hx
 have heq:=eql_none
 clear hx hi hz0 hz1 hz2
 go_enter Tryz.func94,Tryz.ntmps94
 go_wp2_with fail
 go_loopg [5,10] xs.length (fun g u i wr=>IdsRel w xs f g u i wr)
 case atStart=>exact ⟨0,Nat.zero_add _,rfl,by simpa using RowN.nil w w.heap.size,Mod.refl _ _⟩
 case round =>
  obtain ⟨k,hk,rfl,hrow,hmr⟩:=hrel
  by_cases hlt:k<xs.length
  · obtain ⟨gg,rfl⟩:∃ g,gk=g+1:=⟨gk - 1,by omega⟩
    obtain ⟨g0,rfl,hb0,hl0,c0,c1,c2,c3⟩:=HX.out.at_ hlt
    replace c0:=hmr.kept c0 (by simp)
    replace c1:=hmr.kept c1 (by simp)
    replace c2:=hmr.kept c2 (by simp)
    replace c3:=hmr.kept c3 (by simp)
    have i0':(0:Int)≤(k:Int):=by omega
    have i1:(k:Int)<(xs.length:Int):=by omega
    have hhit:=ids_hit xs f hlt
    have hmiss:=ids_miss xs f hlt
    have hlen:(((xs.take k).filter f).map Ent.id).length≤64:=by
     rw [List.length_map]
     have h1:((xs.take k).filter f).length≤(xs.take k).length:=List.length_filter_le _ _
     have h2:(xs.take k).length≤xs.length:=by rw [List.length_take];omega
     omega
    obtain ⟨⟨id,p,m,ew⟩,he⟩:∃ e,xs.getD k default=e:=⟨_,rfl⟩
    rw [he] at c0 c1 c2 c3 hhit hmiss
    dsimp only at c0 c1 c2 c3
    generalize hL:((xs.take k).filter f).map Ent.id=L at hrow hhit hmiss hlen
    have HK:=hd4 hhit hmiss hmr hrow
    have hgo:=hide (fun (u5:Value) (w5:World) (hm5:Mod [] w w5) (hr5:RowN w5 w.heap.size u5 (((xs.take (k+1)).filter f).map Ent.id))=>(⟨k+1,by omega,rfl,hr5,hm5⟩:IdsRel w xs f gg u5 (.int .i64 (k+1:Nat)) w5))
    clear he hL hhit hmiss
    obtain ⟨hhit,hmiss,hmr,hrow⟩:=HK.out
    obtain ⟨hi,hz0,hz1,hz2⟩:=HI.out
    have q6:L.length+1≤maxLen:=by unfold maxLen;omega
    have q7:(L.length+1) * 8≤140737488355328:=by omega
    have hrow2:=(hrow.mod (((Gr.refl wr).alloc (objE id p m ew)).mod []) (by simp)).mod (((Gr.refl (wr.alloc (objE id p m ew))).alloc (.cells #[.int .i64 id] 3)).mod []) (by simp)
    have r1:=row_one (heap_alloc_new (wr.alloc (objE id p m ew)) (.cells #[.int .i64 id] 3))
    have q8:w.heap.size≤((wr.alloc (objE id p m ew)).alloc (.cells #[.int .i64 id] 3)).heap.size:=by have:=hmr.size;simp;omega
    simp only [World.size_alloc] at r1
    clear hhit hmiss hmr hrow
    go_wp2_with (first
     | (at_builtin
        refine wpList_append_row _ rfl _ _ 23 rfl 3 i0 _ 1 8 Tryz.underlying23 hi hz0 hz1 hz2 rfl (by decide) rfl hrow2 rfl r1 (by simp [Value.oneCell']) q6 q7 q8 ?_
        intro u6 w5 hown5 hgr5
        obtain ⟨hhit,hmiss,hmr,hrow⟩:=HK.out
        have hr5:RowN w5 w.heap.size u6 (((xs.take (k+1)).filter f).map Ent.id):=by
         rw [hhit (hf _)]
         unfold RowN
         rw [List.length_append,List.map_append]
         exact hown5
        have hm5:Mod [] w w5:=((hmr.alloc _).alloc _).trans ((Mod.refl (obl u5) _).grown hgr5 (fun k e _=>mem_obl.2 e)) (by simp) (fun k hk hlt2=>(by
         have h1:=hrow.own (mem_obl.1 hk)
         omega))
        have HG:=hide (hgo.out u6 w5 hm5 hr5)
        clear hhit hmiss hmr hrow hr5 hm5 hown5 hgr5 hrow2 r1 hi hz0 hz1 hz2)
     | fail)
    go_roundg gg
    case measure=>omega
    case rel=>exact HG.out
  · have hkk:k=xs.length:=by omega
    have hrow2:=hrow
    rw [hkk,List.take_length] at hrow2
    have hsz:((xs.filter f).map Ent.id).length≤100000:=by
     rw [List.length_map]
     have h1:(xs.filter f).length≤xs.length:=List.length_filter_le _ _
     omega
    clear hrow HI
    have HM:=hide hmr
    go_wp2_with (
     go_at_call 127
     refine (sortN_any hrow2 hsz).mono ?_
     rintro e w5 ⟨rfl,hr5,hgr5⟩
     have hm5:Mod [] w w5:=HM.out.trans ((Mod.refl (obl u5) wr).grown hgr5 (fun k e _=>mem_obl.2 e)) (by simp) (fun k hk hlt2=>by
      have h1:=hrow2.own (mem_obl.1 hk)
      omega)
     clear hrow2 hgr5)
    go_ret
    exact ⟨_,rfl,hr5,hm5⟩
theorem ids_clash0 {w:World} {base:Nat} {q:Option Addr} {n c:Nat} {xs:List Ent} (hx:RowE w base (.slice q n c) xs) (hn:n=xs.length) (hsm:xs.length≤64) (f:Ent→Bool) {bw bm:Nat} {md who:Int} (hw:w.cell? ⟨bw,0,none⟩=some (.int .i64 who)) (hmd:w.cell? ⟨bm,0,none⟩=some (.int .i64 md)) (hf:∀ e,f e=fitsC md who e) :
 Calls Tryz.prog 94 #[.slice q n c,.func (.func 95) #[] #[.pointer (some ⟨bw,0,none⟩),.pointer (some ⟨bm,0,none⟩)]] w fun en w'=>IdsTo w xs f en w':=by
 subst hn
 obtain ⟨i0,hi,hz0,hz1,hz2⟩:=info_parts info_num
 have HI:=hd4 hi hz0 hz1 hz2
 have HX:=hide hx
 have heq:=eql_some
 clear hx hi hz0 hz1 hz2
 go_enter Tryz.func94,Tryz.ntmps94
 go_wp2_with fail
 go_loopg [5,10] xs.length (fun g u i wr=>IdsRel w xs f g u i wr)
 case atStart=>exact ⟨0,Nat.zero_add _,rfl,by simpa using RowN.nil w w.heap.size,Mod.refl _ _⟩
 case round =>
  obtain ⟨k,hk,rfl,hrow,hmr⟩:=hrel
  by_cases hlt:k<xs.length
  · obtain ⟨gg,rfl⟩:∃ g,gk=g+1:=⟨gk - 1,by omega⟩
    obtain ⟨g0,rfl,hb0,hl0,c0,c1,c2,c3⟩:=HX.out.at_ hlt
    replace c0:=hmr.kept c0 (by simp)
    replace c1:=hmr.kept c1 (by simp)
    replace c2:=hmr.kept c2 (by simp)
    replace c3:=hmr.kept c3 (by simp)
    have i0':(0:Int)≤(k:Int):=by omega
    have i1:(k:Int)<(xs.length:Int):=by omega
    have hhit:=ids_hit xs f hlt
    have hmiss:=ids_miss xs f hlt
    have hlen:(((xs.take k).filter f).map Ent.id).length≤64:=by
     rw [List.length_map]
     have h1:((xs.take k).filter f).length≤(xs.take k).length:=List.length_filter_le _ _
     have h2:(xs.take k).length≤xs.length:=by rw [List.length_take];omega
     omega
    obtain ⟨⟨id,p,m,ew⟩,he⟩:∃ e,xs.getD k default=e:=⟨_,rfl⟩
    rw [he] at c0 c1 c2 c3 hhit hmiss
    dsimp only at c0 c1 c2 c3
    generalize hL:((xs.take k).filter f).map Ent.id=L at hrow hhit hmiss hlen
    have HK:=hd4 hhit hmiss hmr hrow
    have hgo:=hide (fun (u5:Value) (w5:World) (hm5:Mod [] w w5) (hr5:RowN w5 w.heap.size u5 (((xs.take (k+1)).filter f).map Ent.id))=>(⟨k+1,by omega,rfl,hr5,hm5⟩:IdsRel w xs f gg u5 (.int .i64 (k+1:Nat)) w5))
    clear he hL hhit hmiss
    have gA:=(Gr.refl wr).alloc (objE id p m ew)
    have cw4:=gA.kept (hmr.kept hw (by simp))
    have cm4:=gA.kept (hmr.kept hmd (by simp))
    have hbx:=blk_cell (heap_alloc_new wr (objE id p m ew))
    clear hrow gA
    cases hfv:fitsC md who ⟨id,p,m,ew⟩
    · have HFV:=hide hfv
      clear hfv
      go_wp2_with (
       go_at_call 95
       refine (clash1_any cw4 cm4 _ _ _ _).mono ?_
       rw [HFV.out]
       rintro e w4 ⟨rfl,hg4⟩
       have HG4:=hide hg4
       clear hg4 cw4 cm4)
      go_roundg gg
      case measure=>omega
      case rel =>
       obtain ⟨hhit,hmiss,hmr,hrow⟩:=HK.out
       have hm4:Mod [] wr w4:=(((Gr.refl wr).alloc _).trans HG4.out).mod []
       exact hgo.out _ w4 (hmr.then hm4) (by rw [hmiss (by rw [hf];exact HFV.out)];exact hrow.mod hm4 (by simp))
    · have HFV:=hide hfv
      clear hfv
      go_wp2_with (first
       | (go_at_call 95
          refine (clash1_any cw4 cm4 _ _ _ _).mono ?_
          rw [HFV.out]
          rintro e w4 ⟨rfl,hg4⟩
          have hbx4:=blk_cell ((hg4.mod []).at_ (heap_alloc_new wr (objE id p m ew)) (by simp))
          obtain ⟨hhit,hmiss,hmr,hrow⟩:=HK.out
          obtain ⟨hi,hz0,hz1,hz2⟩:=HI.out
          have q6:L.length+1≤maxLen:=by unfold maxLen;omega
          have q7:(L.length+1) * 8≤140737488355328:=by omega
          have hm4:Mod [] wr w4:=(((Gr.refl wr).alloc _).trans hg4).mod []
          have hrow2:=(hrow.mod hm4 (by simp)).mod (((Gr.refl w4).alloc (.cells #[.int .i64 id] 3)).mod []) (by simp)
          have r1:=row_one (heap_alloc_new w4 (.cells #[.int .i64 id] 3))
          have q8:w.heap.size≤(w4.alloc (.cells #[.int .i64 id] 3)).heap.size:=(by have h1:=hmr.size;have h2:=hm4.size;simp;omega)
          have HM4:=hide hm4
          clear hhit hmiss hmr hrow hg4 hm4 cw4 cm4 hbx)
       | (at_builtin
          refine wpList_append_row _ rfl _ _ 23 rfl 3 i0 _ 1 8 Tryz.underlying23 hi hz0 hz1 hz2 rfl (by decide) rfl hrow2 rfl r1 (by simp [Value.oneCell']) q6 q7 q8 ?_
          intro u6 w5 hown5 hgr5
          obtain ⟨hhit,hmiss,hmr,hrow⟩:=HK.out
          have hr5:RowN w5 w.heap.size u6 (((xs.take (k+1)).filter f).map Ent.id):=by
           rw [hhit (by rw [hf];exact HFV.out)]
           unfold RowN
           rw [List.length_append,List.map_append]
           exact hown5
          have hm5:Mod [] w w5:=((hmr.then HM4.out).alloc _).trans ((Mod.refl (obl u5) _).grown hgr5 (fun k e _=>mem_obl.2 e)) (by simp) (fun k hk hlt2=>(by
           have h1:=hrow.own (mem_obl.1 hk)
           omega))
          have HG:=hide (hgo.out u6 w5 hm5 hr5)
          clear hhit hmiss hmr hrow hr5 hm5 hown5 hgr5 hrow2 r1 hi hz0 hz1 hz2)
       | fail)
      go_roundg gg
      case measure=>omega
      case rel=>exact HG.out
  · have hkk:k=xs.length:=by omega
    have hrow2:=hrow
    rw [hkk,List.take_length] at hrow2
    have hsz:((xs.filter f).map Ent.id).length≤100000:=by
     rw [List.length_map]
     have h1:(xs.filter f).length≤xs.length:=List.length_filter_le _ _
     omega
    clear hrow HI
    have HM:=hide hmr
    go_wp2_with (
     go_at_call 127
     refine (sortN_any hrow2 hsz).mono ?_
     rintro e w5 ⟨rfl,hr5,hgr5⟩
     have hm5:Mod [] w w5:=HM.out.trans ((Mod.refl (obl u5) wr).grown hgr5 (fun k e _=>mem_obl.2 e)) (by simp) (fun k hk hlt2=>by
      have h1:=hrow2.own (mem_obl.1 hk)
      omega)
     clear hrow2 hgr5)
    go_ret
    exact ⟨_,rfl,hr5,hm5⟩
theorem ids_any {w:World} {base:Nat} {v:Value} {xs:List Ent} (hx:RowE w base v xs) (hsm:xs.length≤64):Calls Tryz.prog 94 #[v,Value.nilFunc] w fun en w'=>IdsTo w xs (fun _=>true) en w':=by
 obtain ⟨q,c,rfl⟩:=hx.form
 exact ids_nil0 hx rfl hsm _ fun _=>rfl
theorem ids_clash {w:World} {base:Nat} {v:Value} {xs:List Ent} (hx:RowE w base v xs) (hsm:xs.length≤64) {bw bm:Nat} {md who:Int} (hw:w.cell? ⟨bw,0,none⟩=some (.int .i64 who)) (hmd:w.cell? ⟨bm,0,none⟩=some (.int .i64 md)) :
 Calls Tryz.prog 94 #[v,.func (.func 95) #[] #[.pointer (some ⟨bw,0,none⟩),.pointer (some ⟨bm,0,none⟩)]] w fun en w'=>IdsTo w xs (fitsC md who) en w':=by
 obtain ⟨q,c,rfl⟩:=hx.form
 exact ids_clash0 hx rfl hsm _ hw hmd fun _=>rfl
end Go.Proofs.YtllljngpgjkdiaaGreatDoor
/-
  WALKS: layer 5: along, List, Over, Under at a receiver that may be nil.
-/
namespace Go.Proofs.YtllljngpgjkdiaaGreatDoor
set_option maxRecDepth 100000
set_option maxHeartbeats 1000000
open Go.RowKit Go.Maps

theorem SetM.depth {w:World} {sb wb:Nat} {N:List Nd} {l:List Ent} (h:SetM w sb wb N l):∀ m,m∈N→m.pre.length≤4:=by
 intro m hm
 by_cases e:m.pre=[]
 · rw [e];exact Nat.zero_le _
 · obtain ⟨x,hx,hp⟩:=h.pr m hm e
   exact Nat.le_trans hp.length_le (segs_length (h.ok x hx).1)
theorem SetM.below {w:World} {sb wb:Nat} {N:List Nd} {l:List Ent} (h:SetM w sb wb N l) {n:Nd} (hn:n∈N) :
 Calls Tryz.prog 93 #[.pointer (some ⟨n.b,0,none⟩)] w fun en w'=>BelTo w l n.pre en w' :=
 below_any (5 - n.pre.length) w N l h.tree h.ids h.small h.depth n hn (by have:=h.depth n hn;omega)
def SetQ (w:World) (o:Option Addr) (N:List Nd) (l:List Ent):Prop:=(∃ sb wb,o=some ⟨sb,0,none⟩∧SetM w sb wb N l)∨(o=none∧N=[]∧l=[])
theorem SetQ.same {w w':World} {o:Option Addr} {N:List Nd} {l:List Ent} (h:SetQ w o N l) (m:Mod [] w w'):SetQ w' o N l:=by
 rcases h with ⟨sb,wb,e,h⟩ | h
 · exact .inl ⟨sb,wb,e,h.same m⟩
 · exact .inr h
theorem SetQ.small {w:World} {o:Option Addr} {N:List Nd} {l:List Ent} (h:SetQ w o N l):l.length≤64:=by
 rcases h with ⟨sb,wb,e,h⟩ | ⟨-,-,h⟩
 · exact h.small
 · rw [h];exact Nat.zero_le _
theorem SetQ.fine {w:World} {o:Option Addr} {N:List Nd} {l:List Ent} (h:SetQ w o N l):∀ e,e∈l→pathOk e.bs=true:=by
 rcases h with ⟨sb,wb,e,h⟩ | ⟨-,-,h⟩
 · exact fun e he=>(h.ok e he).1
 · rw [h];simp
theorem SetQ.below {w:World} {o:Option Addr} {N:List Nd} {l:List Ent} (h:SetQ w o N l) {n:Nd} (hn:n∈N) :
 Calls Tryz.prog 93 #[.pointer (some ⟨n.b,0,none⟩)] w fun en w'=>BelTo w l n.pre en w':=by
 rcases h with ⟨sb,wb,e,h⟩ | ⟨-,h,-⟩
 · exact h.below hn
 · rw [h] at hn;cases hn
theorem SetQ.nd {w:World} {o:Option Addr} {N:List Nd} {l:List Ent} (h:SetQ w o N l) {n:Nd} (hn:n∈N):NdM w N l n:=by
 rcases h with ⟨sb,wb,e,h⟩ | ⟨-,h,-⟩
 · exact h.nd n hn
 · rw [h] at hn;cases hn
theorem SetQ.ids {w:World} {o:Option Addr} {N:List Nd} {l:List Ent} (h:SetQ w o N l):l.Pairwise fun a b=>a.id≠b.id:=by
 rcases h with ⟨sb,wb,e,h⟩ | ⟨-,-,h⟩
 · exact h.ids
 · rw [h];exact List.Pairwise.nil
theorem SetQ.miss {w:World} {o:Option Addr} {N:List Nd} {l:List Ent} (h:SetQ w o N l) {p:List Seg} (hp:∀ n,n∈N→n.pre≠p):entsOf l p=[]∧belowL l p=[]:=by
 rcases h with ⟨sb,wb,e,h⟩ | ⟨-,-,h⟩
 · exact h.tr.miss hp (List.prefix_refl _)
 · rw [h];exact ⟨rfl,rfl⟩
theorem salong_nil (w:World) (p:ByteArray) (hp:p.size≤9223372036854775807) :
 Calls Tryz.prog 92 #[.pointer none,.string p] w fun en w'=>AlTo w [] [] p.data.toList en w':=by
 go_enter Tryz.func92,Tryz.ntmps92
 go_wp2_with fail
 refine (psplit_gen p hp _).mono ?_
 rintro en w2 ⟨q,D,er,rfl,g2,hs2⟩
 rcases hs2 with ⟨rfl,h1,rfl⟩ | ⟨rfl,hpk,hD,hDl,hDz,hDc⟩
 · go_wp2_with fail
   go_ret2
   exact ⟨_,[],none,rfl,RowE.nil _ _,g2.mod [],.inl ⟨h1,rfl,rfl⟩⟩
 · have HP:=hide hpk
   clear hpk hD hDl hDz hDc
   go_wp2_with fail
   go_ret2
   exact ⟨_,[],none,rfl,RowE.nil _ _,g2.mod [],.inr ⟨HP.out,by simp [onWay,entsOf],.inr ⟨by simp,rfl⟩⟩⟩
theorem along_q {w:World} {o:Option Addr} {N:List Nd} {l:List Ent} (h:SetQ w o N l) (p:ByteArray) (hp:p.size≤9223372036854775807) :
 Calls Tryz.prog 92 #[.pointer o,.string p] w fun en w'=>AlTo w N l p.data.toList en w':=by
 rcases h with ⟨sb,wb,rfl,h⟩ | ⟨rfl,rfl,rfl⟩
 · exact salong_any h p hp
 · exact salong_nil w p hp
/-! ### the plain laws -/
theorem filt_true (xs:List Ent):xs.filter (fun _=>true)=xs:=List.filter_eq_self.2 fun _ _=>rfl
theorem sort_ids {xs ys:List Ent} (h:xs.Perm ys):sortI (xs.map Ent.id)=sortI (ys.map Ent.id):=sortI_congr (h.map _)
theorem covers_bad {a b:List UInt8} (h:pathOk b=false):coversB a b=false∧coversB b a=false:=by
 unfold coversB
 rw [h]
 simp
theorem over_bad {l:List Ent} {p:List UInt8} (h:pathOk p=false):overS5 l p=[]∧underS5 l p=[]:=by
 unfold overS5 underS5
 rw [List.filter_eq_nil_iff.2 (fun e _=>by rw [(covers_bad h).1];simp),List.filter_eq_nil_iff.2 (fun e _=>by rw [(covers_bad h).2];simp)]
 exact ⟨List.perm_nil.1 (sortI_perm []),List.perm_nil.1 (sortI_perm [])⟩
theorem clash_bad {l:List Ent} {p:List UInt8} {m who:Int} (h:pathOk p=false∨modE m=false):clashS5 l p m who=[]:=by
 unfold clashS5
 rw [List.filter_eq_nil_iff.2 (fun e _=>by
  unfold standsB
  rcases h with h | h
  · rw [(covers_bad h).1,(covers_bad h).2];simp
  · rw [h];simp)]
 exact List.perm_nil.1 (sortI_perm [])
theorem under_ans {l:List Ent} (hl:∀ e,e∈l→pathOk e.bs=true) {p:List UInt8} (hp:pathOk p=true) {xs:List Ent} (h:xs.Perm (belowL l (segsOf p))):sortI (xs.map Ent.id)=underS5 l p:=by
 unfold underS5
 rw [under_filter hl hp]
 exact sort_ids h
theorem clash_ans {l:List Ent} (hl:∀ e,e∈l→pathOk e.bs=true) {p:List UInt8} (hp:pathOk p=true) {m who:Int} (hm:modE m=true) {xs:List Ent} (h:xs.Perm (onWay l (segsOf p) (segsOf p).length++belowL l (segsOf p))) :
 sortI ((xs.filter (fitsC m who)).map Ent.id)=clashS5 l p m who:=by
 unfold clashS5
 rw [clash_filter hl hp hm]
 have e1:(fun e:Ent=>decide (e.who≠who)&&(decide (m=2)||decide (e.mode=2)))=fitsC m who:=by
  funext e
  unfold fitsC
  by_cases h1:e.who=who <;> by_cases h2:m=2 <;> by_cases h3:e.mode=2 <;> simp [h1,h2,h3]
 rw [e1]
 exact sort_ids ((h.trans (lap_perm l (segsOf p)).symm).filter _)
def NewN (w:World) (xs:List Int) (e:Ending) (w':World):Prop:=∃ v,e=.returned v∧RowN w' w.heap.size v xs∧Mod [] w w'
theorem IdsTo.all {w:World} {xs:List Ent} {e:Ending} {w':World} (h:IdsTo w xs (fun _=>true) e w'):NewN w (sortI (xs.map Ent.id)) e w':=by
 unfold IdsTo at h
 rw [filt_true] at h
 exact h
theorem NewN.of {w w1:World} {xs:List Int} {e:Ending} {w':World} (m:Mod [] w w1) (h:NewN w1 xs e w'):NewN w xs e w':=by
 obtain ⟨v,h1,h2,h3⟩:=h
 exact ⟨v,h1,h2.mono m.size,m.then h3⟩
theorem NewN.zero (w:World) {w':World} (m:Mod [] w w'):NewN w [] (.returned (.slice none 0 0)) w':=⟨_,rfl,RowN.nil _ _,m⟩
theorem row_two {w:World} {base:Nat} {u:Value} {xs ys:List Ent} (h:w.ownsRow base 121 4 u (xs.length+ys.length) (xs.flatMap encE++ys.flatMap encE)):RowE w base u (xs++ys):=by
 unfold RowE
 rw [List.length_append,List.flatMap_append]
 exact h
/-! ### Over, Under -/
theorem sunder_any {w:World} {o:Option Addr} {N:List Nd} {l:List Ent} (h:SetQ w o N l) (p:ByteArray) (hp:p.size≤9223372036854775807):Calls Tryz.prog 80 #[.pointer o,.string p] w fun en w'=>NewN w (underS5 l p.data.toList) en w':=by
 have hal:=along_q h p hp
 have HX:=hide h
 clear h
 go_enter Tryz.func80,Tryz.ntmps80
 go_wp2_with fail
 refine hal.mono ?_
 clear hal
 rintro en w1 ⟨v,xs,bp,rfl,hrow,hm1,hcase⟩
 have HM:=hide hm1
 have hfine:=HX.out.fine
 rcases hcase with ⟨hpk,rfl,rfl⟩ | ⟨hpk,hperm,hend⟩
 · go_wp2_with fail
   go_ret
   rw [(over_bad hpk).2]
   exact NewN.zero _ HM.out
 · have hQ:=HX.out.same hm1
   rcases hend with ⟨n,hn,hnp,rfl⟩ | ⟨hno,rfl⟩
   · have hbel:=hQ.below hn
     have hbl:=below_le l n.pre
     have hsm:=hQ.small
     have HK:=hd3 hpk hnp hfine
     clear hQ hpk hn hnp hperm hfine hrow hm1
     go_wp2_with (first
      | (go_at_call 93
         refine hbel.mono ?_
         rintro e w4 ⟨v4,ys,rfl,hp4,hr4,hm4⟩
         have h64:ys.length≤64:=(by rw [hp4.length_eq];omega)
         have H4:=hd2 hp4 hm4
         clear hp4 hm4 hbel)
      | (go_at_call 94
         refine (ids_any hr4 h64).mono ?_
         intro e w6 hids
         replace hids:=(IdsTo.all hids).of (HM.out.then H4.out.2)
         obtain ⟨v6,rfl,hr6,hm6⟩:=hids
         have HR:=hd2 hr6 hm6
         clear hr6 hm6 hr4)
      | fail)
     go_ret
     obtain ⟨hpk,hnp,hfine⟩:=HK.out
     obtain ⟨hr6,hm6⟩:=HR.out
     rw [under_ans hfine hpk (by rw [← hnp];exact H4.out.1)] at hr6
     exact ⟨_,rfl,hr6,hm6⟩
   · have HK:=hd3 hpk hfine (hQ.miss hno)
     clear hpk hperm hfine hQ hno hm1 hrow
     go_wp2_with fail
     go_ret
     obtain ⟨hpk,hfine,-,hmiss⟩:=HK.out
     rw [← under_ans (xs:=[]) hfine hpk (by rw [hmiss])]
     have e0:sortI []=[]:=List.perm_nil.1 (sortI_perm [])
     rw [List.map_nil,e0]
     exact NewN.zero _ HM.out
end Go.Proofs.YtllljngpgjkdiaaGreatDoor
/-
  WALK: layer 5: Clash.
-/
namespace Go.Proofs.YtllljngpgjkdiaaGreatDoor
set_option maxRecDepth 100000
set_option maxHeartbeats 2000000
open Go.RowKit Go.Maps

theorem alto_clash {w1:World} {o:Option Addr} {N:List Nd} {l:List Ent} (hQ:SetQ w1 o N l) {p:List UInt8} {xs:List Ent} {bp:Option Addr} (m who:Int)
 (h:(pathOk p=false∧xs=[]∧bp=none)∨(pathOk p=true∧xs.Perm (onWay l (segsOf p) (segsOf p).length)∧((∃ n,n∈N∧n.pre=segsOf p∧bp=some ⟨n.b,0,none⟩)∨((∀ n,n∈N→n.pre≠segsOf p)∧bp=none)))) :
 (bp=none∧xs.length≤64∧(modE m=true→sortI ((xs.filter (fitsC m who)).map Ent.id)=clashS5 l p m who)) ∨
 (∃ n,n∈N∧bp=some ⟨n.b,0,none⟩∧xs.length+(belowL l n.pre).length≤64∧∀ ys:List Ent,ys.Perm (belowL l n.pre)→modE m=true→sortI (((xs++ys).filter (fitsC m who)).map Ent.id)=clashS5 l p m who):=by
 have e0:sortI []=[]:=List.perm_nil.1 (sortI_perm [])
 rcases h with ⟨h1,rfl,rfl⟩ | ⟨hpk,hperm,hend⟩
 · exact .inl ⟨rfl,Nat.zero_le _,fun _=>by rw [clash_bad (.inl h1)];exact e0⟩
 · have hlap:(onWay l (segsOf p) (segsOf p).length).length+(belowL l (segsOf p)).length≤64:=by
    have h1:=(lap_perm l (segsOf p)).length_eq
    rw [List.length_append] at h1
    have h2:(l.filter fun e=>decide (e.sg <+: segsOf p∨segsOf p <+: e.sg)).length≤l.length:=List.length_filter_le _ _
    have h3:=hQ.small
    change _=(onWay l (segsOf p) (segsOf p).length).length+_ at h1
    omega
   rcases hend with ⟨n,hn,hnp,rfl⟩ | ⟨hno,rfl⟩
   · refine .inr ⟨n,hn,rfl,by rw [hnp,hperm.length_eq];exact hlap,fun ys hy hm=>?_⟩
     exact clash_ans hQ.fine hpk hm (hperm.append (by rw [← hnp];exact hy))
   · refine .inl ⟨rfl,by rw [hperm.length_eq];omega,fun hm=>?_⟩
     exact clash_ans hQ.fine hpk hm (by rw [(hQ.miss hno).2,List.append_nil];exact hperm)
theorem sclash_any {w:World} {o:Option Addr} {N:List Nd} {l:List Ent} (h:SetQ w o N l) (p:ByteArray) (hp:p.size≤9223372036854775807) (m who:Int) :
 Calls Tryz.prog 65 #[.pointer o,.string p,.int .i64 m,.int .i64 who] w fun en w'=>NewN w (clashS5 l p.data.toList m who) en w':=by
 obtain ⟨i0,hi,hz0,hz1,hz2⟩:=info_parts info_ent
 have HI:=hd4 hi hz0 hz1 hz2
 clear hi hz0 hz1 hz2
 have HX:=hide h
 clear h
 go_enter Tryz.func65,Tryz.ntmps65
 go_wp2_with fail
 have b1:=blk_alloc (heap_alloc_new w (.cells #[.int .i64 m] 22)) (.cells #[.int .i64 who] 3)
 have b2:=heap_alloc_new (w.alloc (.cells #[.int .i64 m] 22)) (.cells #[.int .i64 who] 3)
 have gB:=((Gr.refl w).alloc (.cells #[.int .i64 m] 22)).alloc (.cells #[.int .i64 who] 3)
 have hszB:((w.alloc (.cells #[.int .i64 m] 22)).alloc (.cells #[.int .i64 who] 3)).heap.size=w.heap.size+2:=by simp
 rw [World.size_alloc] at b2
 refine (along_q (HX.out.same (gB.mod [])) p hp).mono ?_
 rintro en w1 ⟨v,xs,bp,rfl,hrow,hm1,hcase⟩
 rw [hszB] at hrow
 have C1:=blk_cell (hm1.at_ b1 (by simp))
 have C2:=blk_cell (hm1.at_ b2 (by simp))
 have hmw:Mod [] w w1:=(gB.mod []).then hm1
 have hQ:=HX.out.same hmw
 have hend:=alto_clash hQ m who hcase
 have HB:=hd3 (hm1.at_ b1 (by simp)) (hm1.at_ b2 (by simp)) hmw
 have hmd:(m=1∧modE m=true)∨(m=2∧modE m=true)∨((m != 1)=true∧(m != 2)=true∧modE m=false):=by
  by_cases e1:m=1
  · exact .inl ⟨e1,by rw [e1];rfl⟩
  · by_cases e2:m=2
    · exact .inr (.inl ⟨e2,by rw [e2];rfl⟩)
    · exact .inr (.inr ⟨by simpa using e1,by simpa using e2,by simp [modE,e1,e2]⟩)
 clear b1 b2 gB hszB hm1 hcase hmw
 rcases hend with ⟨rfl,hxl,hans⟩ | ⟨n,hn,rfl,hlen,hans⟩
 · clear hQ HI
   rcases hmd with ⟨e,hmd⟩ | ⟨e,hmd⟩ | ⟨n1,n2,hmd⟩
   · have HA:=hide (hans hmd)
     clear hans hmd
     subst e
     have c1:w1.cell? ⟨w.heap.size+1,0,none⟩=some (.int .i64 who):=by rw [C2];rfl
     have c2:w1.cell? ⟨w.heap.size,0,none⟩=some (.int .i64 1):=by rw [C1];rfl
     go_wp2_with (
      go_at_call 94
      refine (ids_clash hrow hxl c1 c2).mono ?_
      rintro e w6 ⟨v6,rfl,hr6,hm6⟩
      have HR:=hd2 hr6 hm6
      clear hr6 hm6 hrow)
     go_ret
     obtain ⟨hr6,hm6⟩:=HR.out
     obtain ⟨-,-,hmw⟩:=HB.out
     rw [HA.out] at hr6
     exact ⟨_,rfl,hr6.mono hmw.size,hmw.then hm6⟩
   · have HA:=hide (hans hmd)
     clear hans hmd
     subst e
     have c1:w1.cell? ⟨w.heap.size+1,0,none⟩=some (.int .i64 who):=by rw [C2];rfl
     have c2:w1.cell? ⟨w.heap.size,0,none⟩=some (.int .i64 2):=by rw [C1];rfl
     go_wp2_with (
      go_at_call 94
      refine (ids_clash hrow hxl c1 c2).mono ?_
      rintro e w6 ⟨v6,rfl,hr6,hm6⟩
      have HR:=hd2 hr6 hm6
      clear hr6 hm6 hrow)
     go_ret
     obtain ⟨hr6,hm6⟩:=HR.out
     obtain ⟨-,-,hmw⟩:=HB.out
     rw [HA.out] at hr6
     exact ⟨_,rfl,hr6.mono hmw.size,hmw.then hm6⟩
   · have HA:=hide hmd
     clear hans hmd hrow
     go_wp2_with fail
     go_ret
     obtain ⟨-,-,hmw⟩:=HB.out
     rw [clash_bad (.inr HA.out)]
     exact NewN.zero _ hmw
 · have hbel:=hQ.below hn
   have HK:=hd3 hans hlen hrow
   clear hQ hn hans hlen hrow
   rcases hmd with ⟨e,hmd⟩ | ⟨e,hmd⟩ | ⟨n1,n2,hmd⟩
   all_goals
    have HMD:=hide hmd
    clear hmd
    try subst e
    go_wp2_with (first
     | (go_at_call 93
        refine hbel.mono ?_
        rintro e w4 ⟨v4,ys,rfl,hp4,hr4,hm4⟩
        obtain ⟨hans,hlen,hrow⟩:=HK.out
        obtain ⟨hi,hz0,hz1,hz2⟩:=HI.out
        have hrow4:=hrow.mod hm4 (by simp)
        have hlen4:xs.length+ys.length≤64:=(by rw [hp4.length_eq];exact hlen)
        have q6:xs.length+ys.length≤maxLen:=by unfold maxLen;omega
        have q7:(xs.length+ys.length) * 40≤140737488355328:=by omega
        obtain ⟨b1,b2,hmw⟩:=HB.out
        have q8:w.heap.size+2≤w4.heap.size:=(by
         have h1:=lt_of_block b2
         have h2:=hm4.size
         omega)
        have H4:=hd2 (hans ys hp4) hm4
        clear hp4 hm4 hans hlen hrow b1 b2 hmw hbel C1 C2)
     | (at_builtin
        refine wpList_append_row _ rfl _ _ 133 rfl 121 i0 _ 4 40 Tryz.underlying133 hi hz0 hz1 hz2 rfl (by decide) rfl hrow4 rfl hr4 (encEs_one ys) q6 q7 q8 ?_
        intro u5 w5 hown5 hgr5
        have hu5:=row_two hown5
        have hown4:=fun k (hk:Value.ownBlock v=some k)=>hrow4.own hk
        obtain ⟨b1,b2,hmw⟩:=HB.out
        have h4m:=H4.out.2
        have m45:Mod (obl v) w4 w5:=(Mod.refl (obl v) w4).grown hgr5 (fun k e _=>mem_obl.2 e)
        have m15:Mod (obl v) w1 w5:=(h4m.mono (by simp)).then m45
        have C1:=blk_cell (m15.at_ b1 (fun e=>(by have:=hown4 _ (mem_obl.1 e);omega)))
        have C2:=blk_cell (m15.at_ b2 (fun e=>(by have:=hown4 _ (mem_obl.1 e);omega)))
        have hm5:Mod [] w w5:=hmw.trans m15 (by simp) (fun k hk hlt2=>(by
         have h1:=hown4 k (mem_obl.1 hk)
         omega))
        have h64:(xs++ys).length≤64:=(by rw [List.length_append];exact hlen4)
        have HM5:=hide hm5
        have c1:w5.cell? ⟨w.heap.size+1,0,none⟩=some (.int .i64 who):=(by rw [C2];rfl)
        have c2:=C1 0
        clear hm5 hown4 hown5 hgr5 hrow4 hr4 hi hz0 hz1 hz2 b1 b2 hmw h4m m45 m15)
     | (go_at_call 94
        refine (ids_clash hu5 h64 c1 c2).mono ?_
        rintro e w6 ⟨v6,rfl,hr6,hm6⟩
        have HR:=hd2 hr6 hm6
        clear hr6 hm6 hu5 c1 c2)
     | fail)
    go_ret
   · obtain ⟨hr6,hm6⟩:=HR.out
     rw [H4.out.1 HMD.out] at hr6
     exact ⟨_,rfl,hr6.mono HM5.out.size,HM5.out.then hm6⟩
   · obtain ⟨hr6,hm6⟩:=HR.out
     rw [H4.out.1 HMD.out] at hr6
     exact ⟨_,rfl,hr6.mono HM5.out.size,HM5.out.then hm6⟩
   · rw [clash_bad (.inr HMD.out)]
     exact NewN.zero _ HM5.out
end Go.Proofs.YtllljngpgjkdiaaGreatDoor
/-
  LAYER 5: contracts with results given; a set all of whose memory is new (for the layers above).
-/
namespace Go.Proofs.YtllljngpgjkdiaaGreatDoor
open Go.RowKit Go.Maps

structure SS (W w:World) (sb wb:Nat) (N:List Nd) (l:List Ent):Prop where
 m:SetM w sb wb N l
 srt:SrtE l
 mod:Mod [] W w
 new:∀ k,k∈sb::wb::blksN N→W.heap.size≤k
theorem put_srt {l:List Ent} (h:SrtE l) (e:Ent):SrtE (putS5 l e).1:=by
 unfold putS5
 split
 · exact h
 · split
   · exact h
   · split
     · exact h
     · next hid =>
       split
       · exact h
       · refine insE_srt h fun x hx e2=>hid ?_
         unfold hasId
         rw [List.any_eq_true]
         exact ⟨x,hx,decide_eq_true e2⟩
section
variable {W w w':World} {sb wb:Nat} {N N':List Nd} {l l':List Ent}
theorem SS.q (s:SS W w sb wb N l):SetQ w (some ⟨sb,0,none⟩) N l:=.inl ⟨sb,wb,rfl,s.m⟩
theorem SS.same (s:SS W w sb wb N l) (m:Mod [] w w'):SS W w' sb wb N l:=⟨s.m.same m,s.srt,s.mod.then m,s.new⟩
theorem SS.gr (s:SS W w sb wb N l) (g:Gr w w'):SS W w' sb wb N l:=s.same (g.mod [])
theorem SS.to (s:SS W w sb wb N l) (h:SetM w' sb wb N' l') (hs:SrtE l') (t:SetTo w sb wb N w' N'):SS W w' sb wb N' l':=by
 refine ⟨h,hs,s.mod.trans t.mod (by simp) (fun x hx hlt=>?_),fun k hk=>?_⟩
 · have:=s.new x (List.mem_cons_of_mem _ hx)
   omega
 · rcases List.mem_cons.1 hk with e | hk
   · exact s.new k (by rw [e];exact List.mem_cons_self)
   · rcases List.mem_cons.1 hk with e | hk
     · exact s.new k (by rw [e];simp)
     · rcases t.own k hk with h1 | h1
       · exact s.new k (List.mem_cons_of_mem _ (List.mem_cons_of_mem _ h1))
       · have:=s.mod.size;omega
theorem put_eq (s:SS W w sb wb N l) (id:Int) (p:ByteArray) (m who:Int) (hp:p.size≤9223372036854775807) (hi:(Lit.int .i64 id).wf=true) {k:Int} (hs:putS5 l ⟨id,p,m,who⟩=(l',k)) :
 Calls Tryz.prog 79 #[.pointer (some ⟨sb,0,none⟩),.agg #[.int .i64 id,.string p,.int .i64 m,.int .i64 who]] w fun e w'=>e=.returned (.int .i64 k)∧∃ N',SS W w' sb wb N' l'∧SetTo w sb wb N w' N' :=
 (sput_any s.m id p m who hp hi).mono fun e w' ⟨he,N',h,t⟩=>by
   have hsr:=put_srt s.srt ⟨id,p,m,who⟩
   rw [hs] at he h hsr
   exact ⟨he,N',s.to h hsr t,t⟩
end
section
variable {w:World} {o:Option Addr} {N:List Nd} {l:List Ent}
theorem newN_form {w':World} {xs:List Int} {e:Ending} (h:NewN w xs e w'):∃ q c,e=.returned (.slice q xs.length c)∧RowN w' w.heap.size (.slice q xs.length c) xs∧Mod [] w w':=by
 obtain ⟨v,he,hr,hm⟩:=h
 obtain ⟨q,c,rfl⟩:=hr.form
 exact ⟨q,c,he,hr,hm⟩
theorem under_eq (h:SetQ w o N l) (p:ByteArray) (hp:p.size≤9223372036854775807) {xs:List Int} (hs:underS5 l p.data.toList=xs):Calls Tryz.prog 80 #[.pointer o,.string p] w fun e w'=>∃ q c,e=.returned (.slice q xs.length c)∧RowN w' w.heap.size (.slice q xs.length c) xs∧Mod [] w w':=by
 subst hs
 exact (sunder_any h p hp).mono fun _ _=>newN_form
theorem clash_eq (h:SetQ w o N l) (p:ByteArray) (hp:p.size≤9223372036854775807) (m who:Int) {xs:List Int} (hs:clashS5 l p.data.toList m who=xs):Calls Tryz.prog 65 #[.pointer o,.string p,.int .i64 m,.int .i64 who] w fun e w'=>∃ q c,e=.returned (.slice q xs.length c)∧RowN w' w.heap.size (.slice q xs.length c) xs∧Mod [] w w':=by
 subst hs
 exact (sclash_any h p hp m who).mono fun _ _=>newN_form
end
end Go.Proofs.YtllljngpgjkdiaaGreatDoor
