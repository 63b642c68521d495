/-
  PLAIN: layer 9: a disk as a list of sectors, its counters; and how it lies in memory.
-/
import Derived.Test.YtpphoeimakjjdaaGreatDoorMRds
import Derived.Deep.MidRow
namespace Go.Proofs.YtpphoeimakjjdaaGreatDoor
open Go.RowKit

structure Dk where
 secs:List B8
 writes:Int
 armed:Bool
 left:Int
 off:Bool
structure Dk.Ok (d:Dk):Prop where
 all:∀ i,i<d.secs.length→(d.secs.getD i []).length=64
 least:1≤d.secs.length
 most:d.secs.length≤512
 left0:d.armed=true→0≤d.left
 leftM:d.left≤9223372036854775807
def faultD (d:Dk) (i:Nat):Int:=if d.off=true then 40 else if d.secs.length≤i then 2 else 0
def wroteD (d:Dk) (i:Nat) (b:B8):Dk:={ d with left:=if d.armed=true then d.left - 1 else d.left,secs:=d.secs.set i b,writes:=wrap64 (d.writes+1) }
def cutD (d:Dk):Dk:={ d with armed:=false,off:=true }
def writeD (d:Dk) (i:Nat) (b:B8):Int × Dk :=
 if d.off=true then (40,d) else if d.secs.length≤i then (2,d) else if b.length≠64 then (2,d)
 else if d.armed=true∧d.left=0 then (40,cutD d) else (0,wroteD d i b)
theorem map_y8_get (b:B8) {j:Nat} (hj:j<b.length):(b.map y8)[j]?=some (y8 (b.getD j 0)):=by
 rw [List.getElem?_map,List.getElem?_eq_getElem hj]
 simp [List.getD,hj]
theorem getD_set (l:List B8) (i j:Nat) (b:B8) (hi:i<l.length):(l.set i b).getD j []=if i=j then b else l.getD j []:=by
 simp only [List.getD,List.getElem?_set]
 split
 · subst_vars;rfl
 · rfl
theorem Dk.Ok.wrote {d:Dk} (h:d.Ok) {i:Nat} {b:B8} (hi:i<d.secs.length) (hb:b.length=64) (ha:¬ (d.armed=true∧d.left=0)):(wroteD d i b).Ok:=by
 refine ⟨fun j hj=>?_,by simpa [wroteD] using h.least,by simpa [wroteD] using h.most,fun he=>?_,?_⟩
 · have hj':j<d.secs.length:=by simpa [wroteD] using hj
   show ((d.secs.set i b).getD j []).length=64
   rw [getD_set _ _ _ _ hi]
   split
   · exact hb
   · exact h.all j hj'
 · have he':d.armed=true:=he
   have:=h.left0 he'
   have h0:d.left≠0:=fun e=>ha ⟨he',e⟩
   show 0≤(if d.armed=true then d.left - 1 else d.left)
   rw [if_pos he']
   omega
 · have:=h.leftM
   show (if d.armed=true then d.left - 1 else d.left)≤_
   split <;> omega
theorem Dk.Ok.cut {d:Dk} (h:d.Ok):(cutD d).Ok:=⟨h.all,h.least,h.most,fun e=>Bool.noConfusion e,h.leftM⟩

/-! ### sectors as cells -/
def flatY (l:List B8):List Value:=l.flatMap (fun b=>b.map y8)
theorem flatY_len:∀ (l:List B8),(∀ i,i<l.length→(l.getD i []).length=64)→(flatY l).length=l.length * 64
 | [],_=>rfl
 | b::l,h=>by
   have h0:b.length=64:=by simpa using h 0 (by simp)
   have h1:=flatY_len l (fun i hi=>by simpa using h (i+1) (by simp;omega))
   show (b.map y8++flatY l).length=_
   rw [List.length_append,List.length_map,h0,h1,List.length_cons]
   omega
theorem flatY_get:∀ (l:List B8),(∀ i,i<l.length→(l.getD i []).length=64)→∀ i j,i<l.length→j<64→(flatY l)[i * 64+j]?=some (y8 ((l.getD i []).getD j 0))
 | [],_,_,_,h,_=>by simp at h
 | b::l,h,0,j,_,hj=>by
   have h0:b.length=64:=by simpa using h 0 (by simp)
   show (b.map y8++flatY l)[0 * 64+j]?=_
   rw [Nat.zero_mul,Nat.zero_add,List.getElem?_append_left (by simp;omega)]
   simp [h0,hj]
 | b::l,h,i+1,j,hi,hj=>by
   have h0:b.length=64:=by simpa using h 0 (by simp)
   have ih:=flatY_get l (fun i hi=>by simpa using h (i+1) (by simp;omega)) i j (by simpa using hi) hj
   show (b.map y8++flatY l)[(i+1) * 64+j]?=_
   rw [List.getElem?_append_right (by simp;omega)]
   rw [show (i+1) * 64+j - (b.map y8).length=i * 64+j by simp;omega,ih]
   simp
theorem flatY_app (l m:List B8):flatY (l++m)=flatY l++flatY m:=by simp [flatY]
theorem flatY_one (b:B8):flatY [b]=b.map y8:=by simp [flatY]
theorem flatY_set (l:List B8) (i:Nat) (b:B8) (hi:i<l.length):flatY (l.set i b)=flatY (l.take i)++b.map y8++flatY (l.drop (i+1)):=by
 rw [List.set_eq_take_append_cons_drop,if_pos hi,flatY_app]
 show flatY (l.take i)++(b.map y8++flatY (l.drop (i+1)))=_
 rw [List.append_assoc]
theorem flatY_at (l:List B8) (i:Nat) (hi:i<l.length):flatY l=flatY (l.take i)++(l.getD i []).map y8++flatY (l.drop (i+1)):=by
 rw [← flatY_set l i _ hi]
 congr 1
 apply List.ext_getElem? ;intro j
 rw [List.getElem?_set]
 split
 · subst_vars;simp [hi]
 · rfl
theorem setCells_heap {r:Nat} {T:TypeId}:∀ (l:List Value) (i:Nat) (w:World) (pre old post:List Value),pre.length=i→old.length=l.length→w.heap[r]?=some (.cells (pre++old++post).toArray T (0,0)) →
 (w.setCells r i l).heap[r]?=some (.cells (pre++l++post).toArray T (0,0))
 | [],i,w,pre,old,post,_,ho,h=>by
   obtain rfl:old=[]:=List.length_eq_zero_iff.1 (by simpa using ho)
   exact h
 | v::l,i,w,pre,o::old,post,hp,ho,h=>by
   have h1:=blk_set h i v
   have e:((pre++o::old++post).toArray.setIfInBounds i v)=((pre++[v])++old++post).toArray:=by
    subst hp
    simp
   rw [e] at h1
   have h2:=setCells_heap l (i+1) (w.setCell ⟨r,i,none⟩ v) (pre++[v]) old post (by simp [hp]) (by simpa using ho) h1
   rw [List.append_assoc pre [v] l] at h2
   exact h2
 | _::_,_,_,_,[],_,_,ho,_=>by simp at ho
theorem setCells_mod {S:List Nat} {w0:World} {r:Nat} (hr:r<w0.heap.size→r∈S):∀ (l:List Value) (i:Nat) (w:World),Mod S w0 w→Mod S w0 (w.setCells r i l)
 | [],_,_,h=>h
 | v::l,i,_,h=>setCells_mod hr l (i+1) _ (h.setCell hr v)

/-! ### a disk in memory: its block, the sectors' block -/
def dkCells (bs c:Nat) (d:Dk):Array Value:=#[.slice (some ⟨bs,0,none⟩) d.secs.length c,.int .i64 d.writes,.bool d.armed,.int .i64 d.left,.bool d.off]
structure DkM (w:World) (pd bs:Nat) (d:Dk):Prop where
 blk:∃ c,w.heap[pd]?=some (.cells (dkCells bs c d) 78 (0,0))∧w.ownsRow bs 114 64 (.slice (some ⟨bs,0,none⟩) d.secs.length c) d.secs.length (flatY d.secs)
 ok:d.Ok
 ne:pd≠bs
theorem DkM.mod {w w':World} {pd bs:Nat} {d:Dk} (h:DkM w pd bs d) {S:List Nat} (m:Mod S w w') (h1:pd ∉ S) (h2:bs ∉ S):DkM w' pd bs d:=by
 obtain ⟨c,hb,hr⟩:=h.blk
 exact ⟨⟨c,m.at_ hb h1,m.row hr (fun k hk e=>h2 (by simp [Value.ownBlock] at hk;subst hk;exact e))⟩,h.ok,h.ne⟩
theorem DkM.gr {w w':World} {pd bs:Nat} {d:Dk} (h:DkM w pd bs d) (g:Gr w w'):DkM w' pd bs d:=h.mod (g.mod []) (by simp) (by simp)
theorem DkM.lt {w:World} {pd bs:Nat} {d:Dk} (h:DkM w pd bs d):pd<w.heap.size∧bs<w.heap.size:=by
 obtain ⟨c,hb,hr⟩:=h.blk
 exact ⟨lt_of_block hb,(World.ownsRow.lt hr bs rfl).2⟩
theorem DkM.range {w:World} {pd bs:Nat} {d:Dk} (h:DkM w pd bs d) {i:Nat} (hi:i<d.secs.length):w.rangeAt bs (i * 64) ((d.secs.getD i []).map y8):=by
 obtain ⟨c,hb,hr⟩:=h.blk
 intro j v hv
 have h64:=h.ok.all i hi
 have hj:j<64:=by
  have:=(List.getElem?_eq_some_iff.1 hv).1
  rw [List.length_map] at this
  omega
 have hlt:i * 64+j<d.secs.length * 64:=by omega
 rw [hr.cellAt (i * 64+j) hlt]
 have e:=flatY_get d.secs h.ok.all i j hi hj
 have e2:=map_y8_get (d.secs.getD i []) (j:=j) (by omega)
 rw [e2] at hv
 cases hv
 exact e
theorem DkM.there {w:World} {pd bs:Nat} {d:Dk} (h:DkM w pd bs d) {i:Nat} (hi:i<d.secs.length):w.there bs (i * 64) 64:=by
 intro j hj
 have h64:=h.ok.all i hi
 have hv:=map_y8_get (d.secs.getD i []) (j:=j) (by omega)
 obtain ⟨c,hb,hr⟩:=h.blk
 exact ⟨by rw [h.range hi j _ hv];rfl,hr.frozenAt _⟩
theorem row_set {w:World} {bs n c:Nat} {l:List B8} {i:Nat} {b:B8} (hn:n=l.length) (hall:∀ i,i<l.length→(l.getD i []).length=64) (hr:w.ownsRow bs 114 64 (.slice (some ⟨bs,0,none⟩) n c) n (flatY l)) (hi:i<l.length) (hb:b.length=64) :
 (w.setCells bs (i * 64) (b.map y8)).ownsRow bs 114 64 (.slice (some ⟨bs,0,none⟩) n c) n (flatY (l.set i b)):=by
 subst hn
 rcases hr.2 with ⟨hv,_⟩ | ⟨g,cap,cur,hv,hg0,hg,hh1,hh2,hs,ht⟩
 · cases hv
 · simp only [Value.slice.injEq,Option.some.injEq,Addr.mk.injEq,and_true,true_and] at hv
   obtain ⟨rfl,rfl⟩:=hv
   have hfl:=flatY_len l hall
   have hti:(flatY (l.take i)).length=i * 64:=by
    rw [flatY_len]
    · rw [List.length_take,Nat.min_eq_left (by omega)]
    · intro j hj
      have hj':j<i:=by simp at hj;omega
      have:=hall j (by omega)
      rw [← this]
      congr 1
      simp [List.getD,hj']
   have e:cur=(flatY (l.take i)++(l.getD i []).map y8++(flatY (l.drop (i+1))++cur.toList.drop (l.length * 64))).toArray:=by
    rw [← List.append_assoc,← flatY_at l i hi,← ht,List.take_append_drop]
   rw [e] at hg
   have h2:=setCells_heap (b.map y8) (i * 64) w (flatY (l.take i)) ((l.getD i []).map y8) _ hti (by simp [hb];exact hall i hi) hg
   have hall2:∀ j,j<(l.set i b).length→((l.set i b).getD j []).length=64:=fun j hj=>by
    rw [getD_set _ _ _ _ hi]
    split
    · exact hb
    · exact hall j (by simpa using hj)
   have hfl2:=flatY_len _ hall2
   rw [List.length_set] at hfl2
   refine ⟨hfl2,.inr ⟨bs,c,_,rfl,Nat.le_refl _,h2,hh1,hh2,?_,?_⟩⟩
   · have e':=congrArg Array.size e
     rw [hs] at e'
     rw [e']
     simp only [List.size_toArray,List.length_append,List.length_map,hb,hall i hi]
   · rw [List.toList_toArray,← List.append_assoc,← flatY_set l i b hi]
     rw [List.take_append_of_le_length (by omega),List.take_of_length_le (by omega)]
end Go.Proofs.YtpphoeimakjjdaaGreatDoor
