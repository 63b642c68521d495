/-
  GtA GtB GtAw GtRn GtRr GtRu GtRe GtGp GtRq: see the remarks below.
-/
import Derived.Test.YtllljngpgjkdiaaGreatDoorMLedSame
import Derived.Test.YtllljngpgjkdiaaGreatDoorMDisk2
/-
  PLAIN, NO WALK: layer 16: a grant's stamp anew; a grant more: what holds of every grantor stays.
-/
namespace Go.Proofs.YtllljngpgjkdiaaGreatDoor
open Go.RowKit

def setSt (id:Int) (s:List Int) (x:Grt):Grt:=if x.id=id then { x with stamp:=s } else x
theorem set_map {l:List Grt} (hs:SrtG l) {id:Int} (h:hasG l id=true) (s:List Int):setG l id s=l.map (setSt id s):=by
 induction l with
 | nil=>simp [hasG] at h
 | cons x r ih =>
   have h':=List.pairwise_cons.1 hs
   unfold setG
   rw [posG_cons]
   by_cases e:x.id<id
   · rw [if_pos e]
     have hr:hasG r id=true:=by
      obtain ⟨y,hy,he⟩:=hasG_iff.1 h
      rcases List.mem_cons.1 hy with rfl | hy
      · omega
      · exact hasG_iff.2 ⟨y,hy,he⟩
     have hx:setSt id s x=x:=if_neg (by omega)
     have:=ih h'.2 hr
     unfold setG at this
     rw [List.map_cons,hx,← this]
     simp
   · rw [if_neg e]
     have hx:x.id=id:=by
      obtain ⟨y,hy,he⟩:=hasG_iff.1 h
      rcases List.mem_cons.1 hy with rfl | hy
      · exact he
      · have:=h'.1 y hy
        omega
     have hr:r.map (setSt id s)=r:=by
      conv=>rhs;rw [← List.map_id r]
      refine List.map_congr_left fun y hy=>?_
      have:=h'.1 y hy
      exact if_neg (by omega)
     rw [List.map_cons,hr]
     simp [setSt,hx]
theorem fresh_apply {b:Bk} {id:Int} {s:List Int} (a:(applyB b (recF id s)).2=0):hasG b.grants id=true∧lastI s=b.next∧(applyB b (recF id s)).1={ b with next:=b.next+1,grants:=setG b.grants id s }:=by
 obtain ⟨h1,h2,h3,cc,h4⟩:=apply_zero.1 a
 rw [apply_eq h1 h2 h3 h4]
 unfold changeB recF at h4
 simp only [Rcd.zero] at h4
 rw [if_neg (by decide),if_neg (by decide),if_neg (by decide),if_neg (by decide),if_pos (by decide)] at h4
 split at h4
 · rename_i e;exact ⟨e.1,e.2,(Option.some.inj h4).symm⟩
 · cases h4
theorem grant_apply {b:Bk} {x:Grt} (a:(applyB b (recG x)).2=0):x.id=b.next∧(applyB b (recG x)).1={ b with next:=b.next+1,grants:=putG b.grants x }:=by
 obtain ⟨h1,h2,h3,cc,h4⟩:=apply_zero.1 a
 rw [apply_eq h1 h2 h3 h4]
 unfold changeB recG at h4
 simp only [Rcd.zero] at h4
 rw [if_neg (by decide),if_neg (by decide),if_pos (by decide)] at h4
 split at h4
 · rename_i e;exact ⟨e,(Option.some.inj h4).symm⟩
 · cases h4
theorem GI.idlt {g:Gtr} (h:GI g) {x:Grt} (hx:x∈g.l.book.grants):x.id<g.l.book.next:=by
 obtain ⟨h1,h2,_⟩:=h.gr hx
 have:=(grant_iff.1 h1).2.2.2.2.2.1
 omega
theorem GI.fresh {g:Gtr} (h:GI g) (d:Dk) (id:Int) (s:List Int) :
 GI { g with l:=(appendD d g.l (recF id s)).2.2 }∧(appendD d g.l (recF id s)).2.1.secs.length=d.secs.length∧((appendD d g.l (recF id s)).1=0→lastI s=g.l.book.next∧(appendD d g.l (recF id s)).2.2.book={ g.l.book with next:=g.l.book.next+1,grants:=g.l.book.grants.map (setSt id s) }) ∧
  ((appendD d g.l (recF id s)).1≠0→(appendD d g.l (recF id s)).2.2.book=g.l.book):=by
 have hlen:=append_len d g.l (recF id s)
 by_cases h0:(appendD d g.l (recF id s)).1=0
 · obtain ⟨a,b,c⟩:=append_zero h.lok h0
   obtain ⟨hg,hl,he⟩:=fresh_apply a
   rw [he,set_map h.srtG hg] at b
   refine ⟨⟨c,?_,h.srt,?_⟩,hlen,fun _=>⟨hl,b⟩,fun e=>absurd h0 e⟩
   · show g.es.Perm _
     rw [b]
     simp only [List.map_map]
     refine h.es.trans (.of_eq (List.map_congr_left fun x _=>?_))
     show entOf x=entOf (setSt id s x)
     unfold setSt
     split <;> rfl
   · show (g.nt.map Prod.fst).Perm _
     rw [b]
     simp only [List.map_map]
     refine h.keys.trans (.of_eq (List.map_congr_left fun x _=>?_))
     show x.id=(setSt id s x).id
     unfold setSt
     split <;> rfl
 · obtain ⟨b,c⟩:=append_book h.lok h0
   exact ⟨h.led c (by rw [b]),hlen,fun e=>absurd e h0,fun _=>b⟩
theorem GI.grant {g:Gtr} (h:GI g) (d:Dk) {x:Grt} (e:Int) :
 (appendD d g.l (recG x)).2.1.secs.length=d.secs.length∧((appendD d g.l (recG x)).1=0→GI (keepG { g with l:=(appendD d g.l (recG x)).2.2 } x e)∧x.id=g.l.book.next∧grantB x=true∧(appendD d g.l (recG x)).2.2.book={ g.l.book with next:=g.l.book.next+1,grants:=g.l.book.grants++[x] }) ∧
   ((appendD d g.l (recG x)).1≠0→GI { g with l:=(appendD d g.l (recG x)).2.2 }∧(appendD d g.l (recG x)).2.2.book=g.l.book):=by
 refine ⟨append_len d g.l (recG x),fun h0=>?_,fun h0=>?_⟩
 · obtain ⟨a,b,c⟩:=append_zero h.lok h0
   obtain ⟨hid,he⟩:=grant_apply a
   have hgb:grantB x=true:=by
    have:=(apply_zero.1 a).2.1
    unfold mayB recG at this
    simp only [Rcd.zero] at this
    rw [if_neg (by decide),if_neg (by decide),if_pos (by decide)] at this
    simp only [Bool.and_eq_true] at this
    exact this.2.1
   rw [he,putG_end (fun y hy=>by rw [hid];exact h.idlt hy)] at b
   have hsix:=h.six
   obtain ⟨k1,k2,k3⟩:=keep_step (e:=e) (led:=(appendD d g.l (recG x)).2.2) (ends:=g.ends) h.es h.srt h.keys hgb (by omega) (fun y hy=>by have:=h.idlt hy;omega)
   exact ⟨⟨c,by show (keepG ⟨(appendD d g.l (recG x)).2.2,g.es,g.nt,g.ends⟩ x e).es.Perm ((appendD d g.l (recG x)).2.2.book.grants.map entOf);rw [b];exact k1,k2,by show ((keepG ⟨(appendD d g.l (recG x)).2.2,g.es,g.nt,g.ends⟩ x e).nt.map Prod.fst).Perm ((appendD d g.l (recG x)).2.2.book.grants.map Grt.id);rw [b];exact k3⟩,hid,hgb,b⟩
 · obtain ⟨b,c⟩:=append_book h.lok h0
   exact ⟨h.led c (by rw [b]),b⟩
theorem GI.raise {g:Gtr} (h:GI g) {id:Int} (hx:∃ x,x∈g.l.book.grants∧x.id=id) (e:Int):GI (raiseG g id e):=by
 obtain ⟨x,hx,rfl⟩:=hx
 exact h.note hx _
theorem mem_setSt {l:List Grt} {id:Int} {s:List Int} {k:Int} (h:∃ x,x∈l∧x.id=k):∃ x,x∈l.map (setSt id s)∧x.id=k:=by
 obtain ⟨x,hx,rfl⟩:=h
 refine ⟨setSt id s x,List.mem_map.2 ⟨x,hx,rfl⟩,?_⟩
 unfold setSt
 split <;> rfl
end Go.Proofs.YtllljngpgjkdiaaGreatDoor
/-
  PLAIN, NO WALK: layer 16: while the power stays, what a call does hangs on the book, the set, the notes and the end alone.
-/
namespace Go.Proofs.YtllljngpgjkdiaaGreatDoor
open Go.RowKit

def apM (l:Lg) (r:Rcd):Int × Lg:=if (applyB l.book r).2=0 then (0,{ l with book:=(applyB l.book r).1 }) else ((applyB l.book r).2,l)
def longM (g:Gtr) (t:Int):Int × Gtr:=if t≤g.l.book.longest then (0,g) else ((apM g.l (recL t)).1,{ g with l:=(apM g.l (recL t)).2 })
def overM (g:Gtr) (id:Int):Int × Gtr:=if (apM g.l (recE id)).1=0 then (0,⟨(apM g.l (recE id)).2,dropS5 g.es id,ntDel g.nt id,g.ends⟩) else ((apM g.l (recE id)).1,{ g with l:=(apM g.l (recE id)).2 })
def sweepM (now:Int):List Int→Gtr→Int × Gtr
 | [],g=>(0,g)
 | id::r,g=>if now<(ntAt g.nt id).exp then sweepM now r g else if (overM g id).1=0 then sweepM now r (overM g id).2 else overM g id
def roomM (g:Gtr) (r:Req):Int:=if 0<(unexp g.nt ((g.es.filter (standsB r.path.data.toList r.mode r.holder)).map Ent.id) r.now).length then 60 else if 6≤(unexp g.nt ((g.es.filter fun e=>coversB [] e.bs).map Ent.id) r.now).length then 51 else 0
def preM (g:Gtr) (r:Req):Int:=firstI [numbersI r,wordsI r,lengthI r,restedI g r.now,borneI r,deepI r,outlastsI r,roomM g r,countsI g]
theorem unexp_sort (nt:List (Int × Nt)) (l:List Int) (now:Int):(unexp nt (sortI l) now).length=(unexp nt l now).length:=((sortI_perm l).filter _).length_eq
theorem room_eq (g:Gtr) (r:Req):roomI g r=roomM g r:=by
 unfold roomI roomM clashS5 underS5
 rw [unexp_sort,unexp_sort]
theorem pre_eq (g:Gtr) (r:Req):preI g r=preM g r:=by
 unfold preI preM
 rw [room_eq]
def blocksM (g:Gtr) (now:Int) (path:List UInt8) (mode:Int):Bool:=decide (0<(unexp g.nt ((g.es.filter (standsB path mode (-1))).map Ent.id) now).length)
theorem blocks_eqM (g:Gtr) (now:Int) (path:List UInt8) (mode:Int):blocksG g now path mode=blocksM g now path mode:=by
 unfold blocksG blocksM clashS5
 rw [unexp_sort]
def writeM (g:Gtr) (r:Req):Int × Gtr:=if (longM g r.t).1=0 then sweepM r.now ((longM g r.t).2.l.book.grants.map Grt.id) (longM g r.t).2 else longM g r.t
def grantM (g:Gtr) (r:Req):Grt × Int × Gtr :=
 if preM g r≠0 then (Grt.zero,preM g r,g) else if (writeM g r).1≠0 then (Grt.zero,writeM g r) else
  if (apM (writeM g r).2.l (recG (grantOf (writeM g r).2 r))).1≠0 then (Grt.zero,(apM (writeM g r).2.l (recG (grantOf (writeM g r).2 r))).1,{ (writeM g r).2 with l:=(apM (writeM g r).2.l (recG (grantOf (writeM g r).2 r))).2 })
  else (grantOf (writeM g r).2 r,0,keepG { (writeM g r).2 with l:=(apM (writeM g r).2.l (recG (grantOf (writeM g r).2 r))).2 } (grantOf (writeM g r).2 r) (r.now+r.t))
def renewM (g:Gtr) (now:Int) (own:Lease) (id holder t:Int) (fresh:Bool):Grt × Int × Gtr :=
 if preR g (reqOf now holder t own (heldG g id)) (heldG g id) fresh≠0 then (Grt.zero,preR g (reqOf now holder t own (heldG g id)) (heldG g id) fresh,g) else if (longM g t).1≠0 then (Grt.zero,longM g t) else
  if fresh=true then
   if (apM (longM g t).2.l (recF id (extS own.stamp (longM g t).2.l.book.next))).1≠0 then (Grt.zero,(apM (longM g t).2.l (recF id (extS own.stamp (longM g t).2.l.book.next))).1,{ (longM g t).2 with l:=(apM (longM g t).2.l (recF id (extS own.stamp (longM g t).2.l.book.next))).2 })
   else (shownG (raiseG { (longM g t).2 with l:=(apM (longM g t).2.l (recF id (extS own.stamp (longM g t).2.l.book.next))).2 } id (now+t)) id,0,raiseG { (longM g t).2 with l:=(apM (longM g t).2.l (recF id (extS own.stamp (longM g t).2.l.book.next))).2 } id (now+t))
  else (shownG (raiseG (longM g t).2 id (now+t)) id,0,raiseG (longM g t).2 id (now+t))
theorem firstI_mem:∀ {l:List Int},firstI l=0→∀ k,k∈l→k=0
 | [],_,k,hk=>by cases hk
 | x::r,h,k,hk=>by
   unfold firstI at h
   by_cases hx:x=0
   · rw [if_pos hx] at h
     rcases List.mem_cons.1 hk with e | e
     · rw [e];exact hx
     · exact firstI_mem h k e
   · rw [if_neg hx] at h;exact absurd h hx
structure Sm (g g0:Gtr):Prop where
 bk:g.l.book=g0.l.book
 es:g.es=g0.es
 nt:g.nt=g0.nt
 ends:g.ends=g0.ends
structure Al (d:Dk) (g:Gtr) (G:Nat):Prop where
 gi:GI g
 lg:LgS d g.l G
 arm:d.armed=false
 off:d.off=false
theorem Al.mono {d:Dk} {g:Gtr} {G H:Nat} (h:Al d g G) (k:G≤H):Al d g H:=⟨h.gi,h.lg.mono k,h.arm,h.off⟩
theorem Al.n49 {d:Dk} {g:Gtr} {G:Nat} (h:Al d g G):49≤d.secs.length:=h.lg.n49
section
variable {d:Dk} {g g0:Gtr} {G:Nat}
theorem sim_append (h:Al d g G) (s:Sm g g0) (hG:G+1<1073741824) (r:Rcd):(appendD d g.l r).1=(apM g0.l r).1∧(appendD d g.l r).2.2.book=(apM g0.l r).2.book∧LgS (appendD d g.l r).2.1 (appendD d g.l r).2.2 (G+1)∧(appendD d g.l r).2.1.armed=false∧(appendD d g.l r).2.1.off=false:=by
 obtain ⟨h1,h2,h3,h4⟩:=h.lg.append hG r
 have hnd:g.l.dead=false:=by
  cases e:g.l.dead with
  | false=>rfl
  | true=>have:=h.lg.dead_off e;rw [h.off] at this;cases this
 unfold apM
 rw [← s.bk]
 cases h3 with
 | ok a b c o w =>
   rw [if_pos b]
   exact ⟨a,c,h1,h2.arm h.arm,o⟩
 | cut a b o c =>
   rcases c with c | c
   · rw [hnd] at c;cases c
   · rw [h.arm] at c;cases c
 | bad a b c e o =>
   rcases c with c | c
   · rw [if_neg (by rw [← c];exact a)]
     exact ⟨c,by rw [e];exact s.bk,h1,h2.arm h.arm,by rw [e];exact h.off⟩
   · exact absurd c h4
theorem sim_long (h:Al d g G) (s:Sm g g0) (hG:G+1<1073741824) (t:Int):(longG d g t).1=(longM g0 t).1∧Sm (longG d g t).2.2 (longM g0 t).2∧Al (longG d g t).2.1 (longG d g t).2.2 (G+1):=by
 have hi:=(h.gi.long d t).1
 unfold longG longM at *
 rw [← s.bk]
 by_cases e:t≤g.l.book.longest
 · rw [if_pos e,if_pos e]
   exact ⟨rfl,s,h.mono (Nat.le_succ _)⟩
 · rw [if_neg e] at hi ⊢
   rw [if_neg e]
   obtain ⟨a,b,c,f,o⟩:=sim_append h s hG (recL t)
   exact ⟨a,⟨b,s.es,s.nt,s.ends⟩,⟨hi,c,f,o⟩⟩
theorem sim_over (h:Al d g G) (s:Sm g g0) (hG:G+1<1073741824) (id:Int):(overG d g id).1=(overM g0 id).1∧Sm (overG d g id).2.2 (overM g0 id).2∧Al (overG d g id).2.1 (overG d g id).2.2 (G+1):=by
 have hi:=(h.gi.over d id).1
 obtain ⟨a,b,c,f,o⟩:=sim_append h s hG (recE id)
 unfold overG overM at *
 dsimp only at *
 rw [← a]
 by_cases e:(appendD d g.l (recE id)).1=0
 · rw [if_pos e] at hi ⊢
   rw [if_pos e]
   exact ⟨rfl,⟨b,by rw [s.es],by rw [s.nt],s.ends⟩,⟨hi,c,f,o⟩⟩
 · rw [if_neg e] at hi ⊢
   rw [if_neg e]
   exact ⟨rfl,⟨b,s.es,s.nt,s.ends⟩,⟨hi,c,f,o⟩⟩
end
theorem sim_sweep (now:Int):∀ (ids:List Int) {d:Dk} {g g0:Gtr} {G:Nat},Al d g G→Sm g g0→G+ids.length<1073741824→(sweepG now ids d g).1=(sweepM now ids g0).1∧Sm (sweepG now ids d g).2.2 (sweepM now ids g0).2∧Al (sweepG now ids d g).2.1 (sweepG now ids d g).2.2 (G+ids.length)
 | [],d,g,g0,G,h,s,_=>⟨rfl,s,h⟩
 | id::r,d,g,g0,G,h,s,hG=>by
   simp only [List.length_cons] at hG ⊢
   unfold sweepG sweepM
   rw [← s.nt]
   by_cases e:now<(ntAt g.nt id).exp
   · rw [if_pos e,if_pos e]
     obtain ⟨a,b,c⟩:=sim_sweep now r h s (by omega)
     exact ⟨a,b,c.mono (by omega)⟩
   · rw [if_neg e,if_neg e]
     obtain ⟨a,b,c⟩:=sim_over h s (by omega) id
     rw [← a]
     by_cases e2:(overG d g id).1=0
     · rw [if_pos e2,if_pos e2]
       obtain ⟨a2,b2,c2⟩:=sim_sweep now r c b (by omega)
       exact ⟨a2,b2,c2.mono (by omega)⟩
     · rw [if_neg e2,if_neg e2]
       exact ⟨a,b,c.mono (by omega)⟩
section
variable {d:Dk} {g g0:Gtr} {G:Nat}
theorem sim_write (h:Al d g G) (s:Sm g g0) (hG:G+7<1073741824) (r:Req):(writeG d g r).1=(writeM g0 r).1∧Sm (writeG d g r).2.2 (writeM g0 r).2∧Al (writeG d g r).2.1 (writeG d g r).2.2 (G+7):=by
 obtain ⟨a,b,c⟩:=sim_long h s (by omega) r.t
 unfold writeG writeM
 dsimp only
 rw [← a,← b.bk,c.gi.under]
 by_cases e:(longG d g r.t).1=0
 · rw [if_pos e,if_pos e]
   have hl:((longG d g r.t).2.2.l.book.grants.map Grt.id).length≤6:=by rw [List.length_map];exact c.gi.six
   obtain ⟨a2,b2,c2⟩:=sim_sweep r.now ((longG d g r.t).2.2.l.book.grants.map Grt.id) c b (by omega)
   exact ⟨a2,b2,c2.mono (by omega)⟩
 · rw [if_neg e,if_neg e]
   exact ⟨a,b,c.mono (by omega)⟩
theorem Sm.pre (s:Sm g g0) (r:Req):preI g r=preI g0 r:=by
 unfold preI restedI roomI countsI
 rw [s.bk,s.es,s.nt,s.ends]
theorem Sm.list (s:Sm g g0):listG g=listG g0:=by
 unfold listG
 rw [s.bk,s.nt]
theorem Sm.held (s:Sm g g0) (id:Int):heldG g id=heldG g0 id:=by
 unfold heldG
 rw [s.list]
theorem Sm.preR (s:Sm g g0) (r:Req) (o:Option Hld) (f:Bool):preR g r o f=preR g0 r o f:=by
 unfold Go.Proofs.YtllljngpgjkdiaaGreatDoor.preR countsI
 rw [s.bk]
theorem Sm.raise (s:Sm g g0) (id e:Int):Sm (raiseG g id e) (raiseG g0 id e):=⟨s.bk,s.es,by unfold raiseG;rw [s.nt],s.ends⟩
theorem Sm.shown (s:Sm g g0) (id:Int):shownG g id=shownG g0 id:=by
 unfold shownG
 rw [s.held]
theorem Sm.blocks (s:Sm g g0) (now:Int) (p:List UInt8) (m:Int):blocksG g now p m=blocksG g0 now p m:=by
 unfold blocksG
 rw [s.es,s.nt]
theorem sim_grant (h:Al d g G) (s:Sm g g0) (hG:G+8<1073741824) (r:Req):(grantG d g r).1=(grantM g0 r).1∧(grantG d g r).2.1=(grantM g0 r).2.1∧Sm (grantG d g r).2.2.2 (grantM g0 r).2.2∧Al (grantG d g r).2.2.1 (grantG d g r).2.2.2 (G+8):=by
 unfold grantG grantM
 dsimp only
 rw [← pre_eq,← s.pre r]
 by_cases e0:preI g r≠0
 · rw [if_pos e0,if_pos e0]
   exact ⟨rfl,rfl,s,h.mono (by omega)⟩
 rw [if_neg e0,if_neg e0]
 obtain ⟨a,b,c⟩:=sim_write h s (by omega) r
 rw [← a]
 by_cases e1:(writeG d g r).1≠0
 · rw [if_pos e1,if_pos e1]
   exact ⟨rfl,a,b,c.mono (by omega)⟩
 rw [if_neg e1,if_neg e1]
 have hx:grantOf (writeM g0 r).2 r=grantOf (writeG d g r).2.2 r:=by unfold grantOf;rw [b.bk]
 rw [hx]
 obtain ⟨a2,b2,c2,f2,o2⟩:=sim_append c b (by omega) (recG (grantOf (writeG d g r).2.2 r))
 obtain ⟨-,k1,k2⟩:=c.gi.grant (writeG d g r).2.1 (x:=grantOf (writeG d g r).2.2 r) (r.now+r.t)
 rw [← a2]
 by_cases e2:(appendD (writeG d g r).2.1 (writeG d g r).2.2.l (recG (grantOf (writeG d g r).2.2 r))).1≠0
 · rw [if_pos e2,if_pos e2]
   exact ⟨rfl,rfl,⟨b2,b.es,b.nt,b.ends⟩,⟨(k2 e2).1,c2,f2,o2⟩⟩
 · rw [if_neg e2,if_neg e2]
   refine ⟨rfl,rfl,⟨b2,?_,?_,b.ends⟩,⟨(k1 (Decidable.not_not.1 e2)).1,c2,f2,o2⟩⟩
   · show (putS5 (writeG d g r).2.2.es _).1=(putS5 (writeM g0 r).2.es _).1;rw [b.es]
   · show ntSet (writeG d g r).2.2.nt _ _=ntSet (writeM g0 r).2.nt _ _;rw [b.nt]
theorem preR_held {g:Gtr} {r:Req} {id:Int} {f:Bool} (h:preR g r (heldG g id) f=0):∃ x,x∈g.l.book.grants∧x.id=id:=by
 have q:=firstI_mem h (knownI (heldG g id) r.now r.holder) (by simp)
 obtain ⟨o,ho⟩:∃ o,heldG g id=o:=⟨_,rfl⟩
 rw [ho] at q
 cases o with
 | none=>simp [knownI] at q
 | some x =>
   unfold heldG at ho
   have h1:=List.mem_of_find?_eq_some ho
   have h2:=List.find?_some ho
   unfold listG at h1
   obtain ⟨y,hy,rfl⟩:=List.mem_map.1 h1
   exact ⟨y,hy,of_decide_eq_true h2⟩
theorem sim_renew (h:Al d g G) (s:Sm g g0) (hG:G+8<1073741824) (now:Int) (own:Lease) (id holder t:Int) (fresh:Bool) :
 (renewG d g now own id holder t fresh).1=(renewM g0 now own id holder t fresh).1∧(renewG d g now own id holder t fresh).2.1=(renewM g0 now own id holder t fresh).2.1∧Sm (renewG d g now own id holder t fresh).2.2.2 (renewM g0 now own id holder t fresh).2.2∧Al (renewG d g now own id holder t fresh).2.2.1 (renewG d g now own id holder t fresh).2.2.2 (G+8):=by
 unfold renewG renewM
 dsimp only
 rw [← s.held id,← s.preR]
 by_cases e0:preR g (reqOf now holder t own (heldG g id)) (heldG g id) fresh≠0
 · rw [if_pos e0,if_pos e0]
   exact ⟨rfl,rfl,s,h.mono (by omega)⟩
 rw [if_neg e0,if_neg e0]
 obtain ⟨x,hx,hid⟩:=preR_held (Decidable.not_not.1 e0)
 obtain ⟨a,b,c⟩:=sim_long h s (by omega) t
 have hgr:=(h.gi.long d t).2.2.2.2.1
 have hin:∃ x,x∈(longG d g t).2.2.l.book.grants∧x.id=id:=⟨x,by rw [hgr];exact hx,hid⟩
 rw [← a]
 by_cases e1:(longG d g t).1≠0
 · rw [if_pos e1,if_pos e1]
   exact ⟨rfl,a,b,c.mono (by omega)⟩
 rw [if_neg e1,if_neg e1]
 cases fresh with
 | true =>
   rw [if_pos rfl,if_pos rfl,← b.bk]
   obtain ⟨a2,b2,c2,f2,o2⟩:=sim_append c b (by omega) (recF id (extS own.stamp (longG d g t).2.2.l.book.next))
   obtain ⟨k1,-,k3,-⟩:=c.gi.fresh (longG d g t).2.1 id (extS own.stamp (longG d g t).2.2.l.book.next)
   rw [← a2]
   have s2:Sm { (longG d g t).2.2 with l:=(appendD (longG d g t).2.1 (longG d g t).2.2.l (recF id (extS own.stamp (longG d g t).2.2.l.book.next))).2.2 } { (longM g0 t).2 with l:=(apM (longM g0 t).2.l (recF id (extS own.stamp (longG d g t).2.2.l.book.next))).2 }:=⟨b2,b.es,b.nt,b.ends⟩
   by_cases e2:(appendD (longG d g t).2.1 (longG d g t).2.2.l (recF id (extS own.stamp (longG d g t).2.2.l.book.next))).1≠0
   · rw [if_pos e2,if_pos e2]
     exact ⟨rfl,rfl,s2,⟨k1,c2.mono (by omega),f2,o2⟩⟩
   · rw [if_neg e2,if_neg e2]
     have hin2:∃ x,x∈(appendD (longG d g t).2.1 (longG d g t).2.2.l (recF id (extS own.stamp (longG d g t).2.2.l.book.next))).2.2.book.grants∧x.id=id:=by
      rw [(k3 (Decidable.not_not.1 e2)).2]
      exact mem_setSt hin
     exact ⟨(s2.raise id (now+t)).shown id,rfl,s2.raise id (now+t),⟨k1.raise hin2 (now+t),c2.mono (by omega),f2,o2⟩⟩
 | false =>
   rw [if_neg (by decide),if_neg (by decide)]
   exact ⟨(b.raise id (now+t)).shown id,rfl,b.raise id (now+t),⟨c.gi.raise hin (now+t),c.lg.mono (by omega),c.arm,c.off⟩⟩
end
end Go.Proofs.YtllljngpgjkdiaaGreatDoor
/-
  PLAIN, NO WALK: layer 16: a grantor of a new disk; what the document's examples answer.
-/
namespace Go.Proofs.YtllljngpgjkdiaaGreatDoor
open Go.RowKit

def gF:Gtr:=⟨newL,[],[],0⟩
theorem fresh_law:∃ d1,openD (newD 49)=(0,d1,some newL)∧Al d1 gF 1∧d1.writes=1∧openG newL 0=gF:=by
 obtain ⟨d1,h1,h2,h3,h4⟩:=calm_new (d:=newD 49) (n:=49) (by omega) (by omega) rfl rfl (newD_ok (by omega) (by omega)) rfl rfl
 have hg:openG newL 0=gF:=by kernel_rfl
 refine ⟨d1,h1,⟨?_,⟨h2.inv.lok,by omega,h2.gens,Nat.le_refl _,h2.inv.ok,.inl ⟨h2.off,rfl,h2.inv⟩⟩,h2.arm,h2.off⟩,h3,hg⟩
 rw [← hg]
 exact (open_GI h2.inv.lok 0).1
def rootL:Lease:=⟨0,0,⟨#[]⟩,2,[],0,0,4611686018427387904,false⟩
def r1:Req:=⟨10,1,100,rootL,⟨#[97]⟩,2⟩
def r2:Req:=⟨20,2,50,rootL,⟨#[97,47,98]⟩,1⟩
def r3:Req:=⟨20,1,50,rootL,⟨#[97,47,98]⟩,1⟩
def r5:Req:=⟨110,2,10,rootL,⟨#[97]⟩,2⟩
def s1:Gtr:=(grantM gF r1).2.2
def s2:Gtr:=(grantM s1 r2).2.2
def s3:Gtr:=(grantM s2 r3).2.2
def s4:Gtr:=(renewM s3 50 rootL 1 1 30 true).2.2
def s5:Gtr:=(grantM s4 r5).2.2
theorem aw1:(grantM gF r1).1=⟨1,1,⟨#[97]⟩,2,[1],100⟩∧(grantM gF r1).2.1=0:=⟨by kernel_rfl,by kernel_rfl⟩
theorem aw2:(grantM s1 r2).1=Grt.zero∧(grantM s1 r2).2.1=60:=⟨by kernel_rfl,by kernel_rfl⟩
theorem aw3:(grantM s2 r3).1=⟨2,1,⟨#[97,47,98]⟩,1,[2],50⟩∧(grantM s2 r3).2.1=0:=⟨by kernel_rfl,by kernel_rfl⟩
theorem aw4:(renewM s3 50 rootL 1 1 30 true).1=⟨1,1,⟨#[97]⟩,2,[3],100⟩∧(renewM s3 50 rootL 1 1 30 true).2.1=0:=⟨by kernel_rfl,by kernel_rfl⟩
theorem aw5:listG s4=[⟨⟨1,1,⟨#[97]⟩,2,[3],100⟩,110,0,0⟩,⟨⟨2,1,⟨#[97,47,98]⟩,1,[2],50⟩,70,0,0⟩]:=by kernel_rfl
theorem aw6:blocksG s4 50 (ByteArray.mk #[97,47,99]).data.toList 1=true∧blocksG s4 110 (ByteArray.mk #[97,47,99]).data.toList 1=false:=⟨by rw [blocks_eqM];kernel_rfl,by rw [blocks_eqM];kernel_rfl⟩
theorem aw7:(grantM s4 r5).1=⟨4,2,⟨#[97]⟩,2,[4],10⟩∧(grantM s4 r5).2.1=0:=⟨by kernel_rfl,by kernel_rfl⟩
theorem aw8:listG s5=[⟨⟨4,2,⟨#[97]⟩,2,[4],10⟩,120,0,0⟩]∧s5.ends=0:=⟨by kernel_rfl,by kernel_rfl⟩
theorem Sm.mark {g g0:Gtr} (s:Sm g g0) (id o n:Int):(markG g id o n).1=(markG g0 id o n).1∧Sm (markG g id o n).2 (markG g0 id o n).2:=by
 unfold markG
 rw [s.held]
 cases heldG g0 id with
 | none=>exact ⟨rfl,s⟩
 | some x =>
   dsimp only
   split
   · exact ⟨rfl,s⟩
   · exact ⟨rfl,⟨s.bk,s.es,by dsimp only;rw [s.nt],s.ends⟩⟩
theorem aw9:(markG s5 4 0 9).1=true∧(markG (markG s5 4 0 9).2 4 0 9).1=false:=⟨by kernel_rfl,by kernel_rfl⟩
theorem mark_GI {g:Gtr} (h:GI g) (id o n:Int):GI (markG g id o n).2:=by
 unfold markG
 cases e:heldG g id with
 | none=>exact h
 | some x =>
   dsimp only
   split
   · exact h
   · unfold heldG at e
     have h1:=List.mem_of_find?_eq_some e
     have h2:=List.find?_some e
     unfold listG at h1
     obtain ⟨y,hy,rfl⟩:=List.mem_map.1 h1
     have e2:y.id=id:=of_decide_eq_true h2
     rw [← e2]
     exact h.note hy _
end Go.Proofs.YtllljngpgjkdiaaGreatDoor
/-
  PLAIN, NO WALK: layer 16: what Grant and Renew do, whatever the power does; any run of calls.
-/
namespace Go.Proofs.YtllljngpgjkdiaaGreatDoor
open Go.RowKit

theorem lastI_snoc (s:List Int) (n:Int):lastI (s++[n])=n:=by
 unfold lastI
 simp
theorem grant_may {b:Bk} {r:Req} (hv:validB b=true) (h1:0≤r.holder∧r.holder<8) (h2:pathOk r.path.data.toList=true) (h3:modE r.mode=true) (h4:stampOk r.own.stamp) (h5:r.own.stamp.length<4) (h6:b.next≤1099511627776) (h7:legalT r.t) (h8:b.grants.length<6) :
 extS r.own.stamp b.next=r.own.stamp++[b.next]∧(applyB b (recG ⟨b.next,r.holder,r.path,r.mode,r.own.stamp++[b.next],r.t⟩)).2=0:=by
 have hn:countOk b.next:=⟨(heads_iff.1 (valid_iff.1 hv).1).1,h6⟩
 have hs:stampOk (r.own.stamp++[b.next]):=⟨by simp;omega,fun n hm=>by
  rcases List.mem_append.1 hm with e | e
  · exact h4.2 n e
  · rw [List.mem_singleton.1 e];exact hn⟩
 have hm:r.mode=1∨r.mode=2:=by simpa [modE] using h3
 have hg:grantB ⟨b.next,r.holder,r.path,r.mode,r.own.stamp++[b.next],r.t⟩=true:=grant_iff.2 ⟨hn,h1,h2,hm,by unfold stmB;rw [decide_eq_true hs];simp,by rw [lastI_snoc];exact Int.le_refl _,h7⟩
 refine ⟨if_pos ⟨h4,by omega,hn⟩,apply_zero.2 ⟨hv,?_,limit_zero.2 ⟨fun _=>h6,fun h=>by simp [recG] at h,fun _=>by omega⟩,{ b with next:=b.next+1,grants:=putG b.grants ⟨b.next,r.holder,r.path,r.mode,r.own.stamp++[b.next],r.t⟩ },?_⟩⟩
 · unfold mayB recG bareB noId
   simp only [Rcd.zero]
   rw [if_neg (by decide),if_neg (by decide),if_pos (by decide),hg,lastI_snoc]
   simp
 · unfold changeB recG
   simp only [Rcd.zero]
   rw [if_neg (by decide),if_neg (by decide),if_pos (by decide),if_pos trivial]
theorem fresh_may {b:Bk} {id:Int} {s:List Int} (hv:validB b=true) (hid:hasG b.grants id=true) (h4:stampOk s) (h5:s.length<4) (h6:b.next≤1099511627776):extS s b.next=s++[b.next]∧(applyB b (recF id (s++[b.next]))).2=0:=by
 have hn:countOk b.next:=⟨(heads_iff.1 (valid_iff.1 hv).1).1,h6⟩
 have hs:stampOk (s++[b.next]):=⟨by simp;omega,fun n hm=>by
  rcases List.mem_append.1 hm with e | e
  · exact h4.2 n e
  · rw [List.mem_singleton.1 e];exact hn⟩
 obtain ⟨x,hx,he⟩:=hasG_iff.1 hid
 have hc:countOk id:=by rw [← he];exact (grant_iff.1 (okFrom_mem (valid_iff.1 hv).2.2.2 x hx).1).1
 refine ⟨if_pos ⟨h4,by omega,hn⟩,apply_zero.2 ⟨hv,?_,limit_zero.2 ⟨fun _=>h6,fun h=>by simp [recF] at h,fun h=>by simp [recF] at h⟩,{ b with next:=b.next+1,grants:=setG b.grants id (s++[b.next]) },?_⟩⟩
 · unfold mayB recF bareB noGrant stmB
   simp only [Rcd.zero]
   rw [if_neg (by decide),if_neg (by decide),if_neg (by decide),if_neg (by decide),if_pos (by decide),decide_eq_true hc,decide_eq_true hs]
   simp
 · unfold changeB recF
   simp only [Rcd.zero]
   rw [if_neg (by decide),if_neg (by decide),if_neg (by decide),if_neg (by decide),if_pos (by decide),if_pos ⟨hid,lastI_snoc _ _⟩]
theorem borne_stamp {r:Req} (h:borneI r=0):bearsB r.own r.now r.path.data.toList r.mode=true∧stampOk r.own.stamp:=by
 unfold borneI at h
 split at h
 · rename_i e
   refine ⟨e,?_⟩
   unfold bearsB at e
   simp only [Bool.and_eq_true,decide_eq_true_eq] at e
   exact e.1.1.2
 · cases h
structure PreZ (g:Gtr) (r:Req):Prop where
 time:timeOk r.now
 who:0≤r.holder∧r.holder<8
 path:pathOk r.path.data.toList=true
 mode:modE r.mode=true
 term:legalT r.t
 rest:g.ends≤r.now
 bears:bearsB r.own r.now r.path.data.toList r.mode=true
 stamp:stampOk r.own.stamp
 deep:r.own.stamp.length<4
 last:r.now+r.t+2≤r.own.expiry
 free:unexp g.nt (clashS5 g.es r.path.data.toList r.mode r.holder) r.now=[]
 room:(unexp g.nt (underS5 g.es []) r.now).length<6
 next:g.l.book.next≤1099511627776
theorem preZ {g:Gtr} {r:Req} (h:preI g r=0):PreZ g r:=by
 have q:=firstI_mem h
 have q1:=q (numbersI r) (by simp)
 have q2:=q (wordsI r) (by simp)
 have q3:=q (lengthI r) (by simp)
 have q4:=q (restedI g r.now) (by simp)
 have q5:=borne_stamp (q (borneI r) (by simp))
 have q6:=q (deepI r) (by simp)
 have q7:=q (outlastsI r) (by simp)
 have q8:=q (roomI g r) (by simp)
 have q9:=q (countsI g) (by simp)
 unfold numbersI at q1
 unfold wordsI at q2
 unfold lengthI at q3
 unfold restedI at q4
 unfold deepI at q6
 unfold outlastsI at q7
 unfold roomI at q8
 unfold countsI at q9
 split at q1
 case isFalse=>cases q1
 rename_i t1
 split at q2
 · cases q2
 rename_i t2
 split at q2
 · cases q2
 rename_i t2'
 split at q3
 case isFalse=>cases q3
 rename_i t3
 split at q4
 · cases q4
 rename_i t4
 split at q6
 · cases q6
 rename_i t6
 split at q7
 · cases q7
 rename_i t7
 split at q8
 · cases q8
 rename_i t8
 split at q8
 · cases q8
 rename_i t8'
 split at q9
 · cases q9
 rename_i t9
 exact ⟨t1.1,t1.2,by simpa using t2,by simpa using t2',t3,by omega,q5.1,q5.2,by omega,by omega,List.length_eq_zero_iff.1 (by omega),by omega,by omega⟩
inductive GrW (d:Dk) (g:Gtr) (r:Req) (p:Grt × Int × Dk × Gtr):Prop
 | no (h:p=(Grt.zero,preI g r,d,g)) (e:preI g r≠0)
 | cut (x:p.1=Grt.zero) (e:p.2.1=40) (o:p.2.2.1.off=true) (a:g.l.dead=true∨d.armed=true) (s:Sub g p.2.2.2)
 | ok (z:PreZ g r) (e:p.2.1=0) (x:p.1=⟨g.l.book.next,r.holder,r.path,r.mode,r.own.stamp++[g.l.book.next],r.t⟩) (gr:p.2.2.2.l.book.grants=g.l.book.grants.filter (fun y=>!goneB g.nt r.now y.id)++[p.1]) (nx:p.2.2.2.l.book.next=g.l.book.next+1)
    (en:p.2.2.2.ends=g.ends) (lg:g.l.book.longest≤p.2.2.2.l.book.longest∧r.t≤p.2.2.2.l.book.longest) (nt:∀ y,y∈g.l.book.grants→goneB g.nt r.now y.id=false→ntAt p.2.2.2.nt y.id=ntAt g.nt y.id) (nt2:ntAt p.2.2.2.nt g.l.book.next=⟨r.now+r.t,0,0⟩)
    (o:p.2.2.1.off=false) (w:0≤d.writes→d.writes+170<9223372036854775808→d.writes<p.2.2.1.writes)
theorem grant_st {d:Dk} {g:Gtr} {G:Nat} {r:Req} (hi:GI g) (h:LgS d g.l G) (hG:G+8<1073741824):LgS (grantG d g r).2.2.1 (grantG d g r).2.2.2.l (G+8)∧Wr d (grantG d g r).2.2.1 160∧GrW d g r (grantG d g r):=by
 by_cases e0:preI g r≠0
 · have e:grantG d g r=(Grt.zero,preI g r,d,g):=by unfold grantG;rw [if_pos e0]
   rw [e]
   exact ⟨h.mono (by omega),(Wr.refl d).mono (by omega),.no rfl e0⟩
 have z:=preZ (Decidable.not_not.1 e0)
 obtain ⟨w1,w2,w3,w4⟩:=write_st (r:=r) hi h (by omega) z.term
 obtain ⟨k1,k2,k3,k4,k5,k6⟩:=write_GI hi d r
 rcases w4 with ⟨e1,hgr⟩ | ⟨e1,o1,a1⟩
 case inr =>
  have e:grantG d g r=(Grt.zero,writeG d g r):=by unfold grantG;dsimp only;rw [if_neg e0,if_pos (by rw [e1];decide)]
  rw [e]
  exact ⟨w1.mono (by omega),w2.mono (by omega),.cut rfl e1 o1 a1 w3⟩
 have hlen:(writeG d g r).2.2.l.book.grants.length<6:=by
  have hr:=z.room
  unfold unexp at hr
  rw [hi.under,List.filter_map,List.length_map] at hr
  rw [hgr]
  exact hr
 obtain ⟨hx,hmay⟩:=grant_may (r:=r) k1.val z.who z.path z.mode z.stamp z.deep (by rw [k4];exact z.next) z.term hlen
 have hof:grantOf (writeG d g r).2.2 r=⟨g.l.book.next,r.holder,r.path,r.mode,r.own.stamp++[g.l.book.next],r.t⟩:=by unfold grantOf;rw [hx,k4]
 rw [k4] at hmay
 obtain ⟨x,hxx⟩:∃ x:Grt,x=⟨g.l.book.next,r.holder,r.path,r.mode,r.own.stamp++[g.l.book.next],r.t⟩:=⟨_,rfl⟩
 rw [← hxx] at hof hmay
 obtain ⟨l1,l2,l3,l4⟩:=w1.append (by omega) (recG x)
 obtain ⟨-,m2,m3⟩:=k1.grant (writeG d g r).2.1 (x:=x) (r.now+r.t)
 have hmay':(applyB (writeG d g r).2.2.l.book (recG x)).2=0:=hmay
 have ew:¬ (writeG d g r).1≠0:=by rw [e1];simp
 cases l3 with
 | ok a0 b c o w =>
   have e:grantG d g r=(x,0,(appendD (writeG d g r).2.1 (writeG d g r).2.2.l (recG x)).2.1,keepG { (writeG d g r).2.2 with l:=(appendD (writeG d g r).2.1 (writeG d g r).2.2.l (recG x)).2.2 } x (r.now+r.t)):=by
    unfold grantG;dsimp only;rw [if_neg e0,if_neg ew,hof,if_neg (by rw [a0];simp)]
   rw [e]
   obtain ⟨n1,n2,n3,n4⟩:=m2 a0
   refine ⟨l1,(w2.trans l2).mono (by omega),.ok z rfl hxx ?_ ?_ k3 ?_ ?_ ?_ o ?_⟩
   · show (appendD (writeG d g r).2.1 (writeG d g r).2.2.l (recG x)).2.2.book.grants=_
     rw [n4,hgr]
   · show (appendD (writeG d g r).2.1 (writeG d g r).2.2.l (recG x)).2.2.book.next=_
     rw [n4,k4]
   · show g.l.book.longest≤(appendD (writeG d g r).2.1 (writeG d g r).2.2.l (recG x)).2.2.book.longest∧r.t≤(appendD (writeG d g r).2.1 (writeG d g r).2.2.l (recG x)).2.2.book.longest
     rw [n4]
     exact ⟨k6,k5 e1⟩
   · intro y hy hg
     show ntAt (ntSet (writeG d g r).2.2.nt x.id _) y.id=_
     have hlt:=hi.idlt hy
     rw [ntAt_set,if_neg (by rw [n2,k4];omega)]
     exact w3.nt y (by rw [hgr];exact List.mem_filter.2 ⟨hy,by rw [hg];rfl⟩)
   · show ntAt (ntSet (writeG d g r).2.2.nt x.id _) _=_
     rw [ntAt_set,if_pos (by rw [n2,k4])]
   · intro h0 h1
     have q1:=w2.cnt h0 (by omega)
     have q2:=w (by omega) (by omega)
     show d.writes<(appendD (writeG d g r).2.1 (writeG d g r).2.2.l (recG x)).2.1.writes
     omega
 | cut a0 b o a =>
   have e:grantG d g r=(Grt.zero,(appendD (writeG d g r).2.1 (writeG d g r).2.2.l (recG x)).1,(appendD (writeG d g r).2.1 (writeG d g r).2.2.l (recG x)).2.1,{ (writeG d g r).2.2 with l:=(appendD (writeG d g r).2.1 (writeG d g r).2.2.l (recG x)).2.2 }):=by
    unfold grantG;dsimp only;rw [if_neg e0,if_neg ew,hof,if_pos (by rw [a0];decide)]
   rw [e]
   refine ⟨l1,(w2.trans l2).mono (by omega),.cut rfl a0 o ?_ (w3.trans ⟨by dsimp only;rw [b];exact List.Sublist.refl _,fun _ _=>rfl,rfl,by dsimp only;rw [b],by dsimp only;rw [b];exact Int.le_refl _⟩)⟩
   by_cases hoff:(writeG d g r).2.1.off=true
   · rcases h.way with ⟨ho,_,_⟩ | ⟨ho,hd,_⟩
     · cases ha:d.armed with
       | true=>exact .inr rfl
       | false=>have:=w2.on ha ho;rw [hoff] at this;cases this
     · exact .inl hd
   · exact dead_or (g:=g) (g':=(writeG d g r).2.2) w2 w1.dead_off (by simpa using hoff) a
 | bad a0 b a e o =>
   rcases a with a | a
   · rw [hmay'] at a;exact absurd a a0
   · exact absurd a l4
end Go.Proofs.YtllljngpgjkdiaaGreatDoor
/-
  PLAIN, NO WALK: layer 16: what Renew, End, Done do, whatever the power does.
-/
namespace Go.Proofs.YtllljngpgjkdiaaGreatDoor
open Go.RowKit

theorem find_srt:∀ {l:List Grt},SrtG l→∀ {x:Grt},x∈l→(l.find? fun y=>decide (y.id=x.id))=some x
 | [],_,x,hx=>by cases hx
 | y::r,h,x,hx=>by
   have h':=List.pairwise_cons.1 h
   rw [List.find?_cons]
   by_cases e:y.id=x.id
   · rw [decide_eq_true e]
     rcases List.mem_cons.1 hx with rfl | hx
     · rfl
     · have:=h'.1 x hx
       omega
   · rw [decide_eq_false e]
     rcases List.mem_cons.1 hx with rfl | hx
     · exact absurd rfl e
     · exact find_srt h'.2 hx
theorem held_at {g:Gtr} (h:GI g) {x:Grt} (hx:x∈g.l.book.grants):heldG g x.id=some (hldOf g.nt x):=by
 unfold heldG listG
 rw [List.find?_map]
 show (g.l.book.grants.find? fun y=>decide (y.id=x.id)).map _=_
 rw [find_srt h.srtG hx]
 rfl
theorem held_iff {g:Gtr} (h:GI g) {id:Int} {o:Option Hld} (ho:heldG g id=o):match o with
 | none=>∀ x,x∈g.l.book.grants→x.id≠id
 | some y=>y.gr∈g.l.book.grants∧y.gr.id=id∧y=hldOf g.nt y.gr:=by
 cases o with
 | none =>
   intro x hx e
   subst e
   rw [held_at h hx] at ho
   cases ho
 | some y =>
   unfold heldG at ho
   have h1:=List.mem_of_find?_eq_some ho
   have h2:=List.find?_some ho
   unfold listG at h1
   obtain ⟨z,hz,rfl⟩:=List.mem_map.1 h1
   exact ⟨hz,of_decide_eq_true h2,rfl⟩
theorem shown_at {g:Gtr} (h:GI g) {x:Grt} (hx:x∈g.l.book.grants) {id:Int} (hid:x.id=id):shownG g id=x:=by
 unfold shownG
 rw [← hid,held_at h hx]
 rfl
structure PreR (g:Gtr) (now:Int) (own:Lease) (id holder t:Int) (fresh:Bool) (x:Grt):Prop where
 mem:x∈g.l.book.grants
 ide:x.id=id
 time:timeOk now
 term:legalT t
 who:x.holder=holder
 live:now<(ntAt g.nt id).exp
 calm:(ntAt g.nt id).num=0
 bears:bearsB own now x.path.data.toList x.mode=true
 last:now+t+2≤own.expiry
 deep:fresh=true→own.stamp.length<4∧g.l.book.next≤1099511627776
theorem preRz {g:Gtr} (hi:GI g) {now id holder t:Int} {own:Lease} {fresh:Bool} (h:preR g (reqOf now holder t own (heldG g id)) (heldG g id) fresh=0):∃ x,PreR g now own id holder t fresh x:=by
 have q:=firstI_mem h
 obtain ⟨o,ho⟩:∃ o,heldG g id=o:=⟨_,rfl⟩
 have hm:=held_iff hi ho
 rw [ho] at q
 have q1:=q (numbersI (reqOf now holder t own o)) (by simp)
 have q3:=q (lengthI (reqOf now holder t own o)) (by simp)
 have q4:=q (knownI o now holder) (by simp [reqOf])
 have q5:=borne_stamp (q (borneI (reqOf now holder t own o)) (by simp))
 have q7:=q (outlastsI (reqOf now holder t own o)) (by cases fresh <;> simp)
 have q8:fresh=true→own.stamp.length<4∧g.l.book.next≤1099511627776:=fun e=>by
  have a:=q (deepI (reqOf now holder t own o)) (by rw [e];simp)
  have c:=q (countsI g) (by rw [e];simp)
  unfold deepI at a
  unfold countsI at c
  split at a
  · cases a
  rename_i t1
  split at c
  · cases c
  rename_i t2
  exact ⟨by have:¬ 4≤own.stamp.length:=t1;omega,by omega⟩
 unfold numbersI at q1
 unfold lengthI at q3
 unfold outlastsI at q7
 split at q1
 case isFalse=>cases q1
 rename_i t1
 split at q3
 case isFalse=>cases q3
 rename_i t3
 split at q7
 · cases q7
 rename_i t7
 cases o with
 | none=>simp [knownI] at q4
 | some y =>
   obtain ⟨m1,m2,m3⟩:=hm
   simp only [knownI] at q4
   split at q4
   · cases q4
   rename_i t4
   split at q4
   · cases q4
   rename_i t5
   have hy:y.exp=(ntAt g.nt id).exp∧y.num=(ntAt g.nt id).num:=by
    rw [m3]
    show (ntAt g.nt y.gr.id).exp=_∧(ntAt g.nt y.gr.id).num=_
    rw [m2]
    exact ⟨rfl,rfl⟩
   refine ⟨y.gr,m1,m2,t1.1,t3,?_,?_,?_,q5.1,?_,q8⟩
   · exact Decidable.not_not.1 fun e=>t4 (.inr e)
   · have:¬ y.exp≤now:=fun e=>t4 (.inl e)
     omega
   · rw [← hy.2];exact Decidable.not_not.1 t5
   · have:¬ own.expiry<now+t+2:=t7
     omega
inductive RwW (d:Dk) (g:Gtr) (now:Int) (own:Lease) (id holder t:Int) (fresh:Bool) (p:Grt × Int × Dk × Gtr):Prop
 | no (k:Int) (h:p=(Grt.zero,k,d,g)) (e:k≠0)
 | cut (x:p.1=Grt.zero) (e:p.2.1=40) (o:p.2.2.1.off=true) (a:g.l.dead=true∨d.armed=true) (s:Sub g p.2.2.2)
 | ok (y:Grt) (z:PreR g now own id holder t fresh y) (e:p.2.1=0) (x:p.1=if fresh=true then { y with stamp:=own.stamp++[g.l.book.next] } else y)
    (gr:p.2.2.2.l.book.grants=if fresh=true then g.l.book.grants.map (setSt id (own.stamp++[g.l.book.next])) else g.l.book.grants) (nx:p.2.2.2.l.book.next=if fresh=true then g.l.book.next+1 else g.l.book.next)
    (en:p.2.2.2.ends=g.ends) (lg:g.l.book.longest≤p.2.2.2.l.book.longest∧t≤p.2.2.2.l.book.longest) (nt:∀ k,k≠id→ntAt p.2.2.2.nt k=ntAt g.nt k) (nt2:ntAt p.2.2.2.nt id={ ntAt g.nt id with exp:=max (ntAt g.nt id).exp (now+t) })
theorem raise_nt (g:Gtr) (id e:Int):(∀ k,k≠id→ntAt (raiseG g id e).nt k=ntAt g.nt k)∧ntAt (raiseG g id e).nt id={ ntAt g.nt id with exp:=max (ntAt g.nt id).exp e }:=by
 unfold raiseG
 exact ⟨fun k hk=>by dsimp only;rw [ntAt_set,if_neg hk],by dsimp only;rw [ntAt_set,if_pos rfl]⟩
theorem renew_st {d:Dk} {g:Gtr} {G:Nat} (hi:GI g) (h:LgS d g.l G) (hG:G+8<1073741824) (now:Int) (own:Lease) (id holder t:Int) (fresh:Bool) :
 LgS (renewG d g now own id holder t fresh).2.2.1 (renewG d g now own id holder t fresh).2.2.2.l (G+8)∧Wr d (renewG d g now own id holder t fresh).2.2.1 160∧RwW d g now own id holder t fresh (renewG d g now own id holder t fresh):=by
 by_cases e0:preR g (reqOf now holder t own (heldG g id)) (heldG g id) fresh≠0
 · have e:renewG d g now own id holder t fresh=(Grt.zero,preR g (reqOf now holder t own (heldG g id)) (heldG g id) fresh,d,g):=by unfold renewG;dsimp only;rw [if_pos e0]
   rw [e]
   exact ⟨h.mono (by omega),(Wr.refl d).mono (by omega),.no _ rfl e0⟩
 obtain ⟨y,z⟩:=preRz hi (Decidable.not_not.1 e0)
 obtain ⟨w1,w2,w3⟩:=long_st (t:=t) hi h (by omega) z.term
 obtain ⟨k1,k2,k3,k4,k5,k6,k7,k8⟩:=hi.long d t
 rcases w3 with ⟨e1,s1,-⟩ | ⟨e1,o1,a1,s1⟩
 case inr =>
  have e:renewG d g now own id holder t fresh=(Grt.zero,longG d g t):=by unfold renewG;dsimp only;rw [if_neg e0,if_pos (by rw [e1];decide)]
  rw [e]
  exact ⟨w1.mono (by omega),w2.mono (by omega),.cut rfl e1 o1 a1 s1⟩
 have ew:¬ (longG d g t).1≠0:=by rw [e1];simp
 have hin:y∈(longG d g t).2.2.l.book.grants:=by rw [k5];exact z.mem
 cases fresh with
 | false =>
   have e:renewG d g now own id holder t false=(shownG (raiseG (longG d g t).2.2 id (now+t)) id,0,(longG d g t).2.1,raiseG (longG d g t).2.2 id (now+t)):=by unfold renewG;dsimp only;rw [if_neg e0,if_neg ew,if_neg (by decide)]
   rw [e]
   obtain ⟨n1,n2⟩:=raise_nt (longG d g t).2.2 id (now+t)
   rw [k3] at n1 n2
   refine ⟨w1.mono (by omega),w2.mono (by omega),.ok y z rfl ?_ k5 k6 k4 ⟨k8,k7 e1⟩ n1 n2⟩
   exact shown_at (k1.raise ⟨y,hin,z.ide⟩ (now+t)) hin z.ide
 | true =>
   have hb:=borne_stamp (firstI_mem (Decidable.not_not.1 e0) (borneI (reqOf now holder t own (heldG g id))) (by simp))
   have hs:stampOk own.stamp:=hb.2
   obtain ⟨hx,hmay⟩:=fresh_may (id:=id) k1.val (hasG_iff.2 ⟨y,hin,z.ide⟩) hs (z.deep rfl).1 (by rw [k6];exact (z.deep rfl).2)
   rw [k6] at hx hmay
   obtain ⟨l1,l2,l3,l4⟩:=w1.append (by omega) (recF id (own.stamp++[g.l.book.next]))
   obtain ⟨m1,-,m3,m4⟩:=k1.fresh (longG d g t).2.1 id (own.stamp++[g.l.book.next])
   cases l3 with
   | ok a0 b c o w =>
     obtain ⟨-,n4⟩:=m3 a0
     have e:renewG d g now own id holder t true=(shownG (raiseG { (longG d g t).2.2 with l:=(appendD (longG d g t).2.1 (longG d g t).2.2.l (recF id (own.stamp++[g.l.book.next]))).2.2 } id (now+t)) id,0,(appendD (longG d g t).2.1 (longG d g t).2.2.l (recF id (own.stamp++[g.l.book.next]))).2.1,raiseG { (longG d g t).2.2 with l:=(appendD (longG d g t).2.1 (longG d g t).2.2.l (recF id (own.stamp++[g.l.book.next]))).2.2 } id (now+t)):=by
      unfold renewG;dsimp only;rw [if_neg e0,if_neg ew,if_pos rfl,k6,hx,if_neg (by rw [a0];simp)]
     rw [e]
     obtain ⟨n1,n2⟩:=raise_nt { (longG d g t).2.2 with l:=(appendD (longG d g t).2.1 (longG d g t).2.2.l (recF id (own.stamp++[g.l.book.next]))).2.2 } id (now+t)
     have hy2:setSt id (own.stamp++[g.l.book.next]) y∈(appendD (longG d g t).2.1 (longG d g t).2.2.l (recF id (own.stamp++[g.l.book.next]))).2.2.book.grants:=by rw [n4];exact List.mem_map.2 ⟨y,hin,rfl⟩
     have hyi:(setSt id (own.stamp++[g.l.book.next]) y).id=id:=by unfold setSt;split <;> exact z.ide
     refine ⟨l1.mono (by omega),(w2.trans l2).mono (by omega),.ok y z rfl ?_ ?_ ?_ k4 ?_ (fun k hk=>(n1 k hk).trans (show ntAt (longG d g t).2.2.nt k=_ by rw [k3])) (n2.trans (show ({ ntAt (longG d g t).2.2.nt id with exp:=max (ntAt (longG d g t).2.2.nt id).exp (now+t) }:Nt)=_ by rw [k3]))⟩
     · rw [if_pos rfl]
       have:=shown_at (m1.raise ⟨_,hy2,hyi⟩ (now+t)) hy2 hyi
       refine this.trans ?_
       unfold setSt
       rw [if_pos z.ide]
     · rw [if_pos rfl]
       show (appendD (longG d g t).2.1 (longG d g t).2.2.l (recF id (own.stamp++[g.l.book.next]))).2.2.book.grants=_
       rw [n4,k5]
     · rw [if_pos rfl]
       show (appendD (longG d g t).2.1 (longG d g t).2.2.l (recF id (own.stamp++[g.l.book.next]))).2.2.book.next=_
       rw [n4,k6]
     · show g.l.book.longest≤(appendD (longG d g t).2.1 (longG d g t).2.2.l (recF id (own.stamp++[g.l.book.next]))).2.2.book.longest∧t≤(appendD (longG d g t).2.1 (longG d g t).2.2.l (recF id (own.stamp++[g.l.book.next]))).2.2.book.longest
       rw [n4]
       exact ⟨k8,k7 e1⟩
   | cut a0 b o a =>
     have e:renewG d g now own id holder t true=(Grt.zero,(appendD (longG d g t).2.1 (longG d g t).2.2.l (recF id (own.stamp++[g.l.book.next]))).1,(appendD (longG d g t).2.1 (longG d g t).2.2.l (recF id (own.stamp++[g.l.book.next]))).2.1,{ (longG d g t).2.2 with l:=(appendD (longG d g t).2.1 (longG d g t).2.2.l (recF id (own.stamp++[g.l.book.next]))).2.2 }):=by
      unfold renewG;dsimp only;rw [if_neg e0,if_neg ew,if_pos rfl,k6,hx,if_pos (by rw [a0];decide)]
     rw [e]
     refine ⟨l1.mono (by omega),(w2.trans l2).mono (by omega),.cut rfl a0 o ?_ (s1.trans ⟨by dsimp only;rw [b];exact List.Sublist.refl _,fun _ _=>rfl,rfl,by dsimp only;rw [b],by dsimp only;rw [b];exact Int.le_refl _⟩)⟩
     by_cases hoff:(longG d g t).2.1.off=true
     · rcases h.way with ⟨ho,_,_⟩ | ⟨ho,hd,_⟩
       · cases ha:d.armed with
         | true=>exact .inr rfl
         | false=>have:=w2.on ha ho;rw [hoff] at this;cases this
       · exact .inl hd
     · exact dead_or (g:=g) (g':=(longG d g t).2.2) w2 w1.dead_off (by simpa using hoff) a
   | bad a0 b a e o =>
     rcases a with a | a
     · rw [hmay] at a;exact absurd a a0
     · exact absurd a l4
theorem end_st {d:Dk} {g:Gtr} {G:Nat} (hi:GI g) (h:LgS d g.l G) (hG:G+8<1073741824) (id holder:Int):GI (endG d g id holder).2.2.2∧LgS (endG d g id holder).2.2.1 (endG d g id holder).2.2.2.l (G+8)∧Wr d (endG d g id holder).2.2.1 160∧Sub g (endG d g id holder).2.2.2:=by
 unfold endG
 cases ho:heldG g id with
 | none=>exact ⟨hi,h.mono (by omega),(Wr.refl d).mono (by omega),Sub.refl g⟩
 | some x =>
   dsimp only
   split
   · exact ⟨hi,h.mono (by omega),(Wr.refl d).mono (by omega),Sub.refl g⟩
   · obtain ⟨h1,h2,-⟩:=held_iff hi ho
     obtain ⟨a,b,c,-⟩:=over_st hi h (by omega) h1
     rw [h2] at a b c
     exact ⟨(hi.over d id).1,a.mono (by omega),b.mono (by omega),c⟩
theorem done_st {d:Dk} {g:Gtr} {G:Nat} (hi:GI g) (h:LgS d g.l G) (hG:G+8<1073741824) (id holder origin number:Int):GI (doneG d g id holder origin number).2.2.2∧LgS (doneG d g id holder origin number).2.2.1 (doneG d g id holder origin number).2.2.2.l (G+8)∧Wr d (doneG d g id holder origin number).2.2.1 160∧Sub g (doneG d g id holder origin number).2.2.2:=by
 unfold doneG
 cases ho:heldG g id with
 | none=>exact ⟨hi,h.mono (by omega),(Wr.refl d).mono (by omega),Sub.refl g⟩
 | some x =>
   dsimp only
   split
   · exact ⟨hi,h.mono (by omega),(Wr.refl d).mono (by omega),Sub.refl g⟩
   · exact end_st hi h hG id holder
theorem grantG_GI' {g:Gtr} (h:GI g) (d:Dk) (r:Req):GI (grantG d g r).2.2.2∧(grantG d g r).2.2.1.secs.length=d.secs.length:=by
 unfold grantG
 dsimp only
 split
 · exact ⟨h,rfl⟩
 obtain ⟨k1,k2,_⟩:=write_GI h d r
 split
 · exact ⟨k1,k2⟩
 obtain ⟨l1,l2,l3⟩:=k1.grant (writeG d g r).2.1 (x:=grantOf (writeG d g r).2.2 r) (r.now+r.t)
 split
 · rename_i e
   exact ⟨(l3 e).1,l1.trans k2⟩
 · rename_i e
   exact ⟨(l2 (Decidable.not_not.1 e)).1,l1.trans k2⟩
theorem renewG_GI' {g:Gtr} (h:GI g) (d:Dk) (now:Int) (own:Lease) (id holder t:Int) (fresh:Bool):GI (renewG d g now own id holder t fresh).2.2.2∧(renewG d g now own id holder t fresh).2.2.1.secs.length=d.secs.length:=by
 unfold renewG
 dsimp only
 split
 · exact ⟨h,rfl⟩
 rename_i e0
 obtain ⟨x,hx,hid⟩:=preR_held (Decidable.not_not.1 e0)
 obtain ⟨k1,-,-,-,k5,-⟩:=h.long d t
 have k2:=long_len d g t
 have hin:∃ x,x∈(longG d g t).2.2.l.book.grants∧x.id=id:=⟨x,by rw [k5];exact hx,hid⟩
 split
 · exact ⟨k1,k2⟩
 obtain ⟨l1,l2,l3,-⟩:=k1.fresh (longG d g t).2.1 id (extS own.stamp (longG d g t).2.2.l.book.next)
 split
 · split
   · exact ⟨l1,l2.trans k2⟩
   · rename_i e2
     refine ⟨l1.raise ?_ (now+t),l2.trans k2⟩
     rw [(l3 (Decidable.not_not.1 e2)).2]
     exact mem_setSt hin
 · exact ⟨k1.raise hin (now+t),k2⟩
theorem grantG_GI {g:Gtr} (h:GI g) (d:Dk) (r:Req):GI (grantG d g r).2.2.2:=(grantG_GI' h d r).1
theorem renewG_GI {g:Gtr} (h:GI g) (d:Dk) (now:Int) (own:Lease) (id holder t:Int) (fresh:Bool):GI (renewG d g now own id holder t fresh).2.2.2:=(renewG_GI' h d now own id holder t fresh).1
end Go.Proofs.YtllljngpgjkdiaaGreatDoor
/-
  PLAIN, NO WALK: layer 16: any run of calls, power cuts and beginnings.
-/
namespace Go.Proofs.YtllljngpgjkdiaaGreatDoor
open Go.RowKit

structure OpG where
 kind:Int
 now:Int
 own:Lease
 id:Int
 holder:Int
 path:ByteArray
 mode:Int
 t:Int
 k:Int
 fresh:Bool
 origin:Int
 number:Int
def clampN (n:Int):Int:=min (max n 0) 1152921504606846976
def OpG.req (o:OpG):Req:=⟨o.now,o.holder,o.t,o.own,o.path,o.mode⟩
def reopG (d:Dk) (g:Gtr) (now:Int):Dk × Gtr :=
 match (openD (onD d)).2.2 with
 | some l=>((openD (onD d)).2.1,openG l (clampN now))
 | none=>((openD (onD d)).2.1,g)
def playG (d:Dk) (g:Gtr) (o:OpG):Dk × Gtr × Grt × Int :=
 if o.kind=1 then ((renewG d g o.now o.own o.id o.holder o.t o.fresh).2.2.1,(renewG d g o.now o.own o.id o.holder o.t o.fresh).2.2.2,(renewG d g o.now o.own o.id o.holder o.t o.fresh).1,(renewG d g o.now o.own o.id o.holder o.t o.fresh).2.1)
 else if o.kind=2 then ((endG d g o.id o.holder).2.2.1,(endG d g o.id o.holder).2.2.2,Grt.zero,(endG d g o.id o.holder).2.1)
 else if o.kind=3 then (d,(markG g o.id o.origin o.number).2,Grt.zero,0)
 else if o.kind=4 then ((doneG d g o.id o.holder o.origin o.number).2.2.1,(doneG d g o.id o.holder o.origin o.number).2.2.2,Grt.zero,(doneG d g o.id o.holder o.origin o.number).2.1)
 else if o.kind=7 then (armD d o.k,g,Grt.zero,0)
 else if o.kind=8 then ((reopG d g o.now).1,(reopG d g o.now).2,Grt.zero,0)
 else ((grantG d g o.req).2.2.1,(grantG d g o.req).2.2.2,(grantG d g o.req).1,(grantG d g o.req).2.1)
theorem reop_st {d:Dk} {g:Gtr} {G:Nat} (h:LgS d g.l G) (now:Int):∃ l',openD (onD d)=(0,onD d,some l')∧l'.book=g.l.book∧LgS (onD d) l' G∧reopG d g now=(onD d,openG l' (clampN now)):=by
 have key:∀ l0:Lg,Inv d l0→l0.book=g.l.book→l0.gen≤G→∃ l',openD (onD d)=(0,onD d,some l')∧l'.book=g.l.book∧LgS (onD d) l' G∧reopG d g now=(onD d,openG l' (clampN now)):=by
  intro l0 hi hb hg
  have hi2:Inv (onD d) l0:=hi.on rfl h.dok.on
  have ho:=hi2.open_ rfl
  have hok:({ l0 with dead:=false }:Lg).Ok:=⟨hi.lok.gen1,hi.lok.genM,hi.lok.area,hi.lok.seq,hi.lok.used,hi.lok.book⟩
  have hi3:Inv (onD d) { l0 with dead:=false }:=⟨hi2.ok,hi2.n49,hok,hi2.head,hi2.recs⟩
  refine ⟨{ l0 with dead:=false },ho,hb,⟨hok,h.n49,h.gens,hg,h.dok.on,.inl ⟨rfl,rfl,hi3⟩⟩,?_⟩
  unfold reopG
  rw [ho]
 rcases h.way with ⟨_,_,hi⟩ | ⟨_,_,l',hi,hb,_,hg⟩
 · exact key g.l hi rfl h.gen
 · exact key l' hi hb hg
theorem mark_nt {g:Gtr} (hi:GI g) (id o n:Int):(markG g id o n).2.l=g.l∧(markG g id o n).2.ends=g.ends∧∀ k,(ntAt (markG g id o n).2.nt k).exp=(ntAt g.nt k).exp:=by
 unfold markG
 cases ho:heldG g id with
 | none=>exact ⟨rfl,rfl,fun _=>rfl⟩
 | some x =>
   dsimp only
   split
   · exact ⟨rfl,rfl,fun _=>rfl⟩
   · refine ⟨rfl,rfl,fun k=>?_⟩
     dsimp only
     rw [ntAt_set]
     split
     · rename_i e
       subst e
       obtain ⟨h1,h2,h3⟩:=held_iff hi ho
       rw [h3]
       show (ntAt g.nt x.gr.id).exp=_
       rw [h2]
     · rfl
def clashB (a b:Grt):Bool:=decide (a.holder≠b.holder)&&(coversB a.path.data.toList b.path.data.toList||coversB b.path.data.toList a.path.data.toList)&&(decide (a.mode≠1)||decide (b.mode≠1))
def NoCl (l:List Grt):Prop:=∀ a,a∈l→∀ b,b∈l→clashB a b=false
theorem NoCl.sub {l m:List Grt} (h:NoCl l) (s:m.Sublist l):NoCl m:=fun a ha b hb=>h a (s.subset ha) b (s.subset hb)
theorem clash_st (id:Int) (s:List Int) (a b:Grt):clashB (setSt id s a) (setSt id s b)=clashB a b:=by
 unfold clashB setSt
 split <;> split <;> rfl
theorem NoCl.st {l:List Grt} (h:NoCl l) (id:Int) (s:List Int):NoCl (l.map (setSt id s)):=by
 intro a ha b hb
 obtain ⟨x,hx,rfl⟩:=List.mem_map.1 ha
 obtain ⟨y,hy,rfl⟩:=List.mem_map.1 hb
 rw [clash_st]
 exact h x hx y hy
theorem clash_symm (a b:Grt):clashB a b=clashB b a:=by
 unfold clashB
 rw [Bool.or_comm (coversB a.path.data.toList _),Bool.or_comm (decide (a.mode≠1))]
 congr 2
 rw [Bool.eq_iff_iff]
 simp [ne_comm]
theorem clash_self (a:Grt):clashB a a=false:=by simp [clashB]
theorem free_clash {g:Gtr} {r:Req} (hi:GI g) (hm:modE r.mode=true) (hf:unexp g.nt (clashS5 g.es r.path.data.toList r.mode r.holder) r.now=[]) {y x:Grt} (hy:y∈g.l.book.grants) (hg:goneB g.nt r.now y.id=false) (hx:x.holder=r.holder∧x.path=r.path∧x.mode=r.mode):clashB y x=false:=by
 cases hc:clashB y x with
 | false=>rfl
 | true =>
   exfalso
   unfold clashB at hc
   simp only [Bool.and_eq_true,decide_eq_true_eq] at hc
   obtain ⟨⟨c1,c2⟩,c3⟩:=hc
   have hmy:=(grant_iff.1 (hi.gr hy).1).2.2.2.1
   have hmr:r.mode=1∨r.mode=2:=by simpa [modE] using hm
   rw [hx.1] at c1
   rw [hx.2.1] at c2
   rw [hx.2.2] at c3
   have hst:standsB r.path.data.toList r.mode r.holder (entOf y)=true:=by
    unfold standsB
    simp only [Bool.and_eq_true,decide_eq_true_eq,Bool.or_eq_true]
    have c2':coversB y.path.data.toList r.path.data.toList=true∨coversB r.path.data.toList y.path.data.toList=true:=by simpa [Bool.or_eq_true] using c2
    refine ⟨⟨⟨hm,c2'⟩,c1⟩,?_⟩
    simp only [Bool.or_eq_true,decide_eq_true_eq] at c3
    show r.mode=2∨y.mode=2
    omega
   have hmem:y.id∈clashS5 g.es r.path.data.toList r.mode r.holder:=by
    unfold clashS5
    rw [(sortI_perm _).mem_iff]
    exact List.mem_map.2 ⟨entOf y,List.mem_filter.2 ⟨hi.es.mem_iff.2 (List.mem_map.2 ⟨y,hy,rfl⟩),hst⟩,rfl⟩
   have:y.id∈unexp g.nt (clashS5 g.es r.path.data.toList r.mode r.holder) r.now:=by
    unfold unexp
    exact List.mem_filter.2 ⟨hmem,by rw [hg];rfl⟩
   rw [hf] at this
   cases this
structure Rn (k:Nat) (d:Dk) (g:Gtr):Prop where
 gi:GI g
 lg:LgS d g.l (1+8 * k)
 w:0≤d.writes∧d.writes≤1+170 * k
 cl:NoCl g.l.book.grants
 nx:g.l.book.next≤1+k
theorem Rn.begin {d:Dk} (h:Al d gF 1) (hw:d.writes=1):Rn 0 d gF:=⟨h.gi,h.lg,(by omega),fun a ha=>(by cases ha),by decide⟩
theorem Rn.wr {k:Nat} {d d':Dk} {g:Gtr} (h:Rn k d g) (w:Wr d d' 160) (hk:k≤1000):0≤d'.writes∧d'.writes≤1+170 * ((k+1:Nat):Int):=by
 have:=w.cnt h.w.1 (by have:=h.w.2;omega)
 have:=h.w
 omega
theorem rn_grant {k:Nat} {d:Dk} {g:Gtr} (h:Rn k d g) (hk:k≤1000) (r:Req):Rn (k+1) (grantG d g r).2.2.1 (grantG d g r).2.2.2∧GrW d g r (grantG d g r):=by
 obtain ⟨a,b,c⟩:=grant_st (r:=r) h.gi h.lg (by omega)
 refine ⟨⟨?_,a.mono (by omega),h.wr b hk,?_,?_⟩,c⟩
 · cases c with
   | no e _=>rw [e];exact h.gi
   | cut _ _ _ _ _=>exact grantG_GI h.gi d r
   | ok _ _ _ _ _ _ _ _ _ _ _=>exact grantG_GI h.gi d r
 · cases c with
   | no e _=>rw [e];exact h.cl
   | cut _ _ _ _ s=>exact h.cl.sub s.gr
   | ok z e x gr nx en lg nt nt2 o w =>
     rw [gr]
     have hfx:∀ y,y∈g.l.book.grants.filter (fun y=>!goneB g.nt r.now y.id)→clashB y (grantG d g r).1=false:=fun y hy=>by
      obtain ⟨h1,h2⟩:=List.mem_filter.1 hy
      exact free_clash h.gi z.mode z.free h1 (by simpa using h2) (by rw [x];exact ⟨rfl,rfl,rfl⟩)
     intro p hp q hq
     rcases List.mem_append.1 hp with hp | hp <;> rcases List.mem_append.1 hq with hq | hq
     · exact h.cl p (List.mem_filter.1 hp).1 q (List.mem_filter.1 hq).1
     · rw [List.mem_singleton.1 hq];exact hfx p hp
     · rw [List.mem_singleton.1 hp,clash_symm];exact hfx q hq
     · rw [List.mem_singleton.1 hp,List.mem_singleton.1 hq];exact clash_self _
 · have hn:=h.nx
   cases c with
   | no e _=>rw [e];show g.l.book.next≤_;omega
   | cut _ _ _ _ s=>rw [s.next];omega
   | ok _ _ _ _ nx _ _ _ _ _ _=>rw [nx];omega
theorem rn_renew {k:Nat} {d:Dk} {g:Gtr} (h:Rn k d g) (hk:k≤1000) (now:Int) (own:Lease) (id holder t:Int) (fresh:Bool):Rn (k+1) (renewG d g now own id holder t fresh).2.2.1 (renewG d g now own id holder t fresh).2.2.2∧RwW d g now own id holder t fresh (renewG d g now own id holder t fresh):=by
 obtain ⟨a,b,c⟩:=renew_st h.gi h.lg (by omega) now own id holder t fresh
 refine ⟨⟨renewG_GI h.gi d now own id holder t fresh,a.mono (by omega),h.wr b hk,?_,?_⟩,c⟩
 · cases c with
   | no _ e _=>rw [e];exact h.cl
   | cut _ _ _ _ s=>exact h.cl.sub s.gr
   | ok y z e x gr nx en lg nt nt2 =>
     rw [gr]
     split
     · exact h.cl.st _ _
     · exact h.cl
 · have hn:=h.nx
   cases c with
   | no _ e _=>rw [e];show g.l.book.next≤_;omega
   | cut _ _ _ _ s=>rw [s.next];omega
   | ok y z e x gr nx en lg nt nt2=>rw [nx];split <;> omega
theorem rn_play {k:Nat} {d:Dk} {g:Gtr} (h:Rn k d g) (hk:k≤1000) (o:OpG) (hok:o.k≤9223372036854775807):Rn (k+1) (playG d g o).1 (playG d g o).2.1:=by
 have hn:=h.nx
 have hw:=h.w
 unfold playG
 split
 · exact (rn_renew h hk o.now o.own o.id o.holder o.t o.fresh).1
 split
 · obtain ⟨a,b,c,s⟩:=end_st h.gi h.lg (by omega) o.id o.holder
   exact ⟨a,b.mono (by omega),h.wr c hk,h.cl.sub s.gr,by show (endG d g o.id o.holder).2.2.2.l.book.next≤_;rw [s.next];omega⟩
 split
 · obtain ⟨m1,m2,m3⟩:=mark_nt h.gi o.id o.origin o.number
   refine ⟨mark_GI h.gi o.id o.origin o.number,?_,by dsimp only;omega,?_,?_⟩
   · dsimp only;rw [m1];exact h.lg.mono (by omega)
   · dsimp only;rw [m1];exact h.cl
   · dsimp only;rw [m1];omega
 split
 · obtain ⟨a,b,c,s⟩:=done_st h.gi h.lg (by omega) o.id o.holder o.origin o.number
   exact ⟨a,b.mono (by omega),h.wr c hk,h.cl.sub s.gr,by show (doneG d g o.id o.holder o.origin o.number).2.2.2.l.book.next≤_;rw [s.next];omega⟩
 split
 · have hl:=h.lg.mono (show 1+8 * k≤1+8 * (k+1) by omega)
   refine ⟨h.gi,⟨hl.lok,hl.n49,hl.gens,hl.gen,hl.dok.arm hok,?_⟩,?_,h.cl,by dsimp only;omega⟩
   · rcases hl.way with ⟨a,b,c⟩ | ⟨a,b,l',c1,c2,c3,c4⟩
     · exact .inl ⟨a,b,c.on rfl (hl.dok.arm hok)⟩
     · exact .inr ⟨a,b,l',c1.on rfl (hl.dok.arm hok),c2,c3,c4⟩
   · show 0≤d.writes∧d.writes≤_
     omega
 split
 · obtain ⟨l',h1,h2,h3,h4⟩:=reop_st h.lg o.now
   rw [h4]
   obtain ⟨o1,o2,o3⟩:=open_GI h3.lok (clampN o.now)
   refine ⟨o1,?_,?_,?_,?_⟩
   · dsimp only;rw [o2];exact h3.mono (by omega)
   · show 0≤d.writes∧d.writes≤_
     omega
   · dsimp only;rw [o2,h2];exact h.cl
   · dsimp only;rw [o2,h2];omega
 · exact (rn_grant h hk o.req).1
end Go.Proofs.YtllljngpgjkdiaaGreatDoor
/-
  PLAIN, NO WALK: layer 16: a grantor that begins anew; what all that is over lets it give.
-/
namespace Go.Proofs.YtllljngpgjkdiaaGreatDoor
open Go.RowKit

def Ex (now:Int) (g:Gtr):Prop:=∀ x,x∈g.l.book.grants→(ntAt g.nt x.id).exp≤now+g.l.book.longest
def Up (g g':Gtr):Prop:=∀ x,x∈g.l.book.grants→∀ y,y∈g'.l.book.grants→y.id=x.id→(ntAt g.nt x.id).exp≤(ntAt g'.nt y.id).exp
theorem Ex.mono {a b:Int} {g:Gtr} (h:Ex a g) (k:a≤b):Ex b g:=fun x hx=>by have:=h x hx;omega
theorem Up.refl (g:Gtr):Up g g:=fun _ _ _ _ e=>by rw [e];exact Int.le_refl _
theorem Sub.ex {a:Int} {g g':Gtr} (s:Sub g g') (h:Ex a g):Ex a g':=fun x hx=>by
 rw [s.nt x hx]
 have:=h x (s.gr.subset hx)
 have:=s.long
 omega
theorem Sub.up {g g':Gtr} (s:Sub g g'):Up g g':=fun x _ y hy e=>by rw [s.nt y hy,e];exact Int.le_refl _
theorem keep_nt (e:Int):∀ (r:List Grt) (g:Gtr) (k:Int),ntAt (r.foldl (fun g x=>keepG g x e) g).nt k=if k∈r.map Grt.id then ⟨e,0,0⟩ else ntAt g.nt k
 | [],g,k=>by simp
 | x::r,g,k=>by
   rw [List.foldl_cons,keep_nt e r (keepG g x e) k]
   by_cases h:k∈r.map Grt.id
   · rw [if_pos h,if_pos (by rw [List.map_cons];exact List.mem_cons_of_mem _ h)]
   · rw [if_neg h]
     show ntAt (ntSet g.nt x.id ⟨e,0,0⟩) k=_
     rw [ntAt_set]
     by_cases h2:k=x.id
     · rw [if_pos h2,if_pos (by rw [h2];simp)]
     · rw [if_neg h2,if_neg (by rw [List.map_cons,List.mem_cons];exact fun q=>q.elim h2 h)]
theorem open_nt {l:Lg} (now:Int) {x:Grt} (hx:x∈l.book.grants):ntAt (openG l now).nt x.id=⟨now+l.book.longest,0,0⟩:=by
 unfold openG
 rw [keep_nt,if_pos (List.mem_map.2 ⟨x,hx,rfl⟩)]
theorem open_ex {l:Lg} (now:Int) (hk:l.Ok):Ex now (openG l now):=fun x hx=>by
 have e:=(open_GI hk now).2.1
 rw [e] at hx ⊢
 rw [open_nt now hx]
 exact Int.le_refl _
theorem open_up {g:Gtr} {l:Lg} {a now:Int} (hk:l.Ok) (hb:l.book=g.l.book) (h:Ex a g) (ha:a≤now):Up g (openG l now):=fun x hx y hy e=>by
 rw [(open_GI hk now).2.1] at hy
 rw [open_nt now hy,hb]
 have:=h x hx
 dsimp only
 omega
theorem id_next {g:Gtr} (hi:GI g) {x:Grt} (hx:x∈g.l.book.grants):x.id<g.l.book.next:=by
 have h1:=hi.gr hx
 have:=(grant_iff.1 h1.1).2.2.2.2.2.1
 omega
theorem gr_ex {d:Dk} {g:Gtr} {r:Req} {p:Grt × Int × Dk × Gtr} (hi:GI g) (w:GrW d g r p) {a:Int} (h:Ex a g) (ha:a≤r.now):Ex r.now p.2.2.2∧Up g p.2.2.2:=by
 cases w with
 | no e _=>rw [e];exact ⟨h.mono ha,Up.refl g⟩
 | cut _ _ _ _ s=>exact ⟨s.ex (h.mono ha),s.up⟩
 | ok z e x gr nx en lg nt nt2 o w =>
   have hx1:p.1.id=g.l.book.next:=by rw [x]
   constructor
   · intro y hy
     rw [gr] at hy
     rcases List.mem_append.1 hy with hy | hy
     · obtain ⟨h1,h2⟩:=List.mem_filter.1 hy
       rw [nt y h1 (by simpa using h2)]
       have:=h y h1
       omega
     · rw [List.mem_singleton.1 hy,hx1,nt2]
       dsimp only
       omega
   · intro y hy z hz e
     rw [gr] at hz
     rcases List.mem_append.1 hz with hz | hz
     · obtain ⟨h1,h2⟩:=List.mem_filter.1 hz
       rw [nt z h1 (by simpa using h2),e]
       exact Int.le_refl _
     · rw [List.mem_singleton.1 hz,hx1] at e
       have:=id_next hi hy
       omega
theorem rw_ex {d:Dk} {g:Gtr} {now:Int} {own:Lease} {id holder t:Int} {fresh:Bool} {p:Grt × Int × Dk × Gtr} (w:RwW d g now own id holder t fresh p) {a:Int} (h:Ex a g) (ha:a≤now):Ex now p.2.2.2∧Up g p.2.2.2:=by
 cases w with
 | no _ e _=>rw [e];exact ⟨h.mono ha,Up.refl g⟩
 | cut _ _ _ _ s=>exact ⟨s.ex (h.mono ha),s.up⟩
 | ok y z e x gr nx en lg nt nt2 =>
   have hid:∀ u,u∈p.2.2.2.l.book.grants→∃ v,v∈g.l.book.grants∧v.id=u.id:=by
    intro u hu
    rw [gr] at hu
    split at hu
    · obtain ⟨v,hv,rfl⟩:=List.mem_map.1 hu
      refine ⟨v,hv,?_⟩
      unfold setSt
      split <;> rfl
    · exact ⟨u,hu,rfl⟩
   have hup:∀ k,(ntAt g.nt k).exp≤(ntAt p.2.2.2.nt k).exp:=by
    intro k
    by_cases e:k=id
    · rw [e,nt2]
      dsimp only
      omega
    · rw [nt k e]
      exact Int.le_refl _
   constructor
   · intro u hu
     obtain ⟨v,hv,e2⟩:=hid u hu
     have h1:=h v hv
     rw [e2] at h1
     by_cases e:u.id=id
     · rw [e] at h1 ⊢
       rw [nt2]
       dsimp only
       omega
     · rw [nt u.id e]
       omega
   · intro u hu v hv e
     rw [e]
     exact hup u.id
theorem ex_play {k:Nat} {d:Dk} {g:Gtr} (h:Rn k d g) (hk:k≤1000) (o:OpG) {a:Int} (hx:Ex a g) (ha:a≤o.now) (h0:0≤o.now) (h1:o.now≤1152921504606846976):Ex o.now (playG d g o).2.1∧Up g (playG d g o).2.1:=by
 unfold playG
 split
 · exact rw_ex (rn_renew h hk o.now o.own o.id o.holder o.t o.fresh).2 hx ha
 split
 · obtain ⟨_,_,_,s⟩:=end_st h.gi h.lg (by omega) o.id o.holder
   exact ⟨s.ex (hx.mono ha),s.up⟩
 split
 · obtain ⟨m1,m2,m3⟩:=mark_nt h.gi o.id o.origin o.number
   refine ⟨fun x hx'=>?_,fun x _ y _ e=>?_⟩
   · dsimp only at hx' ⊢
     rw [m1] at hx' ⊢
     rw [m3]
     have:=hx x hx'
     omega
   · dsimp only
     rw [m3,e]
     exact Int.le_refl _
 split
 · obtain ⟨_,_,_,s⟩:=done_st h.gi h.lg (by omega) o.id o.holder o.origin o.number
   exact ⟨s.ex (hx.mono ha),s.up⟩
 split
 · exact ⟨hx.mono ha,Up.refl g⟩
 split
 · obtain ⟨l',_,h2,h3,h4⟩:=reop_st h.lg o.now
   have hc:clampN o.now=o.now:=by unfold clampN;omega
   rw [h4,hc]
   exact ⟨open_ex o.now h3.lok,open_up h3.lok h2 hx ha⟩
 · exact gr_ex h.gi (rn_grant h hk o.req).2 hx ha
/-! ### begun anew, with the power on -/
def newD2 (d:Dk):Dk:=armD (onD d) (-1)
theorem anew {d:Dk} {l:Lg} {G:Nat} (h:LgS d l G):∃ l',openD (newD2 d)=(0,newD2 d,some l')∧l'.book=l.book∧l'.Ok∧∀ now,Al (newD2 d) (openG l' now) G:=by
 have key:∀ l0:Lg,Inv d l0→l0.book=l.book→l0.gen≤G→∃ l',openD (newD2 d)=(0,newD2 d,some l')∧l'.book=l.book∧l'.Ok∧∀ now,Al (newD2 d) (openG l' now) G:=by
  intro l0 hi hb hg
  have hok2:(newD2 d).Ok:=h.dok.on.arm (by omega)
  have hi2:Inv (newD2 d) l0:=hi.on rfl hok2
  have ho:=hi2.open_ rfl
  have hok:({ l0 with dead:=false }:Lg).Ok:=⟨hi.lok.gen1,hi.lok.genM,hi.lok.area,hi.lok.seq,hi.lok.used,hi.lok.book⟩
  have hi3:Inv (newD2 d) { l0 with dead:=false }:=⟨hi2.ok,hi2.n49,hok,hi2.head,hi2.recs⟩
  refine ⟨{ l0 with dead:=false },ho,hb,hok,fun now=>?_⟩
  obtain ⟨o1,o2,o3⟩:=open_GI hok now
  refine ⟨o1,?_,(show decide ((0:Int) ≤ -1)=false by decide),rfl⟩
  rw [o2]
  exact ⟨hok,h.n49,h.gens,hg,hok2,.inl ⟨rfl,rfl,hi3⟩⟩
 rcases h.way with ⟨_,_,hi⟩ | ⟨_,_,l',hi,hb,_,hg⟩
 · exact key l hi rfl h.gen
 · exact key l' hi hb hg
theorem preI_zero {g:Gtr} {r:Req} (z:PreZ g r):preI g r=0:=by
 have e1:numbersI r=0:=if_pos ⟨z.time,z.who⟩
 have e2:wordsI r=0:=by unfold wordsI;rw [if_neg (by rw [z.path];decide),if_neg (by rw [z.mode];decide)]
 have e3:lengthI r=0:=if_pos z.term
 have e4:restedI g r.now=0:=if_neg (by have:=z.rest;omega)
 have e5:borneI r=0:=by unfold borneI;rw [if_pos z.bears]
 have e6:deepI r=0:=if_neg (by have:=z.deep;omega)
 have e7:outlastsI r=0:=if_neg (by have:=z.last;omega)
 have e8:roomI g r=0:=by
  unfold roomI
  rw [if_neg (by rw [z.free];simp),if_neg (by have:=z.room;omega)]
 have e9:countsI g=0:=if_neg (by have:=z.next;omega)
 simp [preI,firstI,e1,e2,e3,e4,e5,e6,e7,e8,e9]
structure Gvn (d:Dk) (g:Gtr) (r:Req) (G:Nat):Prop where
 e:(grantG d g r).2.1=0
 x:(grantG d g r).1=⟨g.l.book.next,r.holder,r.path,r.mode,r.own.stamp++[g.l.book.next],r.t⟩
 gr:(grantG d g r).2.2.2.l.book.grants=g.l.book.grants.filter (fun y=>!goneB g.nt r.now y.id)++[(grantG d g r).1]
 nx:(grantG d g r).2.2.2.l.book.next=g.l.book.next+1
 en:(grantG d g r).2.2.2.ends=g.ends
 nt2:ntAt (grantG d g r).2.2.2.nt g.l.book.next=⟨r.now+r.t,0,0⟩
 al:Al (grantG d g r).2.2.1 (grantG d g r).2.2.2 (G+8)
theorem give_st {d:Dk} {g:Gtr} {G:Nat} {r:Req} (h:Al d g G) (hG:G+8<1073741824) (z:PreZ g r):Gvn d g r G:=by
 obtain ⟨a,b,c⟩:=grant_st (r:=r) h.gi h.lg hG
 obtain ⟨_,_,_,al⟩:=sim_grant h ⟨rfl,rfl,rfl,rfl⟩ hG r
 cases c with
 | no _ e=>exact absurd (preI_zero z) e
 | cut _ _ _ q _ =>
   rcases q with q | q
   · have:=h.lg.dead_off q
     rw [h.off] at this
     cases this
   · rw [h.arm] at q
     cases q
 | ok z e x gr nx en lg nt nt2 o w=>exact ⟨e,x,gr,nx,en,nt2,al⟩
theorem grant_no {d:Dk} {g:Gtr} {r:Req} {k:Int} (h:preI g r=k) (hk:k≠0):grantG d g r=(Grt.zero,k,d,g):=by
 subst h
 unfold grantG
 rw [if_pos hk]
theorem unexp_gone {g:Gtr} (hi:GI g) {now:Int} (h:∀ x,x∈g.l.book.grants→(ntAt g.nt x.id).exp≤now):(∀ p m who,unexp g.nt (clashS5 g.es p m who) now=[])∧unexp g.nt (underS5 g.es []) now=[]∧g.l.book.grants.filter (fun y=>!goneB g.nt now y.id)=[]:=by
 have hg:∀ x,x∈g.l.book.grants→goneB g.nt now x.id=true:=fun x hx=>decide_eq_true (h x hx)
 refine ⟨fun p m who=>?_,?_,?_⟩
 · unfold unexp
   refine List.filter_eq_nil_iff.2 fun i hm=>?_
   obtain ⟨x,hx,rfl,_⟩:=hi.clash hm
   rw [hg x hx]
   decide
 · rw [hi.under]
   unfold unexp
   refine List.filter_eq_nil_iff.2 fun i hm=>?_
   obtain ⟨x,hx,rfl⟩:=List.mem_map.1 hm
   rw [hg x hx]
   decide
 · refine List.filter_eq_nil_iff.2 fun x hx=>?_
   rw [hg x hx]
   decide
end Go.Proofs.YtllljngpgjkdiaaGreatDoor
/-
  PLAIN, NO WALK: layer 16: one grant alone; what is asked beside it.
-/
namespace Go.Proofs.YtllljngpgjkdiaaGreatDoor
open Go.RowKit

theorem cov_root {p:List UInt8} (h:pathOk p=true):coversB [] p=true:=by
 unfold coversB
 rw [h]
 simp [pathOk]
theorem pre_free {g:Gtr} {r:Req} (hi:GI g) (hg:∀ x,x∈g.l.book.grants→(ntAt g.nt x.id).exp≤r.now) (time:timeOk r.now) (who:0≤r.holder∧r.holder<8) (path:pathOk r.path.data.toList=true) (mode:modE r.mode=true) (term:legalT r.t) (rest:g.ends≤r.now) (bears:bearsB r.own r.now r.path.data.toList r.mode=true)
 (deep:r.own.stamp.length<4) (last:r.now+r.t+2≤r.own.expiry) (next:g.l.book.next≤1099511627776):PreZ g r:=by
 obtain ⟨u1,u2,_⟩:=unexp_gone hi hg
 have hb:borneI r=0:=by unfold borneI;rw [if_pos bears]
 exact ⟨time,who,path,mode,term,rest,bears,(borne_stamp hb).2,deep,last,u1 _ _ _,by rw [u2];simp,next⟩
section
variable {g:Gtr} {now T e:Int} {P:ByteArray}
end
theorem anew_facts {k:Nat} {d:Dk} {g:Gtr} (h:Rn k d g) (now:Int):∃ l' g1,openD (newD2 d)=(0,newD2 d,some l')∧l'.Ok∧openG l' now=g1∧Al (newD2 d) g1 (1+8 * k)∧(∀ x,x∈g1.l.book.grants→ntAt g1.nt x.id=⟨g1.ends,0,0⟩) ∧
 g1.ends=now+g.l.book.longest∧(0≤g.l.book.longest∧g.l.book.longest≤1048576)∧g1.l.book.next≤1+k∧g1.l.book.grants=g.l.book.grants:=by
 obtain ⟨l',n1,n2,n3,n4⟩:=anew h.lg
 obtain ⟨o1,o2,o3⟩:=open_GI n3 now
 have hlo:0≤g.l.book.longest∧g.l.book.longest≤1048576:=by
  have:=(valid_iff.1 h.gi.val).2.1
  unfold legalT at this
  omega
 refine ⟨l',_,n1,n3,rfl,n4 now,fun x hx=>?_,by rw [o3,n2],hlo,by rw [o2,n2];exact h.nx,by rw [o2,n2]⟩
 rw [o2] at hx
 rw [open_nt now hx,o3]
end Go.Proofs.YtllljngpgjkdiaaGreatDoor
/-
  PLAIN, NO WALK: layer 16: what GrantorRests asks.
-/
namespace Go.Proofs.YtllljngpgjkdiaaGreatDoor
open Go.RowKit

theorem up_held {g g':Gtr} (hi':GI g') (hu:Up g g') {lh:List (Hld × Value)} (hmap:lh.map Prod.fst=listG g) {k:Nat} (hk:k<lh.length) {y:Hld} (hh:heldG g' (lh.getD k default).1.gr.id=some y):(lh.getD k default).1.exp≤y.exp∧y.gr∈g'.l.book.grants∧y=hldOf g'.nt y.gr:=by
 have hx:(lh.getD k default).1∈listG g:=by
  rw [← hmap]
  exact List.mem_map.2 ⟨_,by simp [hk],rfl⟩
 unfold listG at hx
 obtain ⟨z,hz,e⟩:=List.mem_map.1 hx
 rw [← e] at hh ⊢
 obtain ⟨h1,h2,h3⟩:=held_iff hi' hh
 have:=hu z hz y.gr h1 h2
 refine ⟨?_,h1,h3⟩
 rw [h3]
 exact this
theorem pre_rest {g:Gtr} {r:Req} (time:timeOk r.now) (who:0≤r.holder∧r.holder<8) (path:pathOk r.path.data.toList=true) (mode:modE r.mode=true) (term:legalT r.t) (rest:r.now<g.ends):preI g r=61:=by
 have e1:numbersI r=0:=if_pos ⟨time,who⟩
 have e2:wordsI r=0:=by unfold wordsI;rw [if_neg (by rw [path];decide),if_neg (by rw [mode];decide)]
 have e3:lengthI r=0:=if_pos term
 have e4:restedI g r.now=61:=if_pos rest
 simp [preI,firstI,e1,e2,e3,e4]
theorem root_bears {now m:Int} {p:List UInt8} (h:now<4611686018427387904) (hp:pathOk p=true) (hm:modeOk m):bearsB rootL now p m=true:=by
 unfold bearsB rootL
 have hs:stampOk []:=by decide
 simp [h,hs,hm,cov_root hp]
theorem rests_no {d:Dk} {g:Gtr} {t:Int} (ht:timeOk t) (h:t<g.ends):grantG d g ⟨t,1,10,rootL,⟨#[113]⟩,1⟩=(Grt.zero,61,d,g) :=
 grant_no (pre_rest ht (show (0:Int)≤1∧(1:Int)<8 by decide) (show pathOk [113]=true by decide) rfl (show legalT 10 by decide) h) (by decide)
theorem rests_yes {d:Dk} {g:Gtr} {G:Nat} (h:Al d g G) (hG:G+8<1073741824) (hx:∀ x,x∈g.l.book.grants→ntAt g.nt x.id=⟨g.ends,0,0⟩) (hn:timeOk g.ends) (hc:g.l.book.next≤1099511627776) (R:Grt × Int × Dk × Gtr) (hR:grantG d g ⟨g.ends,1,10,rootL,⟨#[113]⟩,1⟩=R) :
 R.2.1=0∧R.1=⟨g.l.book.next,1,⟨#[113]⟩,1,[g.l.book.next],10⟩∧(listG R.2.2.2).length=1:=by
 subst hR
 have hgone:∀ x,x∈g.l.book.grants→(ntAt g.nt x.id).exp≤g.ends:=fun x hx'=>by rw [hx x hx'];exact Int.le_refl _
 unfold timeOk at hn
 have z:PreZ g ⟨g.ends,1,10,rootL,⟨#[113]⟩,1⟩:=pre_free h.gi hgone hn (show (0:Int)≤1∧(1:Int)<8 by decide) (show pathOk [113]=true by decide) rfl (show legalT 10 by decide) (Int.le_refl _) (root_bears (show g.ends<4611686018427387904 by omega) (show pathOk [113]=true by decide) (.inl rfl)) (show 0<4 by decide) (show g.ends+10+2≤4611686018427387904 by omega) hc
 obtain ⟨k1,k2,k3,k4,k5,k6,k7⟩:=give_st h hG z
 obtain ⟨_,_,u3⟩:=unexp_gone h.gi hgone
 refine ⟨k1,by rw [k2];rfl,?_⟩
 unfold listG
 rw [List.length_map,k3]
 show (g.l.book.grants.filter (fun y=>!goneB g.nt g.ends y.id)++_).length=1
 rw [u3]
 rfl
end Go.Proofs.YtllljngpgjkdiaaGreatDoor
