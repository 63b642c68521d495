/-
  GtB GtAw GtRn GtRr GtRu: see the remarks below.
-/
import Derived.Test.YtllljngpgjkdiaaGreatDoorMGtA
import Derived.Test.YtllljngpgjkdiaaGreatDoorMDisk2
/-
  PLAIN, NO WALK: layer 16: while the power stays, what a call does hangs on the book, the set, the notes and the end alone.
-/
namespace Go.Proofs.YtllljngpgjkdiaaGreatDoor
open Go.RowKit

def apM (l:Lg) (r:Rcd):Int × Lg:=if (applyB l.book r).2=0 then (0,{ l with book:=(applyB l.book r).1 }) else ((applyB l.book r).2,l)
def longM (g:Gtr) (t:Int):Int × Gtr:=if t≤g.l.book.longest then (0,g) else ((apM g.l (recL t)).1,{ g with l:=(apM g.l (recL t)).2 })
def overM (g:Gtr) (id:Int):Int × Gtr:=if (apM g.l (recE id)).1=0 then (0,⟨(apM g.l (recE id)).2,dropS5 g.es id,ntDel g.nt id,g.ends⟩) else ((apM g.l (recE id)).1,{ g with l:=(apM g.l (recE id)).2 })
def sweepM (now:Int):List Int→Gtr→Int × Gtr
 | [],g=>(0,g)
 | id::r,g=>if now<(ntAt g.nt id).exp then sweepM now r g else if (overM g id).1=0 then sweepM now r (overM g id).2 else overM g id
def roomM (g:Gtr) (r:Req):Int:=if 0<(unexp g.nt ((g.es.filter (standsB r.path.data.toList r.mode r.holder)).map Ent.id) r.now).length then 60 else if 6≤(unexp g.nt ((g.es.filter fun e=>coversB [] e.bs).map Ent.id) r.now).length then 51 else 0
def preM (g:Gtr) (r:Req):Int:=firstI [numbersI r,wordsI r,lengthI r,restedI g r.now,borneI r,deepI r,outlastsI r,roomM g r,countsI g]
theorem unexp_sort (nt:List (Int × Nt)) (l:List Int) (now:Int):(unexp nt (sortI l) now).length=(unexp nt l now).length:=((sortI_perm l).filter _).length_eq
theorem room_eq (g:Gtr) (r:Req):roomI g r=roomM g r:=by
 unfold roomI roomM clashS5 underS5
 rw [unexp_sort,unexp_sort]
theorem pre_eq (g:Gtr) (r:Req):preI g r=preM g r:=by
 unfold preI preM
 rw [room_eq]
def blocksM (g:Gtr) (now:Int) (path:List UInt8) (mode:Int):Bool:=decide (0<(unexp g.nt ((g.es.filter (standsB path mode (-1))).map Ent.id) now).length)
theorem blocks_eqM (g:Gtr) (now:Int) (path:List UInt8) (mode:Int):blocksG g now path mode=blocksM g now path mode:=by
 unfold blocksG blocksM clashS5
 rw [unexp_sort]
def writeM (g:Gtr) (r:Req):Int × Gtr:=if (longM g r.t).1=0 then sweepM r.now ((longM g r.t).2.l.book.grants.map Grt.id) (longM g r.t).2 else longM g r.t
def grantM (g:Gtr) (r:Req):Grt × Int × Gtr :=
 if preM g r≠0 then (Grt.zero,preM g r,g) else if (writeM g r).1≠0 then (Grt.zero,writeM g r) else
  if (apM (writeM g r).2.l (recG (grantOf (writeM g r).2 r))).1≠0 then (Grt.zero,(apM (writeM g r).2.l (recG (grantOf (writeM g r).2 r))).1,{ (writeM g r).2 with l:=(apM (writeM g r).2.l (recG (grantOf (writeM g r).2 r))).2 })
  else (grantOf (writeM g r).2 r,0,keepG { (writeM g r).2 with l:=(apM (writeM g r).2.l (recG (grantOf (writeM g r).2 r))).2 } (grantOf (writeM g r).2 r) (r.now+r.t))
def renewM (g:Gtr) (now:Int) (own:Lease) (id holder t:Int) (fresh:Bool):Grt × Int × Gtr :=
 if preR g (reqOf now holder t own (heldG g id)) (heldG g id) fresh≠0 then (Grt.zero,preR g (reqOf now holder t own (heldG g id)) (heldG g id) fresh,g) else if (longM g t).1≠0 then (Grt.zero,longM g t) else
  if fresh=true then
   if (apM (longM g t).2.l (recF id (extS own.stamp (longM g t).2.l.book.next))).1≠0 then (Grt.zero,(apM (longM g t).2.l (recF id (extS own.stamp (longM g t).2.l.book.next))).1,{ (longM g t).2 with l:=(apM (longM g t).2.l (recF id (extS own.stamp (longM g t).2.l.book.next))).2 })
   else (shownG (raiseG { (longM g t).2 with l:=(apM (longM g t).2.l (recF id (extS own.stamp (longM g t).2.l.book.next))).2 } id (now+t)) id,0,raiseG { (longM g t).2 with l:=(apM (longM g t).2.l (recF id (extS own.stamp (longM g t).2.l.book.next))).2 } id (now+t))
  else (shownG (raiseG (longM g t).2 id (now+t)) id,0,raiseG (longM g t).2 id (now+t))
theorem firstI_mem:∀ {l:List Int},firstI l=0→∀ k,k∈l→k=0
 | [],_,k,hk=>by cases hk
 | x::r,h,k,hk=>by
   unfold firstI at h
   by_cases hx:x=0
   · rw [if_pos hx] at h
     rcases List.mem_cons.1 hk with e | e
     · rw [e];exact hx
     · exact firstI_mem h k e
   · rw [if_neg hx] at h;exact absurd h hx
structure Sm (g g0:Gtr):Prop where
 bk:g.l.book=g0.l.book
 es:g.es=g0.es
 nt:g.nt=g0.nt
 ends:g.ends=g0.ends
structure Al (d:Dk) (g:Gtr) (G:Nat):Prop where
 gi:GI g
 lg:LgS d g.l G
 arm:d.armed=false
 off:d.off=false
theorem Al.mono {d:Dk} {g:Gtr} {G H:Nat} (h:Al d g G) (k:G≤H):Al d g H:=⟨h.gi,h.lg.mono k,h.arm,h.off⟩
theorem Al.n49 {d:Dk} {g:Gtr} {G:Nat} (h:Al d g G):49≤d.secs.length:=h.lg.n49
section
variable {d:Dk} {g g0:Gtr} {G:Nat}
theorem sim_append (h:Al d g G) (s:Sm g g0) (hG:G+1<1073741824) (r:Rcd):(appendD d g.l r).1=(apM g0.l r).1∧(appendD d g.l r).2.2.book=(apM g0.l r).2.book∧LgS (appendD d g.l r).2.1 (appendD d g.l r).2.2 (G+1)∧(appendD d g.l r).2.1.armed=false∧(appendD d g.l r).2.1.off=false:=by
 obtain ⟨h1,h2,h3,h4⟩:=h.lg.append hG r
 have hnd:g.l.dead=false:=by
  cases e:g.l.dead with
  | false=>rfl
  | true=>have:=h.lg.dead_off e;rw [h.off] at this;cases this
 unfold apM
 rw [← s.bk]
 cases h3 with
 | ok a b c o w =>
   rw [if_pos b]
   exact ⟨a,c,h1,h2.arm h.arm,o⟩
 | cut a b o c =>
   rcases c with c | c
   · rw [hnd] at c;cases c
   · rw [h.arm] at c;cases c
 | bad a b c e o =>
   rcases c with c | c
   · rw [if_neg (by rw [← c];exact a)]
     exact ⟨c,by rw [e];exact s.bk,h1,h2.arm h.arm,by rw [e];exact h.off⟩
   · exact absurd c h4
theorem sim_long (h:Al d g G) (s:Sm g g0) (hG:G+1<1073741824) (t:Int):(longG d g t).1=(longM g0 t).1∧Sm (longG d g t).2.2 (longM g0 t).2∧Al (longG d g t).2.1 (longG d g t).2.2 (G+1):=by
 have hi:=(h.gi.long d t).1
 unfold longG longM at *
 rw [← s.bk]
 by_cases e:t≤g.l.book.longest
 · rw [if_pos e,if_pos e]
   exact ⟨rfl,s,h.mono (Nat.le_succ _)⟩
 · rw [if_neg e] at hi ⊢
   rw [if_neg e]
   obtain ⟨a,b,c,f,o⟩:=sim_append h s hG (recL t)
   exact ⟨a,⟨b,s.es,s.nt,s.ends⟩,⟨hi,c,f,o⟩⟩
theorem sim_over (h:Al d g G) (s:Sm g g0) (hG:G+1<1073741824) (id:Int):(overG d g id).1=(overM g0 id).1∧Sm (overG d g id).2.2 (overM g0 id).2∧Al (overG d g id).2.1 (overG d g id).2.2 (G+1):=by
 have hi:=(h.gi.over d id).1
 obtain ⟨a,b,c,f,o⟩:=sim_append h s hG (recE id)
 unfold overG overM at *
 dsimp only at *
 rw [← a]
 by_cases e:(appendD d g.l (recE id)).1=0
 · rw [if_pos e] at hi ⊢
   rw [if_pos e]
   exact ⟨rfl,⟨b,by rw [s.es],by rw [s.nt],s.ends⟩,⟨hi,c,f,o⟩⟩
 · rw [if_neg e] at hi ⊢
   rw [if_neg e]
   exact ⟨rfl,⟨b,s.es,s.nt,s.ends⟩,⟨hi,c,f,o⟩⟩
end
theorem sim_sweep (now:Int):∀ (ids:List Int) {d:Dk} {g g0:Gtr} {G:Nat},Al d g G→Sm g g0→G+ids.length<1073741824→(sweepG now ids d g).1=(sweepM now ids g0).1∧Sm (sweepG now ids d g).2.2 (sweepM now ids g0).2∧Al (sweepG now ids d g).2.1 (sweepG now ids d g).2.2 (G+ids.length)
 | [],d,g,g0,G,h,s,_=>⟨rfl,s,h⟩
 | id::r,d,g,g0,G,h,s,hG=>by
   simp only [List.length_cons] at hG ⊢
   unfold sweepG sweepM
   rw [← s.nt]
   by_cases e:now<(ntAt g.nt id).exp
   · rw [if_pos e,if_pos e]
     obtain ⟨a,b,c⟩:=sim_sweep now r h s (by omega)
     exact ⟨a,b,c.mono (by omega)⟩
   · rw [if_neg e,if_neg e]
     obtain ⟨a,b,c⟩:=sim_over h s (by omega) id
     rw [← a]
     by_cases e2:(overG d g id).1=0
     · rw [if_pos e2,if_pos e2]
       obtain ⟨a2,b2,c2⟩:=sim_sweep now r c b (by omega)
       exact ⟨a2,b2,c2.mono (by omega)⟩
     · rw [if_neg e2,if_neg e2]
       exact ⟨a,b,c.mono (by omega)⟩
section
variable {d:Dk} {g g0:Gtr} {G:Nat}
theorem sim_write (h:Al d g G) (s:Sm g g0) (hG:G+7<1073741824) (r:Req):(writeG d g r).1=(writeM g0 r).1∧Sm (writeG d g r).2.2 (writeM g0 r).2∧Al (writeG d g r).2.1 (writeG d g r).2.2 (G+7):=by
 obtain ⟨a,b,c⟩:=sim_long h s (by omega) r.t
 unfold writeG writeM
 dsimp only
 rw [← a,← b.bk,c.gi.under]
 by_cases e:(longG d g r.t).1=0
 · rw [if_pos e,if_pos e]
   have hl:((longG d g r.t).2.2.l.book.grants.map Grt.id).length≤6:=by rw [List.length_map];exact c.gi.six
   obtain ⟨a2,b2,c2⟩:=sim_sweep r.now ((longG d g r.t).2.2.l.book.grants.map Grt.id) c b (by omega)
   exact ⟨a2,b2,c2.mono (by omega)⟩
 · rw [if_neg e,if_neg e]
   exact ⟨a,b,c.mono (by omega)⟩
theorem Sm.pre (s:Sm g g0) (r:Req):preI g r=preI g0 r:=by
 unfold preI restedI roomI countsI
 rw [s.bk,s.es,s.nt,s.ends]
theorem Sm.list (s:Sm g g0):listG g=listG g0:=by
 unfold listG
 rw [s.bk,s.nt]
theorem Sm.held (s:Sm g g0) (id:Int):heldG g id=heldG g0 id:=by
 unfold heldG
 rw [s.list]
theorem Sm.preR (s:Sm g g0) (r:Req) (o:Option Hld) (f:Bool):preR g r o f=preR g0 r o f:=by
 unfold Go.Proofs.YtllljngpgjkdiaaGreatDoor.preR countsI
 rw [s.bk]
theorem Sm.raise (s:Sm g g0) (id e:Int):Sm (raiseG g id e) (raiseG g0 id e):=⟨s.bk,s.es,by unfold raiseG;rw [s.nt],s.ends⟩
theorem Sm.shown (s:Sm g g0) (id:Int):shownG g id=shownG g0 id:=by
 unfold shownG
 rw [s.held]
theorem Sm.blocks (s:Sm g g0) (now:Int) (p:List UInt8) (m:Int):blocksG g now p m=blocksG g0 now p m:=by
 unfold blocksG
 rw [s.es,s.nt]
theorem sim_grant (h:Al d g G) (s:Sm g g0) (hG:G+8<1073741824) (r:Req):(grantG d g r).1=(grantM g0 r).1∧(grantG d g r).2.1=(grantM g0 r).2.1∧Sm (grantG d g r).2.2.2 (grantM g0 r).2.2∧Al (grantG d g r).2.2.1 (grantG d g r).2.2.2 (G+8):=by
 unfold grantG grantM
 dsimp only
 rw [← pre_eq,← s.pre r]
 by_cases e0:preI g r≠0
 · rw [if_pos e0,if_pos e0]
   exact ⟨rfl,rfl,s,h.mono (by omega)⟩
 rw [if_neg e0,if_neg e0]
 obtain ⟨a,b,c⟩:=sim_write h s (by omega) r
 rw [← a]
 by_cases e1:(writeG d g r).1≠0
 · rw [if_pos e1,if_pos e1]
   exact ⟨rfl,a,b,c.mono (by omega)⟩
 rw [if_neg e1,if_neg e1]
 have hx:grantOf (writeM g0 r).2 r=grantOf (writeG d g r).2.2 r:=by unfold grantOf;rw [b.bk]
 rw [hx]
 obtain ⟨a2,b2,c2,f2,o2⟩:=sim_append c b (by omega) (recG (grantOf (writeG d g r).2.2 r))
 obtain ⟨-,k1,k2⟩:=c.gi.grant (writeG d g r).2.1 (x:=grantOf (writeG d g r).2.2 r) (r.now+r.t)
 rw [← a2]
 by_cases e2:(appendD (writeG d g r).2.1 (writeG d g r).2.2.l (recG (grantOf (writeG d g r).2.2 r))).1≠0
 · rw [if_pos e2,if_pos e2]
   exact ⟨rfl,rfl,⟨b2,b.es,b.nt,b.ends⟩,⟨(k2 e2).1,c2,f2,o2⟩⟩
 · rw [if_neg e2,if_neg e2]
   refine ⟨rfl,rfl,⟨b2,?_,?_,b.ends⟩,⟨(k1 (Decidable.not_not.1 e2)).1,c2,f2,o2⟩⟩
   · show (putS5 (writeG d g r).2.2.es _).1=(putS5 (writeM g0 r).2.es _).1;rw [b.es]
   · show ntSet (writeG d g r).2.2.nt _ _=ntSet (writeM g0 r).2.nt _ _;rw [b.nt]
theorem preR_held {g:Gtr} {r:Req} {id:Int} {f:Bool} (h:preR g r (heldG g id) f=0):∃ x,x∈g.l.book.grants∧x.id=id:=by
 have q:=firstI_mem h (knownI (heldG g id) r.now r.holder) (by simp)
 obtain ⟨o,ho⟩:∃ o,heldG g id=o:=⟨_,rfl⟩
 rw [ho] at q
 cases o with
 | none=>simp [knownI] at q
 | some x =>
   unfold heldG at ho
   have h1:=List.mem_of_find?_eq_some ho
   have h2:=List.find?_some ho
   unfold listG at h1
   obtain ⟨y,hy,rfl⟩:=List.mem_map.1 h1
   exact ⟨y,hy,of_decide_eq_true h2⟩
theorem sim_renew (h:Al d g G) (s:Sm g g0) (hG:G+8<1073741824) (now:Int) (own:Lease) (id holder t:Int) (fresh:Bool) :
 (renewG d g now own id holder t fresh).1=(renewM g0 now own id holder t fresh).1∧(renewG d g now own id holder t fresh).2.1=(renewM g0 now own id holder t fresh).2.1∧Sm (renewG d g now own id holder t fresh).2.2.2 (renewM g0 now own id holder t fresh).2.2∧Al (renewG d g now own id holder t fresh).2.2.1 (renewG d g now own id holder t fresh).2.2.2 (G+8):=by
 unfold renewG renewM
 dsimp only
 rw [← s.held id,← s.preR]
 by_cases e0:preR g (reqOf now holder t own (heldG g id)) (heldG g id) fresh≠0
 · rw [if_pos e0,if_pos e0]
   exact ⟨rfl,rfl,s,h.mono (by omega)⟩
 rw [if_neg e0,if_neg e0]
 obtain ⟨x,hx,hid⟩:=preR_held (Decidable.not_not.1 e0)
 obtain ⟨a,b,c⟩:=sim_long h s (by omega) t
 have hgr:=(h.gi.long d t).2.2.2.2.1
 have hin:∃ x,x∈(longG d g t).2.2.l.book.grants∧x.id=id:=⟨x,by rw [hgr];exact hx,hid⟩
 rw [← a]
 by_cases e1:(longG d g t).1≠0
 · rw [if_pos e1,if_pos e1]
   exact ⟨rfl,a,b,c.mono (by omega)⟩
 rw [if_neg e1,if_neg e1]
 cases fresh with
 | true =>
   rw [if_pos rfl,if_pos rfl,← b.bk]
   obtain ⟨a2,b2,c2,f2,o2⟩:=sim_append c b (by omega) (recF id (extS own.stamp (longG d g t).2.2.l.book.next))
   obtain ⟨k1,-,k3,-⟩:=c.gi.fresh (longG d g t).2.1 id (extS own.stamp (longG d g t).2.2.l.book.next)
   rw [← a2]
   have s2:Sm { (longG d g t).2.2 with l:=(appendD (longG d g t).2.1 (longG d g t).2.2.l (recF id (extS own.stamp (longG d g t).2.2.l.book.next))).2.2 } { (longM g0 t).2 with l:=(apM (longM g0 t).2.l (recF id (extS own.stamp (longG d g t).2.2.l.book.next))).2 }:=⟨b2,b.es,b.nt,b.ends⟩
   by_cases e2:(appendD (longG d g t).2.1 (longG d g t).2.2.l (recF id (extS own.stamp (longG d g t).2.2.l.book.next))).1≠0
   · rw [if_pos e2,if_pos e2]
     exact ⟨rfl,rfl,s2,⟨k1,c2.mono (by omega),f2,o2⟩⟩
   · rw [if_neg e2,if_neg e2]
     have hin2:∃ x,x∈(appendD (longG d g t).2.1 (longG d g t).2.2.l (recF id (extS own.stamp (longG d g t).2.2.l.book.next))).2.2.book.grants∧x.id=id:=by
      rw [(k3 (Decidable.not_not.1 e2)).2]
      exact mem_setSt hin
     exact ⟨(s2.raise id (now+t)).shown id,rfl,s2.raise id (now+t),⟨k1.raise hin2 (now+t),c2.mono (by omega),f2,o2⟩⟩
 | false =>
   rw [if_neg (by decide),if_neg (by decide)]
   exact ⟨(b.raise id (now+t)).shown id,rfl,b.raise id (now+t),⟨c.gi.raise hin (now+t),c.lg.mono (by omega),c.arm,c.off⟩⟩
end
end Go.Proofs.YtllljngpgjkdiaaGreatDoor
/-
  PLAIN, NO WALK: layer 16: a grantor of a new disk; what the document's examples answer.
-/
namespace Go.Proofs.YtllljngpgjkdiaaGreatDoor
open Go.RowKit

def gF:Gtr:=⟨newL,[],[],0⟩
theorem fresh_law:∃ d1,openD (newD 49)=(0,d1,some newL)∧Al d1 gF 1∧d1.writes=1∧openG newL 0=gF:=by
 obtain ⟨d1,h1,h2,h3,h4⟩:=calm_new (d:=newD 49) (n:=49) (by omega) (by omega) rfl rfl (newD_ok (by omega) (by omega)) rfl rfl
 have hg:openG newL 0=gF:=by kernel_rfl
 refine ⟨d1,h1,⟨?_,⟨h2.inv.lok,by omega,h2.gens,Nat.le_refl _,h2.inv.ok,.inl ⟨h2.off,rfl,h2.inv⟩⟩,h2.arm,h2.off⟩,h3,hg⟩
 rw [← hg]
 exact (open_GI h2.inv.lok 0).1
def rootL:Lease:=⟨0,0,⟨#[]⟩,2,[],0,0,4611686018427387904,false⟩
def r1:Req:=⟨10,1,100,rootL,⟨#[97]⟩,2⟩
def r2:Req:=⟨20,2,50,rootL,⟨#[97,47,98]⟩,1⟩
def r3:Req:=⟨20,1,50,rootL,⟨#[97,47,98]⟩,1⟩
def r5:Req:=⟨110,2,10,rootL,⟨#[97]⟩,2⟩
def s1:Gtr:=(grantM gF r1).2.2
def s2:Gtr:=(grantM s1 r2).2.2
def s3:Gtr:=(grantM s2 r3).2.2
def s4:Gtr:=(renewM s3 50 rootL 1 1 30 true).2.2
def s5:Gtr:=(grantM s4 r5).2.2
theorem aw1:(grantM gF r1).1=⟨1,1,⟨#[97]⟩,2,[1],100⟩∧(grantM gF r1).2.1=0:=⟨by kernel_rfl,by kernel_rfl⟩
theorem aw2:(grantM s1 r2).1=Grt.zero∧(grantM s1 r2).2.1=60:=⟨by kernel_rfl,by kernel_rfl⟩
theorem aw3:(grantM s2 r3).1=⟨2,1,⟨#[97,47,98]⟩,1,[2],50⟩∧(grantM s2 r3).2.1=0:=⟨by kernel_rfl,by kernel_rfl⟩
theorem aw4:(renewM s3 50 rootL 1 1 30 true).1=⟨1,1,⟨#[97]⟩,2,[3],100⟩∧(renewM s3 50 rootL 1 1 30 true).2.1=0:=⟨by kernel_rfl,by kernel_rfl⟩
theorem aw5:listG s4=[⟨⟨1,1,⟨#[97]⟩,2,[3],100⟩,110,0,0⟩,⟨⟨2,1,⟨#[97,47,98]⟩,1,[2],50⟩,70,0,0⟩]:=by kernel_rfl
theorem aw6:blocksG s4 50 (ByteArray.mk #[97,47,99]).data.toList 1=true∧blocksG s4 110 (ByteArray.mk #[97,47,99]).data.toList 1=false:=⟨by rw [blocks_eqM];kernel_rfl,by rw [blocks_eqM];kernel_rfl⟩
theorem aw7:(grantM s4 r5).1=⟨4,2,⟨#[97]⟩,2,[4],10⟩∧(grantM s4 r5).2.1=0:=⟨by kernel_rfl,by kernel_rfl⟩
theorem aw8:listG s5=[⟨⟨4,2,⟨#[97]⟩,2,[4],10⟩,120,0,0⟩]∧s5.ends=0:=⟨by kernel_rfl,by kernel_rfl⟩
theorem Sm.mark {g g0:Gtr} (s:Sm g g0) (id o n:Int):(markG g id o n).1=(markG g0 id o n).1∧Sm (markG g id o n).2 (markG g0 id o n).2:=by
 unfold markG
 rw [s.held]
 cases heldG g0 id with
 | none=>exact ⟨rfl,s⟩
 | some x =>
   dsimp only
   split
   · exact ⟨rfl,s⟩
   · exact ⟨rfl,⟨s.bk,s.es,by dsimp only;rw [s.nt],s.ends⟩⟩
theorem aw9:(markG s5 4 0 9).1=true∧(markG (markG s5 4 0 9).2 4 0 9).1=false:=⟨by kernel_rfl,by kernel_rfl⟩
theorem mark_GI {g:Gtr} (h:GI g) (id o n:Int):GI (markG g id o n).2:=by
 unfold markG
 cases e:heldG g id with
 | none=>exact h
 | some x =>
   dsimp only
   split
   · exact h
   · unfold heldG at e
     have h1:=List.mem_of_find?_eq_some e
     have h2:=List.find?_some e
     unfold listG at h1
     obtain ⟨y,hy,rfl⟩:=List.mem_map.1 h1
     have e2:y.id=id:=of_decide_eq_true h2
     rw [← e2]
     exact h.note hy _
end Go.Proofs.YtllljngpgjkdiaaGreatDoor
/-
  PLAIN, NO WALK: layer 16: what Grant and Renew do, whatever the power does; any run of calls.
-/
namespace Go.Proofs.YtllljngpgjkdiaaGreatDoor
open Go.RowKit

end Go.Proofs.YtllljngpgjkdiaaGreatDoor
/-
  PLAIN, NO WALK: layer 16: what Renew, End, Done do, whatever the power does.
-/
namespace Go.Proofs.YtllljngpgjkdiaaGreatDoor
open Go.RowKit

theorem grantG_GI' {g:Gtr} (h:GI g) (d:Dk) (r:Req):GI (grantG d g r).2.2.2∧(grantG d g r).2.2.1.secs.length=d.secs.length:=by
 unfold grantG
 dsimp only
 split
 · exact ⟨h,rfl⟩
 obtain ⟨k1,k2,_⟩:=write_GI h d r
 split
 · exact ⟨k1,k2⟩
 obtain ⟨l1,l2,l3⟩:=k1.grant (writeG d g r).2.1 (x:=grantOf (writeG d g r).2.2 r) (r.now+r.t)
 split
 · rename_i e
   exact ⟨(l3 e).1,l1.trans k2⟩
 · rename_i e
   exact ⟨(l2 (Decidable.not_not.1 e)).1,l1.trans k2⟩
theorem renewG_GI' {g:Gtr} (h:GI g) (d:Dk) (now:Int) (own:Lease) (id holder t:Int) (fresh:Bool):GI (renewG d g now own id holder t fresh).2.2.2∧(renewG d g now own id holder t fresh).2.2.1.secs.length=d.secs.length:=by
 unfold renewG
 dsimp only
 split
 · exact ⟨h,rfl⟩
 rename_i e0
 obtain ⟨x,hx,hid⟩:=preR_held (Decidable.not_not.1 e0)
 obtain ⟨k1,-,-,-,k5,-⟩:=h.long d t
 have k2:=long_len d g t
 have hin:∃ x,x∈(longG d g t).2.2.l.book.grants∧x.id=id:=⟨x,by rw [k5];exact hx,hid⟩
 split
 · exact ⟨k1,k2⟩
 obtain ⟨l1,l2,l3,-⟩:=k1.fresh (longG d g t).2.1 id (extS own.stamp (longG d g t).2.2.l.book.next)
 split
 · split
   · exact ⟨l1,l2.trans k2⟩
   · rename_i e2
     refine ⟨l1.raise ?_ (now+t),l2.trans k2⟩
     rw [(l3 (Decidable.not_not.1 e2)).2]
     exact mem_setSt hin
 · exact ⟨k1.raise hin (now+t),k2⟩
end Go.Proofs.YtllljngpgjkdiaaGreatDoor
/-
  PLAIN, NO WALK: layer 16: any run of calls, power cuts and beginnings.
-/
namespace Go.Proofs.YtllljngpgjkdiaaGreatDoor
open Go.RowKit

structure OpG where
 kind:Int
 now:Int
 own:Lease
 id:Int
 holder:Int
 path:ByteArray
 mode:Int
 t:Int
 k:Int
 fresh:Bool
 origin:Int
 number:Int
def clashB (a b:Grt):Bool:=decide (a.holder≠b.holder)&&(coversB a.path.data.toList b.path.data.toList||coversB b.path.data.toList a.path.data.toList)&&(decide (a.mode≠1)||decide (b.mode≠1))
def NoCl (l:List Grt):Prop:=∀ a,a∈l→∀ b,b∈l→clashB a b=false
theorem NoCl.sub {l m:List Grt} (h:NoCl l) (s:m.Sublist l):NoCl m:=fun a ha b hb=>h a (s.subset ha) b (s.subset hb)
theorem clash_st (id:Int) (s:List Int) (a b:Grt):clashB (setSt id s a) (setSt id s b)=clashB a b:=by
 unfold clashB setSt
 split <;> split <;> rfl
theorem NoCl.st {l:List Grt} (h:NoCl l) (id:Int) (s:List Int):NoCl (l.map (setSt id s)):=by
 intro a ha b hb
 obtain ⟨x,hx,rfl⟩:=List.mem_map.1 ha
 obtain ⟨y,hy,rfl⟩:=List.mem_map.1 hb
 rw [clash_st]
 exact h x hx y hy
structure Rn (k:Nat) (d:Dk) (g:Gtr):Prop where
 gi:GI g
 lg:LgS d g.l (1+8 * k)
 w:0≤d.writes∧d.writes≤1+170 * k
 cl:NoCl g.l.book.grants
 nx:g.l.book.next≤1+k
theorem Rn.wr {k:Nat} {d d':Dk} {g:Gtr} (h:Rn k d g) (w:Wr d d' 160) (hk:k≤1000):0≤d'.writes∧d'.writes≤1+170 * ((k+1:Nat):Int):=by
 have:=w.cnt h.w.1 (by have:=h.w.2;omega)
 have:=h.w
 omega
end Go.Proofs.YtllljngpgjkdiaaGreatDoor
