/-
  LedPm LedPr: see the remarks below.
-/
import Derived.Test.YtpphoeimakjjdaaGreatDoorMLedPl
import Derived.Test.YtpphoeimakjjdaaGreatDoorMLedOp
import Derived.Test.YtpphoeimakjjdaaGreatDoorMLedRg17
import Derived.StillTailTactics
import Derived.Deep.RegionHeld3
import Derived.BigQuiet
/-
  WALKS: layer 12: the law's own 'same': a ledger of the program's and one of the document's.
-/
namespace Go.Proofs.YtpphoeimakjjdaaGreatDoor
set_option maxRecDepth 100000
set_option maxHeartbeats 8000000
open Go.RowKit Go.Shelf

def TSm (W w':World):Prop:=Mod [] W w'
theorem tsm_of {W w':World} {B xm xd:Nat} {c0 c1 c2 c3 c4 c5 c6 c7 x1 x2 x3 x4 x5 x6 x7 x8 x9 xp d0 d1 d2 d3:Value} {T1 T2 T3:TypeId} (h:W.heap[B]?=some (.cells #[c0,c1,c2,c3,c4,c5,c6,c7] T1 (0,0))∧W.heap[xm]?=some (.cells #[xp,x1,x2,x3,x4,x5,x6,x7,x8,x9] T2 (0,0))∧W.heap[xd]?=some (.cells #[d0,d1,d2,d3] T3 (0,0))) (m:Mod [] W w') :
 TSm W w'∧w'.cell? ⟨B,0,none⟩=some c0∧w'.cell? ⟨B,2,none⟩=some c2∧w'.cell? ⟨B,3,none⟩=some c3∧w'.cell? ⟨B,4,none⟩=some c4∧w'.cell? ⟨B,5,none⟩=some c5∧w'.cell? ⟨B,6,none⟩=some c6∧w'.cell? ⟨B,7,none⟩=some c7∧w'.cell? ⟨xm,0,none⟩=some xp∧w'.cell? ⟨xd,1,none⟩=some d1∧w'.cell? ⟨xd,3,none⟩=some d3 :=
 ⟨m,m.kept (blk_cell h.1 0) (by simp),m.kept (blk_cell h.1 2) (by simp),m.kept (blk_cell h.1 3) (by simp),m.kept (blk_cell h.1 4) (by simp),m.kept (blk_cell h.1 5) (by simp),m.kept (blk_cell h.1 6) (by simp),m.kept (blk_cell h.1 7) (by simp),m.kept (blk_cell h.2.1 0) (by simp),m.kept (blk_cell h.2.2 1) (by simp),m.kept (blk_cell h.2.2 3) (by simp)⟩
section
variable {w0 w:World} {pl pd bs:Nat} {d:Dk} {l:Lg}
theorem recs_q (s:LS w0 w pl pd bs d l):Calls Tryz.prog 22 #[.pointer (some ⟨pl,0,none⟩)] w fun e w'=>e=.returned (.int .i64 (l.seq:Int))∧LS w0 w' pl pd bs d l∧Mod [] w w' :=
 (recs_eq s rfl).mono fun e w' hx=>by obtain ⟨he,rfl⟩:=hx;exact ⟨he,s,Mod.refl _ _⟩
theorem gen_q (s:LS w0 w pl pd bs d l):Calls Tryz.prog 23 #[.pointer (some ⟨pl,0,none⟩)] w fun e w'=>e=.returned (.int .i64 (l.gen:Int))∧LS w0 w' pl pd bs d l∧Mod [] w w' :=
 (gen_eq s rfl).mono fun e w' hx=>by obtain ⟨he,rfl⟩:=hx;exact ⟨he,s,Mod.refl _ _⟩
theorem used_q (s:LS w0 w pl pd bs d l):Calls Tryz.prog 24 #[.pointer (some ⟨pl,0,none⟩)] w fun e w'=>e=.returned (.int .i64 (l.used:Int))∧LS w0 w' pl pd bs d l∧Mod [] w w' :=
 (used_eq s rfl).mono fun e w' hx=>by obtain ⟨he,rfl⟩:=hx;exact ⟨he,s,Mod.refl _ _⟩
theorem writes_q (s:LS w0 w pl pd bs d l):Calls Tryz.prog 13 #[.pointer (some ⟨pd,0,none⟩)] w fun e w'=>e=.returned (.int .i64 d.writes)∧LS w0 w' pl pd bs d l∧Mod [] w w' :=
 (writes_eq s rfl).mono fun e w' hx=>by obtain ⟨he,rfl⟩:=hx;exact ⟨he,s,Mod.refl _ _⟩
theorem off_q (s:LS w0 w pl pd bs d l):Calls Tryz.prog 26 #[.pointer (some ⟨pd,0,none⟩)] w fun e w'=>e=.returned (.bool d.off)∧LS w0 w' pl pd bs d l∧Mod [] w w' :=
 (off_any s.dk).mono fun e w' hx=>by obtain ⟨he,rfl⟩:=hx;exact ⟨he,s,Mod.refl _ _⟩
theorem book_q (s:LS w0 w pl pd bs d l) (hv:validB l.book=true) :
 Calls Tryz.prog 19 #[.pointer (some ⟨pl,0,none⟩)] w fun e w'=>∃ q n k lv,e=.returned (.agg #[.int .i64 l.book.next,.int .i64 l.book.boots,.int .i64 l.book.longest,.slice q n k])∧BkM w' w.heap.size (.slice q n k) l.book lv∧LS w0 w' pl pd bs d l∧Mod [] w w' :=
 (book_eq s hv).mono fun e w' hx=>by obtain ⟨q,n,k,lv,he,hbm,m,s'⟩:=hx;exact ⟨q,n,k,lv,he,hbm,s',m⟩
theorem rsame_q {base1 base2 n1 n2 c1 c2:Nat} {q1 q2:Option Addr} {a:Bk} {l1 l2:List (Grt × Value)} (h1:BkM w base1 (.slice q1 n1 c1) a l1) (h2:BkM w base2 (.slice q2 n2 c2) a l2) :
 Calls Tryz.prog 20 #[.agg #[.int .i64 a.next,.int .i64 a.boots,.int .i64 a.longest,.slice q1 n1 c1],.agg #[.int .i64 a.next,.int .i64 a.boots,.int .i64 a.longest,.slice q2 n2 c2]] w fun e w'=>e=.returned (.bool true)∧Mod [] w w' :=
 (rsame_any h1 h2).mono fun e w' hx=>by obtain ⟨he,m⟩:=hx;exact ⟨by rw [he];simp,m⟩
variable {base xm xd b1:Nat} {K:List Nat} {sv gv:Value} {vs:List Value} {lv:List (Grt × Value)}
theorem lsame_any (s:LS w0 w pl pd bs d l) (h:RlM w base K xm xd sv vs b1 gv lv d l) (hv:validB l.book=true) :
 Calls Tryz.prog 34 #[.pointer (some ⟨pl,0,none⟩),.pointer (some ⟨pd,0,none⟩),.pointer (some ⟨xm,0,none⟩)] w fun e w'=>e=.returned (.bool true)∧Mod [] w w':=by
 obtain ⟨qg,cg,hgv,-⟩:=h.bk.gr.shape
 obtain ⟨ng,hng⟩:∃ x,lv.length=x:=⟨_,rfl⟩
 rw [hng] at hgv
 clear hng
 subst hgv
 have hnow:=rnow_any h
 have HI:=Hj3 s h hv
 clear s h hv
 unfold stC at hnow
 go_enter Tryz.func34,Tryz.ntmps34
 go_upto_region 2 with (first
  | (go_at_call 70;refine hnow.mono ?_;rintro e w1 ⟨rfl,m1⟩;have H1:=hide m1;clear m1 hnow)
  | fail)
 obtain ⟨W0,hW0⟩:∃ x,x=w1.alloc (.cells #[.int .i64 (l.gen:Int),.int .i64 (l.area:Int),.int .i64 (l.seq:Int),.int .i64 (l.used:Int),.int .i64 l.book.next,.int .i64 l.book.boots,.int .i64 l.book.longest,.slice qg ng cg] 103 (0,0)):=⟨_,rfl⟩
 have hb:=heap_alloc_new w1 (.cells #[.int .i64 (l.gen:Int),.int .i64 (l.area:Int),.int .i64 (l.seq:Int),.int .i64 (l.used:Int),.int .i64 l.book.next,.int .i64 l.book.boots,.int .i64 l.book.longest,.slice qg ng cg] 103 (0,0))
 have m0:Mod [] w W0:=by rw [hW0];exact H1.out.alloc _
 rw [← hW0] at hb ⊢
 clear hW0
 have h0:=HI.out.2.1.quiet m0
 have hx:=h0.blk
 unfold rlC at hx
 have HB:=Hj3 hb hx h0.dm.blk
 have HS:=Hj4 (HI.out.1.quiet m0) h0.bk m0 HI.out.2.2
 clear hb hx h0 m0 H1 HI
 have hbk:Hid (∀ w',Mod [] W0 w'→BkM w' b1 (.slice qg ng cg) l.book lv):=hide fun w' m=>⟨HS.out.2.1.gr.mod m (by simp),HS.out.2.1.eq⟩
 have i1:((l.seq:Int)==(l.seq:Int))=true:=by simp
 have i2:((l.gen:Int)==(l.gen:Int))=true:=by simp
 have i3:((l.used:Int)==(l.used:Int))=true:=by simp
 have i4:(d.writes==d.writes)=true:=by simp
 have i5:(d.off==d.off)=true:=by simp
 go_region_held3 (fun w'=>TSm W0 w'∧w'.cell? ⟨w1.heap.size,0,none⟩=some (.int .i64 (l.gen:Int))∧w'.cell? ⟨w1.heap.size,2,none⟩=some (.int .i64 (l.seq:Int))∧w'.cell? ⟨w1.heap.size,3,none⟩=some (.int .i64 (l.used:Int))∧w'.cell? ⟨w1.heap.size,4,none⟩=some (.int .i64 l.book.next)∧w'.cell? ⟨w1.heap.size,5,none⟩=some (.int .i64 l.book.boots)∧w'.cell? ⟨w1.heap.size,6,none⟩=some (.int .i64 l.book.longest)∧w'.cell? ⟨w1.heap.size,7,none⟩=some (.slice qg ng cg)∧w'.cell? ⟨xm,0,none⟩=some (.pointer (some ⟨xd,0,none⟩))∧w'.cell? ⟨xd,1,none⟩=some (.int .i64 d.writes)∧w'.cell? ⟨xd,3,none⟩=some (.bool d.off))
  (first | (exact tsm_of HB.out ((Mod.refl [] W0).drew)) | (go_split_ands;exact tsm_of HB.out (Mod.then (by assumption) hmX)))
  (first
    | (go_at_call 19;refine (book_q (HS.out.1.quiet (Mod.refl [] W0).drew) HS.out.2.2.2).mono ?_;rintro e x1 ⟨q1,n1,c1,lv1,rfl,bk1,s1,hmX⟩)
    | (go_at_call 20;go_split_ands;refine (rsame_q bk1 (hbk.out _ (by assumption))).mono ?_;rintro e x2 ⟨rfl,hmX⟩;have s2:=s1.quiet hmX)
    | (go_at_call 22;refine (recs_q s2).mono ?_;rintro e x3 ⟨rfl,s3,hmX⟩)
    | (go_at_call 23;refine (gen_q s3).mono ?_;rintro e x4 ⟨rfl,s4,hmX⟩)
    | (go_at_call 24;refine (used_q s4).mono ?_;rintro e x5 ⟨rfl,s5,hmX⟩)
    | (go_at_call 13;refine (writes_q s5).mono ?_;rintro e x6 ⟨rfl,s6,hmX⟩)
    | (go_at_call 26;refine (off_q s6).mono ?_;rintro e x7 ⟨rfl,s7,hmX⟩)
    | fail)
 go_split_ands
 have hTL:Mod [] W0 x7:=by assumption
 go_wp2_with fail
 go_ret
 exact ⟨rfl,HS.out.2.2.1.then hTL⟩
end
end Go.Proofs.YtpphoeimakjjdaaGreatDoor
/-
  WALKS: layer 12: a ledger of the program's and one of the document's, side by side.
-/
namespace Go.Proofs.YtpphoeimakjjdaaGreatDoor
open Go.RowKit Go.Shelf

def Oth (w:World) (k:Nat):Prop:=∃ (cs:Array Value) (T:TypeId),w.heap[k]?=some (.cells cs T (0,0))∧T≠40∧T≠3
theorem GrM.oth {w w':World} {base:Nat} {v:Value} {lv:List (Grt × Value)} (h:GrM w base v lv) {S:List Nat} (m:Mod S w w') (hS:∀ k,k∈S→Oth w k):GrM w' base v lv:=by
 refine ⟨m.row h.row (fun k hk e=>?_),fun p hp=>⟨m.row (h.st p hp).1 (fun k hk e=>?_),(h.st p hp).2⟩⟩
 · obtain ⟨cs,T,hb,h1,h2⟩:=hS k e
   exact row_not h.row hb h1 (by simp [ob,hk])
 · obtain ⟨cs,T,hb,h1,h2⟩:=hS k e
   exact row_not (h.st p hp).1 hb h2 (by simp [ob,hk])
theorem LS.oth {w0 w w':World} {pl pd bs:Nat} {d:Dk} {l:Lg} (s:LS w0 w pl pd bs d l) {S:List Nat} (m:Mod S w w') (hS:∀ k,k∈S→w0.heap.size≤k∧k≠pl∧k≠pd∧k≠bs∧Oth w k):LS w0 w' pl pd bs d l:=by
 obtain ⟨gv,lv,h⟩:=s.mem
 exact ⟨⟨gv,lv,m.at_ h.blk (fun e=>(hS _ e).2.1 rfl),h.dk.mod m (fun e=>(hS _ e).2.2.1 rfl) (fun e=>(hS _ e).2.2.2.1 rfl),⟨h.bk.gr.oth m (fun k hk=>(hS k hk).2.2.2.2),h.bk.eq⟩,h.lt⟩,s.lo,mod_fresh s.md m (fun k hk=>(hS k hk).1)⟩
theorem RdM.oth {w:World} {base xd:Nat} {sv:Value} {vs:List Value} {d:Dk} (h:RdM w base xd sv vs d):∀ k,k∈xd::ob sv→base≤k∧Oth w k:=fun k hk=>by
 rcases List.mem_cons.1 hk with rfl | e
 · exact ⟨h.ap.1,_,_,h.blk,by decide,by decide⟩
 · refine ⟨(h.rows.blk k e).1,?_⟩
   rcases h.rows.row.2 with ⟨hv,-⟩ | ⟨g,cap,cur,hv,-,hg,-⟩
   · rw [hv] at e;simp [ob,Value.ownBlock] at e
   · rw [hv] at e
     simp [ob,Value.ownBlock] at e
     subst e
     exact ⟨_,_,hg,by decide,by decide⟩
structure D2 (W w:World) (pd bs xd base:Nat) (sv:Value) (d1 d2:Dk):Prop where
 p:DkM w pd bs d1
 r:∃ vs,RdM w base xd sv vs d2
 md:Mod [] W w
 lo:W.heap.size≤pd∧W.heap.size≤bs∧pd<base∧bs<base
structure HO (W w:World) (pl pd bs xd base:Nat) (sv:Value) (d':Dk) (l':Lg) (d:Dk):Prop where
 s:LS W w pl pd bs d' l'
 r:∃ vs,RdM w base xd sv vs d∧pl<w.heap.size∧pl≠xd∧pl ∉ ob sv∧∀ i,i<d.secs.length→pl ∉ ob (vs.getD i nilS)
 lo:pd<base∧bs<base
structure PR (W w:World) (pl pd bs xm xd base:Nat) (sv:Value) (d1:Dk) (l1:Lg) (d2:Dk) (l2:Lg):Prop where
 s:LS W w pl pd bs d1 l1
 r:∃ vs b1 gv lv,RlM w base [pl] xm xd sv vs b1 gv lv d2 l2
 lo:pd<base∧bs<base
section
variable {W w w':World} {pl pd bs xm xd base:Nat} {sv:Value} {d d1 d2:Dk} {l l1 l2:Lg}
theorem PR.wlo (h:PR W w pl pd bs xm xd base sv d1 l1 d2 l2):W.heap.size≤base:=by have:=h.s.lo;have:=h.lo;omega
theorem PR.quiet (h:PR W w pl pd bs xm xd base sv d1 l1 d2 l2) (m:Mod [] w w'):PR W w' pl pd bs xm xd base sv d1 l1 d2 l2:=by
 obtain ⟨vs,b1,gv,lv,r⟩:=h.r
 exact ⟨h.s.quiet m,⟨vs,b1,gv,lv,r.quiet m⟩,h.lo⟩
theorem PR.own (h:PR W w pl pd bs xm xd base sv d1 l1 d2 l2):∀ k,k∈xm::xd::ob sv→W.heap.size≤k∧k≠pl∧k≠pd∧k≠bs∧Oth w k:=fun k hk=>by
 obtain ⟨vs,b1,gv,lv,r⟩:=h.r
 have hw:=h.wlo
 have hl:=h.lo
 have hp:=r.av pl (by simp)
 rcases List.mem_cons.1 hk with rfl | e
 · have:=r.lo
   exact ⟨by omega,fun e=>this.2.2.2.2.1 (by simp [e]),by omega,by omega,_,_,r.blk,by decide,by decide⟩
 · have:=r.dm.oth k e
   refine ⟨by omega,fun q=>?_,by omega,by omega,this.2⟩
   subst q
   rcases List.mem_cons.1 e with e | e
   · exact hp.2.1 e
   · exact hp.2.2.1 e
theorem PR.prog (h:PR W w pl pd bs xm xd base sv d1 l1 d2 l2) {d':Dk} {l':Lg} (s:LS W w' pl pd bs d' l') (m:Mod [pl,pd,bs] w w'):PR W w' pl pd bs xm xd base sv d' l' d2 l2:=by
 obtain ⟨vs,b1,gv,lv,r⟩:=h.r
 have hl:=h.lo
 exact ⟨s,⟨vs,b1,gv,lv,r.mod m (fun k hk=>by
  simp only [List.mem_cons,List.not_mem_nil,or_false] at hk
  rcases hk with rfl | rfl | rfl
  · exact .inr (by simp)
  · exact .inl hl.1
  · exact .inl hl.2)⟩,h.lo⟩
theorem PR.doc (h:PR W w pl pd bs xm xd base sv d1 l1 d2 l2) {d':Dk} {l':Lg} (r:∃ vs b1 gv lv,RlM w' base [pl] xm xd sv vs b1 gv lv d' l') (m:Mod (xm::xd::ob sv) w w'):PR W w' pl pd bs xm xd base sv d1 l1 d' l' :=
 ⟨h.s.oth m h.own,r,h.lo⟩
theorem pcompact_eq (h:PR W w pl pd bs xm xd base sv d l d l) (ok:l.Ok) (h49:49≤d.secs.length) {t:Int × Dk × Lg} (ht:compactD d l=t) :
 Calls Tryz.prog 21 #[.pointer (some ⟨pl,0,none⟩)] w fun e w'=>e=.returned (.int .i64 t.1)∧PR W w' pl pd bs xm xd base sv t.2.1 t.2.2 d l∧Mod [pl,pd,bs] w w' :=
 (compact_eq h.s ok h49 ht).mono fun _ _ hx=>⟨hx.1,h.prog hx.2.1 hx.2.2,hx.2.2⟩
theorem dcompact_eq (h:PR W w pl pd bs xm xd base sv d1 l1 d l) (ok:l.Ok) (h49:49≤d.secs.length) {t:Int × Dk × Lg} (ht:compactD d l=t) :
 Calls Tryz.prog 30 #[.pointer (some ⟨xm,0,none⟩)] w fun e w'=>e=.returned (.int .i64 t.1)∧PR W w' pl pd bs xm xd base sv d1 l1 t.2.1 t.2.2∧Mod (xm::xd::ob sv) w w':=by
 obtain ⟨vs,b1,gv,lv,r⟩:=h.r
 refine (rcompact_any r ok h49 ht).mono fun e w' hx=>?_
 obtain ⟨he,vs',r',m⟩:=hx
 exact ⟨he,h.doc ⟨_,_,_,_,r'⟩ m,m⟩
theorem pappend_eq (h:PR W w pl pd bs xm xd base sv d l d l) (ok:l.Ok) (h49:49≤d.secs.length) {r:Rcd} {rs rt:Value} (hs:RdN w rs r.grant.stamp) (ht:RdN w rt r.stamp) (hp:r.grant.path.size≤9223372036854775806) {t:Int × Dk × Lg} (hT:appendD d l r=t) :
 Calls Tryz.prog 16 #[.pointer (some ⟨pl,0,none⟩),aggR r rs rt] w fun e w'=>e=.returned (.int .i64 t.1)∧PR W w' pl pd bs xm xd base sv t.2.1 t.2.2 d l∧Mod [pl,pd,bs] w w' :=
 (append_eq h.s ok h49 hs ht (by omega) hT).mono fun _ _ hx=>⟨hx.1,h.prog hx.2.1 hx.2.2,hx.2.2⟩
theorem dappend_eq (h:PR W w pl pd bs xm xd base sv d1 l1 d l) (ok:l.Ok) (h49:49≤d.secs.length) {r:Rcd} {rs rt:Value} (hs:RdN w rs r.grant.stamp) (ht:RdN w rt r.stamp) (hp:r.grant.path.size≤9223372036854775806) (ha:r.grant.stamp≠[]→∀ k,k∈ob rs→k<W.heap.size) (hb:r.stamp≠[]→∀ k,k∈ob rt→k<W.heap.size) {t:Int × Dk × Lg} (hT:appendD d l r=t) :
 Calls Tryz.prog 33 #[.pointer (some ⟨xm,0,none⟩),aggR r rs rt] w fun e w'=>e=.returned (.int .i64 t.1)∧PR W w' pl pd bs xm xd base sv d1 l1 t.2.1 t.2.2∧Mod (xm::xd::ob sv) w w':=by
 have ho:=h.own
 obtain ⟨vs,b1,gv,lv,q⟩:=h.r
 refine (rappend_any q ok h49 hs ht hp (fun he k hk e=>by have:=(ho k e).1;have:=ha he k hk;omega) (fun he k hk e=>by have:=(ho k e).1;have:=hb he k hk;omega) hT).mono fun e w' hx=>?_
 obtain ⟨he,vs',b1',gv',lv',r',m⟩:=hx
 exact ⟨he,h.doc ⟨_,_,_,_,r'⟩ m,m⟩
theorem psame_eq (h:PR W w pl pd bs xm xd base sv d l d l) (ok:l.Ok) :
 Calls Tryz.prog 34 #[.pointer (some ⟨pl,0,none⟩),.pointer (some ⟨pd,0,none⟩),.pointer (some ⟨xm,0,none⟩)] w fun e w'=>e=.returned (.bool true)∧Mod [] w w':=by
 obtain ⟨vs,b1,gv,lv,r⟩:=h.r
 exact lsame_any h.s r ok.book
/-! ### disks alone -/
theorem D2.quiet (h:D2 W w pd bs xd base sv d1 d2) (m:Mod [] w w'):D2 W w' pd bs xd base sv d1 d2:=by
 obtain ⟨vs,r⟩:=h.r
 exact ⟨h.p.mod m (by simp) (by simp),⟨vs,r.quiet m⟩,h.md.then m,h.lo⟩
theorem D2.prog (h:D2 W w pd bs xd base sv d1 d2) {d':Dk} (p:DkM w' pd bs d') (m:Mod [pd,bs] w w'):D2 W w' pd bs xd base sv d' d2:=by
 obtain ⟨vs,r⟩:=h.r
 have hl:=h.lo
 exact ⟨p,⟨vs,r.mod m (fun k hk=>by simp at hk;omega)⟩,mod_fresh h.md m (fun k hk=>by simp at hk;omega),h.lo⟩
theorem D2.doc (h:D2 W w pd bs xd base sv d1 d2) {d':Dk} (r:∃ vs,RdM w' base xd sv vs d') (m:Mod (xd::ob sv) w w'):D2 W w' pd bs xd base sv d1 d':=by
 obtain ⟨vs,q⟩:=h.r
 have hl:=h.lo
 have ho:=q.oth
 exact ⟨h.p.mod m (fun e=>by have:=(ho _ e).1;omega) (fun e=>by have:=(ho _ e).1;omega),r,mod_fresh h.md m (fun k hk=>by have:=(ho k hk).1;omega),h.lo⟩
def PoTo (W w':World) (pd bs xd base:Nat) (sv:Value) (t:Int × Dk × Option Lg) (d:Dk) (e:Ending):Prop :=
 match t.2.2 with
 | none=>e=.returned (.tuple #[.pointer none,.int .i64 t.1])∧D2 W w' pd bs xd base sv t.2.1 d
 | some l=>∃ pl,e=.returned (.tuple #[.pointer (some ⟨pl,0,none⟩),.int .i64 0])∧HO W w' pl pd bs xd base sv t.2.1 l d
theorem popen_eq (h:D2 W w pd bs xd base sv d d) {t:Int × Dk × Option Lg} (ht:openD d=t) :
 Calls Tryz.prog 11 #[.pointer (some ⟨pd,0,none⟩)] w fun e w'=>PoTo W w' pd bs xd base sv t d e:=by
 refine (open_any h.p).mono fun e w' hx=>?_
 obtain ⟨m,hr⟩:=hx
 rw [ht] at hr
 unfold PoTo
 cases ho:t.2.2 with
 | none =>
   rw [ho] at hr
   simp only at hr ⊢
   exact ⟨hr.1,h.prog hr.2 m⟩
 | some l =>
   rw [ho] at hr
   simp only at hr ⊢
   obtain ⟨pl,gv,lv,he,hl,hp⟩:=hr
   have hlo:=h.lo
   have hsz:=h.md.size
   obtain ⟨vs,r⟩:=h.r
   have hx:=lt_of_block r.blk
   refine ⟨pl,he,⟨⟨gv,lv,hl⟩,⟨by omega,hlo.1,hlo.2.1⟩,mod_fresh h.md m (fun k hk=>by simp at hk;omega)⟩,⟨vs,r.mod m (fun k hk=>by simp at hk;omega),lt_of_block hl.blk,by omega,fun e=>by have:=(r.rows.blk _ e).2;omega,fun i hi e=>by have:=((r.rows.el i hi).blk _ e).2;omega⟩,hlo.2.2⟩
theorem dopen_some (h:HO W w pl pd bs xd base sv d1 l1 d) {d':Dk} {l':Lg} {e:Int} (ht:openD d=(e,d',some l')) :
 Calls Tryz.prog 29 #[.pointer (some ⟨xd,0,none⟩)] w fun e w'=>∃ xm,e=.returned (.tuple #[.pointer (some ⟨xm,0,none⟩),.int .i64 0])∧PR W w' pl pd bs xm xd base sv d1 l1 d' l':=by
 obtain ⟨vs,r,h1,h2,h3,h4⟩:=h.r
 have he0:=(open_okk ht).2.1
 subst he0
 refine (ropen_any (K:=[pl]) r (fun k hk=>by simp at hk;subst hk;exact ⟨h1,h2,h3,h4⟩) ht).mono fun e w' hx=>?_
 unfold RopTo at hx
 simp only at hx
 obtain ⟨xm,vs',b1,gv,lv,he,hr,-,m⟩:=hx
 have hl:=h.lo
 have hs:=h.s.lo
 have ho:=r.oth
 refine ⟨xm,he,⟨h.s.oth m (fun k hk=>⟨by have:=(ho k hk).1;omega,fun q=>(by
  subst q
  rcases List.mem_cons.1 hk with e | e
  · exact h2 e
  · exact h3 e),by have:=(ho k hk).1;omega,by have:=(ho k hk).1;omega,(ho k hk).2⟩),⟨vs',b1,gv,lv,hr⟩,hl⟩⟩
theorem dopen_none (h:D2 W w pd bs xd base sv d1 d) {d':Dk} {e:Int} (ht:openD d=(e,d',none)) :
 Calls Tryz.prog 29 #[.pointer (some ⟨xd,0,none⟩)] w fun r w'=>r=.returned (.tuple #[.pointer none,.int .i64 e])∧D2 W w' pd bs xd base sv d1 d':=by
 obtain ⟨vs,r⟩:=h.r
 refine (ropen_any (K:=[]) r (fun k hk=>by simp at hk) ht).mono fun e w' hx=>?_
 unfold RopTo at hx
 simp only at hx
 obtain ⟨he,vs',hr,m⟩:=hx
 exact ⟨he,h.doc ⟨vs',hr⟩ m⟩
end
end Go.Proofs.YtpphoeimakjjdaaGreatDoor
