/-
  GtM GtF GtQ GtN GtX: see the remarks below.
-/
import Derived.Test.YtllljngpgjkdiaaGreatDoorMGtA
import Derived.Test.YtllljngpgjkdiaaGreatDoorMPsKg
import Derived.Test.YtllljngpgjkdiaaGreatDoorMGtBr
import Derived.Test.YtllljngpgjkdiaaGreatDoorMTerm
/-
  MEMORY: layer 16: a grantor in memory: its block, its ledger's, its set's, its notes' blocks, all apart.
-/
namespace Go.Proofs.YtllljngpgjkdiaaGreatDoor
open Go.RowKit Go.Maps

structure GB where
 pl:Nat
 pd:Nat
 bs:Nat
 sb:Nat
 wb:Nat
 nb:Nat
 N:List Nd
 gv:Value
 lv:List (Grt × Value)
def GB.led (b:GB):List Nat:=b.pl::b.pd::b.bs::(ob b.gv++b.lv.flatMap fun p=>ob p.2)
def GB.set (b:GB):List Nat:=b.sb::b.wb::blksN b.N
def GB.all (b:GB) (pg:Nat):List Nat:=pg::b.nb::(b.led++b.set)
theorem mem_led {b:GB} {k:Nat}:k∈b.led↔k=b.pl∨k=b.pd∨k=b.bs∨k∈ob b.gv∨∃ p,p∈b.lv∧k∈ob p.2:=by simp [GB.led]
theorem mem_all {b:GB} {pg k:Nat}:k∈b.all pg↔k=pg∨k=b.nb∨k∈b.led∨k∈b.set:=by simp [GB.all]
def aggN (n:Nt):Value:=.agg #[.int .i64 n.exp,.int .i64 n.org,.int .i64 n.num]
def ntV (p:Int × Nt):Int × Value:=(p.1,aggN p.2)
def objG (b:GB) (ends:Int):Obj:=.cells #[.pointer (some ⟨b.pl,0,none⟩),.pointer (some ⟨b.sb,0,none⟩),.map (some b.nb),.int .i64 ends] 81 (0,0)
structure GM (w:World) (pg:Nat) (b:GB) (d:Dk) (g:Gtr):Prop where
 blk:w.heap[pg]?=some (objG b g.ends)
 led:LgM w b.pl b.pd b.bs b.gv b.lv d g.l
 set:SetM w b.sb b.wb b.N g.es
 nt:MapL iK w b.nb (g.nt.map ntV)
 ap:(∀ k,k∈b.led→k ∉ b.set∧k≠b.nb∧k≠pg)∧b.nb ∉ b.set∧pg ∉ b.set∧pg≠b.nb
structure GTo (w:World) (pg:Nat) (b:GB) (w':World) (b':GB):Prop where
 mod:Mod (b.all pg) w w'
 own:∀ k,k∈b'.all pg→k∈b.all pg∨w.heap.size≤k
 dk:b'.pd=b.pd∧b'.bs=b.bs∧b'.pl=b.pl
section
variable {w w':World} {pg:Nat} {b b':GB} {d d':Dk} {g:Gtr}
theorem GTo.refl (w:World) (pg:Nat) (b:GB):GTo w pg b w b:=⟨Mod.refl _ _,fun _ h=>.inl h,rfl,rfl,rfl⟩
theorem GTo.quiet (m:Mod [] w w'):GTo w pg b w' b:=⟨m.mono (by simp),fun _ h=>.inl h,rfl,rfl,rfl⟩
theorem GTo.trans {w2:World} {b2:GB} (h:GTo w pg b w' b') (k:GTo w' pg b' w2 b2):GTo w pg b w2 b2:=by
 refine ⟨h.mod.trans k.mod (fun _ x _=>x) (fun x hx hlt=>?_),fun x hx=>?_,k.dk.1.trans h.dk.1,k.dk.2.1.trans h.dk.2.1,k.dk.2.2.trans h.dk.2.2⟩
 · rcases h.own x hx with e | e
   · exact e
   · omega
 · rcases k.own x hx with e | e
   · exact h.own x e
   · have:=h.mod.size
     exact .inr (by omega)
theorem GTo.then (h:GTo w pg b w' b') {w2:World} (m:Mod [] w' w2):GTo w pg b w2 b':=h.trans (GTo.quiet m)
theorem LgM.other {pl pd bs:Nat} {gv:Value} {lv:List (Grt × Value)} {l:Lg} (h:LgM w pl pd bs gv lv d l) {S:List Nat} (m:Mod S w w') (hS:∀ k,k∈S→k≠pl∧k≠pd∧k≠bs∧k ∉ ob gv∧∀ p,p∈lv→k ∉ ob p.2):LgM w' pl pd bs gv lv d l:=by
 refine ⟨m.at_ h.blk (fun e=>(hS _ e).1 rfl),h.dk.mod m (fun e=>(hS _ e).2.1 rfl) (fun e=>(hS _ e).2.2.1 rfl),⟨⟨m.row h.bk.gr.row (fun k hk e=>(hS _ e).2.2.2.1 (by simpa [ob] using hk)),fun p hp=>⟨m.row (h.bk.gr.st p hp).1 (fun k hk e=>(hS _ e).2.2.2.2 p hp (by simpa [ob] using hk)),(h.bk.gr.st p hp).2⟩⟩,h.bk.eq⟩,h.lt⟩
theorem GM.other (h:GM w pg b d g) {S:List Nat} (m:Mod S w w') (hS:∀ k,k∈b.all pg→k ∉ S):GM w' pg b d g:=by
 have hl:∀ k,k∈b.led→k ∉ S:=fun k hk=>hS k (mem_all.2 (.inr (.inr (.inl hk))))
 refine ⟨m.at_ h.blk (hS pg (mem_all.2 (.inl rfl))),h.led.other m (fun k hk=>⟨fun e=>hl k (mem_led.2 (.inl e)) hk,fun e=>hl k (mem_led.2 (.inr (.inl e))) hk,fun e=>hl k (mem_led.2 (.inr (.inr (.inl e)))) hk,fun e=>hl k (mem_led.2 (.inr (.inr (.inr (.inl e))))) hk,fun p hp e=>hl k (mem_led.2 (.inr (.inr (.inr (.inr ⟨p,hp,e⟩))))) hk⟩),h.set.mod m (fun k hk=>hS k (mem_all.2 (.inr (.inr (.inr hk))))),h.nt.mod m (hS b.nb (mem_all.2 (.inr (.inl rfl)))),h.ap⟩
theorem GM.quiet (h:GM w pg b d g) (m:Mod [] w w'):GM w' pg b d g:=h.other m (by simp)
theorem GM.lt (h:GM w pg b d g):∀ k,k∈b.all pg→k<w.heap.size:=by
 intro k hk
 rcases mem_all.1 hk with rfl | rfl | hk | hk
 · exact lt_of_block h.blk
 · exact h.nt.lt
 · have hpl:=lt_of_block h.led.blk
   have hlt:=h.led.lt
   rcases mem_led.1 hk with rfl | rfl | rfl | hk | ⟨p,hp,hk⟩
   · exact hpl
   · omega
   · omega
   · exact (ob_of_row h.led.bk.gr.row k hk).2
   · exact (ob_of_row (h.led.bk.gr.st p hp).1 k hk).2
 · exact h.set.lt k hk
theorem GM.toLed (h:GM w pg b d g) {l':Lg} {gv:Value} {lv:List (Grt × Value)} (hl:LgM w' b.pl b.pd b.bs gv lv d' l') (m:Mod [b.pl,b.pd,b.bs] w w') (hf:(gv=b.gv∧lv=b.lv)∨GrM w' w.heap.size gv lv) :
 GM w' pg { b with gv:=gv,lv:=lv } d' { g with l:=l' }∧GTo w pg b w' { b with gv:=gv,lv:=lv }:=by
 have hn:∀ k,k∈[b.pl,b.pd,b.bs]→k∈b.led:=fun k hk=>by simp at hk;exact mem_led.2 (by omega)
 have hnew:∀ k,k∈({ b with gv:=gv,lv:=lv }:GB).led→k∈b.led∨w.heap.size≤k:=by
  intro k hk
  rcases hf with ⟨rfl,rfl⟩ | hf
  · exact .inl hk
  · rcases mem_led.1 hk with rfl | rfl | rfl | hk | ⟨p,hp,hk⟩
    · exact .inl (mem_led.2 (.inl rfl))
    · exact .inl (mem_led.2 (.inr (.inl rfl)))
    · exact .inl (mem_led.2 (.inr (.inr (.inl rfl))))
    · exact .inr (ob_of_row hf.row k hk).1
    · exact .inr (ob_of_row (hf.st p hp).1 k hk).1
 have hsl:=h.set.lt
 have hnl:=h.nt.lt
 have hpl:=lt_of_block h.blk
 refine ⟨⟨m.at_ h.blk (fun e=>((h.ap.1 _ (hn _ e)).2.2) rfl),hl,h.set.mod m (fun k hk e=>(h.ap.1 k (hn k e)).1 hk),h.nt.mod m (fun e=>(h.ap.1 _ (hn _ e)).2.1 rfl),⟨fun k hk=>?_,h.ap.2⟩⟩,⟨m.mono (fun k hk _=>mem_all.2 (.inr (.inr (.inl (hn k hk))))),fun k hk=>?_,rfl,rfl,rfl⟩⟩
 · rcases hnew k hk with e | e
   · exact h.ap.1 k e
   · exact ⟨fun hs=>by have:=hsl k hs;omega,fun hs=>by have hs':k=b.nb:=hs;omega,fun hs=>by omega⟩
 · rcases mem_all.1 hk with e | e | e | e
   · exact .inl (mem_all.2 (.inl e))
   · exact .inl (mem_all.2 (.inr (.inl e)))
   · rcases hnew k e with e | e
     · exact .inl (mem_all.2 (.inr (.inr (.inl e))))
     · exact .inr e
   · exact .inl (mem_all.2 (.inr (.inr (.inr e))))
theorem GM.toSet (h:GM w pg b d g) {N:List Nd} {es:List Ent} (hs:SetM w' b.sb b.wb N es) (t:SetTo w b.sb b.wb b.N w' N) :
 GM w' pg { b with N:=N } d { g with es:=es }∧GTo w pg b w' { b with N:=N }:=by
 have hin:∀ k,k∈b.wb::blksN b.N→k∈b.set:=fun k hk=>List.mem_cons_of_mem _ hk
 have hnew:∀ k,k∈({ b with N:=N }:GB).set→k∈b.set∨w.heap.size≤k:=by
  intro k hk
  rcases List.mem_cons.1 hk with e | hk
  · exact .inl (List.mem_cons.2 (.inl e))
  · rcases List.mem_cons.1 hk with e | hk
    · exact .inl (List.mem_cons.2 (.inr (List.mem_cons.2 (.inl e))))
    · rcases t.own k hk with e | e
      · exact .inl (List.mem_cons_of_mem _ (List.mem_cons_of_mem _ e))
      · exact .inr e
 have hlt:=h.lt
 have m:=t.mod
 refine ⟨⟨m.at_ h.blk (fun e=>h.ap.2.2.1 (hin _ e)),h.led.other m (fun k hk=>?_),hs,h.nt.mod m (fun e=>h.ap.2.1 (hin _ e)),?_⟩,⟨m.mono (fun k hk _=>mem_all.2 (.inr (.inr (.inr (hin k hk))))),fun k hk=>?_,rfl,rfl,rfl⟩⟩
 · have hk':=hin k hk
   exact ⟨fun e=>(h.ap.1 k (mem_led.2 (.inl e))).1 hk',fun e=>(h.ap.1 k (mem_led.2 (.inr (.inl e)))).1 hk',fun e=>(h.ap.1 k (mem_led.2 (.inr (.inr (.inl e))))).1 hk',fun e=>(h.ap.1 k (mem_led.2 (.inr (.inr (.inr (.inl e)))))).1 hk',fun p hp e=>(h.ap.1 k (mem_led.2 (.inr (.inr (.inr (.inr ⟨p,hp,e⟩)))))).1 hk'⟩
 · refine ⟨fun k hk=>⟨fun e=>?_,(h.ap.1 k hk).2⟩,fun e=>?_,fun e=>?_,h.ap.2.2.2⟩
   · rcases hnew k e with e | e
     · exact (h.ap.1 k hk).1 e
     · have:=hlt k (mem_all.2 (.inr (.inr (.inl hk))));omega
   · rcases hnew _ e with e | e
     · exact h.ap.2.1 e
     · have:=hlt b.nb (mem_all.2 (.inr (.inl rfl)));have e':w.heap.size≤b.nb:=e;omega
   · rcases hnew _ e with e | e
     · exact h.ap.2.2.1 e
     · have:=hlt pg (mem_all.2 (.inl rfl));omega
 · rcases mem_all.1 hk with e | e | e | e
   · exact .inl (mem_all.2 (.inl e))
   · exact .inl (mem_all.2 (.inr (.inl e)))
   · exact .inl (mem_all.2 (.inr (.inr (.inl e))))
   · rcases hnew k e with e | e
     · exact .inl (mem_all.2 (.inr (.inr (.inr e))))
     · exact .inr e
theorem GM.toNt (h:GM w pg b d g) {nt:List (Int × Nt)} (hn:MapL iK w' b.nb (nt.map ntV)) (m:Mod [b.nb] w w'):GM w' pg b d { g with nt:=nt }∧GTo w pg b w' b:=by
 refine ⟨⟨m.at_ h.blk (by simp;exact h.ap.2.2.2),h.led.other m (fun k hk=>?_),h.set.mod m (fun k hk e=>?_),hn,h.ap⟩,⟨m.mono (fun k hk _=>by simp at hk;exact mem_all.2 (.inr (.inl hk))),fun _ h=>.inl h,rfl,rfl,rfl⟩⟩
 · simp at hk
   subst hk
   have q:=fun (hx:b.nb∈b.led)=>(h.ap.1 _ hx).2.1 rfl
   exact ⟨fun e=>q (mem_led.2 (.inl e)),fun e=>q (mem_led.2 (.inr (.inl e))),fun e=>q (mem_led.2 (.inr (.inr (.inl e)))),fun e=>q (mem_led.2 (.inr (.inr (.inr (.inl e))))),fun p hp e=>q (mem_led.2 (.inr (.inr (.inr (.inr ⟨p,hp,e⟩)))))⟩
 · simp at e
   subst e
   exact h.ap.2.1 hk
/-! ### the notes' map -/
theorem getM_ntV (n:List (Int × Nt)) (id:Int):lookV false (.agg #[.int .i64 0,.int .i64 0,.int .i64 0]) (getM (n.map ntV) id)=aggN (ntAt n id):=by
 unfold getM ntAt
 rw [List.find?_map]
 show lookV false _ (((n.find? fun p=>decide (p.1=id)).map ntV).map _)=_
 cases n.find? fun p=>decide (p.1=id) <;> rfl
theorem delM_ntV (n:List (Int × Nt)) (id:Int):delM (n.map ntV) id=(ntDel n id).map ntV:=by
 unfold delM ntDel
 rw [List.filter_map]
 rfl
theorem setM_ntV (n:List (Int × Nt)) (id:Int) (v:Nt):setM (n.map ntV) id (aggN v)=(ntSet n id v).map ntV:=by
 unfold setM
 rw [delM_ntV]
 rfl
theorem GM.look (h:GM w pg b d g) {id:Int} (hi:(Lit.int .i64 id).wf=true):(Instr.lookup 79 (.map (some b.nb)) (.int .i64 id) false).run Tryz.prog w=.ok (aggN (ntAt g.nt id)) w:=by
 have h1:=h.nt.look Tryz.underlying79 (z:=.agg #[.int .i64 0,.int .i64 0,.int .i64 0]) (by kernel_rfl) false (x:=id) hi
 rw [getM_ntV] at h1
 exact h1
/-! ### the ledger's calls -/
theorem GM.append (h:GM w pg b d g) (hi:GI g) (h49:49≤d.secs.length) {r:Rcd} {sv tv:Value} (hs:RdN w sv r.grant.stamp) (ht:RdN w tv r.stamp) (hp:r.grant.path.size≤9223372036854775807) {p:Int × Dk × Lg} (hap:appendD d g.l r=p) :
 Calls Tryz.prog 58 #[.pointer (some ⟨b.pl,0,none⟩),aggR r sv tv] w fun e w'=>e=.returned (.int .i64 p.1)∧∃ b',GM w' pg b' p.2.1 { g with l:=p.2.2 }∧GTo w pg b w' b':=by
 refine (append_any h.led hi.lok h49 hs ht hp).mono ?_
 rintro e w' ⟨he,gv',lv',h',m,hfr⟩
 rw [hap] at he h'
 exact ⟨he,_,h.toLed h' m hfr⟩
theorem GM.book (h:GM w pg b d g) (hi:GI g) :
 Calls Tryz.prog 38 #[.pointer (some ⟨b.pl,0,none⟩)] w fun e w'=>∃ q n c lv,e=.returned (.agg #[.int .i64 g.l.book.next,.int .i64 g.l.book.boots,.int .i64 g.l.book.longest,.slice q n c])∧BkM w' w.heap.size (.slice q n c) g.l.book lv∧Mod [] w w'∧SepL lv:=by
 refine (book_sep h.led hi.val).mono ?_
 rintro e w' ⟨gv',lv',rfl,hb,m,hs⟩
 obtain ⟨q,c,rfl,_⟩:=hb.gr.shape
 exact ⟨q,_,c,lv',rfl,hb,m,hs⟩
end
end Go.Proofs.YtllljngpgjkdiaaGreatDoor
/-
  WALKS: layer 16: first: questions asked one after the other.
-/
namespace Go.Proofs.YtllljngpgjkdiaaGreatDoor
set_option maxRecDepth 100000
set_option maxHeartbeats 1000000
open Go.RowKit

def FirstP (P:Program) (B:Nat):List Value→World→(Int→World→Prop)→Prop
 | [],w,Q=>Q 0 w
 | f::r,w,Q=>∃ fn rv lb,f=.func (.func fn) rv lb∧(∀ args w,(callFunc fn args).run P w=.ok (.enter fn args) w)∧Calls P fn (rv++lb) w fun e w'=>∃ k,e=.returned (.int .i64 k)∧w'.heap[B]?=w.heap[B]?∧(k≠0→Q k w')∧(k=0→FirstP P B r w' Q)
def FstRel (P:Program) (B n:Nat) (cur:Array Value) (fs:List Value) (T:TypeId) (Q:Int→World→Prop) (i:Value) (wr:World):Prop :=
 ∃ j:Nat,i=.int .i64 (j:Int)∧j≤n∧wr.heap[B]?=some (.cells cur T (0,0))∧FirstP P B (fs.drop j) wr Q
theorem firstg_any {w:World} {B c:Nat} {cur:Array Value} {fs:List Value} {T:TypeId} {Q:Int→World→Prop} (hb:w.heap[B]?=some (.cells cur T (0,0))) (hcur:∀ j,j<fs.length→cur[j]?=fs[j]?) (hf:FirstP Tryz.prog B fs w Q) (hn:fs.length≤1000) :
 Calls Tryz.prog 45 #[.slice (some ⟨B,0,none⟩) fs.length c] w fun e w'=>∃ k,e=.returned (.int .i64 k)∧Q k w':=by
 obtain ⟨n,hN⟩:∃ n,fs.length=n:=⟨_,rfl⟩
 rw [hN]
 have H:=hd3 hb hf hN
 have HCU:=hide hcur
 clear hb hf hN hcur
 go_enter Tryz.func45,Tryz.ntmps45
 go_wp2_with fail
 go_loopw [8] (fun i wr=>FstRel Tryz.prog B n cur fs T Q i wr) (fun i _=>n - (intOf i).toNat)
 case atStart=>exact ⟨0,rfl,Nat.zero_le _,H.out.1,by rw [List.drop_zero];exact H.out.2.1⟩
 case round =>
  obtain ⟨j,rfl,hj,hb,hf⟩:=hrel
  by_cases hlt:j<n
  · have hlt':j<fs.length:=by rw [H.out.2.2];exact hlt
    have i1:(0:Int)≤(j:Int):=by omega
    have i2:(j:Int)<(n:Int):=by omega
    have hc:=blk_cell hb j
    rw [HCU.out j hlt',List.getElem?_eq_getElem hlt'] at hc
    rw [List.drop_eq_getElem_cons hlt'] at hf
    obtain ⟨fn,rv,lb,he,eg,hcl⟩:=hf
    rw [he] at hc
    have HC:=hide hcl
    have HB:=hide hb
    clear hb he hcl
    go_wp2_with (
     go_at_fn fn
     refine HC.out.mono ?_
     rintro e w2 ⟨k,rfl,hb2,hk1,hk2⟩
     have H2:=hd3 hb2 hk1 hk2
     clear hb2 hk1 hk2)
    · rename_i hk
      go_ret
      exact ⟨k,rfl,H2.out.2.1 (by simpa using hk)⟩
    · rename_i hk
      go_roundw
      case rel=>exact ⟨j+1,by go_num,by omega,H2.out.1.trans HB.out,H2.out.2.2 (by simpa using hk)⟩
      case measure=>simp [intOf];omega
  · obtain rfl:j=n:=by omega
    have HF:=hide hf
    clear hf hb
    go_wp2_with fail
    go_ret
    have hf:=HF.out
    rw [List.drop_eq_nil_of_le (by rw [H.out.2.2];exact Nat.le_refl _)] at hf
    exact ⟨0,rfl,hf⟩
theorem firstf_any {w:World} {B:Nat} {fs:List Value} {T:TypeId} {Q:Int→World→Prop} (hb:w.heap[B]?=some (.cells fs.toArray T (0,0))) (hf:FirstP Tryz.prog B fs w Q) (hn:fs.length≤1000) :
 Calls Tryz.prog 45 #[.slice (some ⟨B,0,none⟩) fs.length fs.length] w fun e w'=>∃ k,e=.returned (.int .i64 k)∧Q k w':=firstg_any hb (fun j _=>by simp) hf hn
theorem fst_cons {P:Program} {B:Nat} {r:List Value} {w:World} {Q:Int→World→Prop} {fn:FuncId} {rv lb:Array Value} (eg:∀ args w,(callFunc fn args).run P w=.ok (.enter fn args) w) {C:Ending→World→Prop} (hc:Calls P fn (rv++lb) w C)
 (hk:∀ e w',C e w'→∃ k,e=.returned (.int .i64 k)∧w'.heap[B]?=w.heap[B]?∧(k≠0→Q k w')∧(k=0→FirstP P B r w' Q)):FirstP P B (.func (.func fn) rv lb::r) w Q :=
 ⟨fn,rv,lb,rfl,eg,hc.mono hk⟩
end Go.Proofs.YtllljngpgjkdiaaGreatDoor
/-
  WALKS: layer 16: a request's questions.
-/
namespace Go.Proofs.YtllljngpgjkdiaaGreatDoor
set_option maxRecDepth 100000
open Go.RowKit

def cellsQ (r:Req) (v:Value):Array Value:=#[.int .i64 r.now,.int .i64 r.holder,.int .i64 r.t,.int .i64 r.own.frm,.int .i64 r.own.id,.string r.own.path,.int .i64 r.own.mode,v,.int .i64 r.own.term,.int .i64 r.own.sent,.int .i64 r.own.expiry,.bool r.own.recd,.string r.path,.int .i64 r.mode]
def aggQ (r:Req) (v:Value):Value:=.agg (cellsQ r v)
abbrev objQ (r:Req) (v:Value):Obj:=.cells (cellsQ r v) 84 (0,0)
def Says (w:World) (k:Int) (e:Ending) (w':World):Prop:=e=.returned (.int .i64 k)∧Mod [] w w'
theorem isTime_any (n:Int) (w:World):Calls Tryz.prog 37 #[.int .i64 n] w fun e w'=>e=.returned (.bool (decide (timeOk n)))∧w'=w:=by
 go_enter Tryz.func37,Tryz.ntmps37
 by_cases h1:0≤n
 · have e:decide (timeOk n)=decide (n≤1152921504606846976):=by simp [timeOk,h1]
   rw [e]
   clear e
   go_wp2_with fail
   go_ret
   exact ⟨rfl,rfl⟩
 · have e:decide (timeOk n)=false:=decide_eq_false fun x=>h1 x.1
   rw [e]
   have h2:n<0:=by omega
   clear e
   go_wp2_with fail
   go_ret
   exact ⟨rfl,rfl⟩
section
variable (r:Req) (v:Value) (w:World)
theorem numbers_any:Calls Tryz.prog 50 #[aggQ r v] w fun e w'=>Says w (numbersI r) e w':=by
 obtain ⟨now,holder,t,⟨lf,li,lp,lm,la,lt,ls,le,lr⟩,path,mode⟩:=r
 obtain ⟨k,hk⟩:∃ k,numbersI ⟨now,holder,t,⟨lf,li,lp,lm,la,lt,ls,le,lr⟩,path,mode⟩=k:=⟨_,rfl⟩
 rw [hk]
 unfold numbersI at hk
 unfold aggQ cellsQ
 simp only at hk ⊢
 have G:=hide ((Gr.refl w).alloc (objQ ⟨now,holder,t,⟨lf,li,lp,lm,la,lt,ls,le,lr⟩,path,mode⟩ v))
 unfold objQ cellsQ at G
 simp only at G
 have hst:=fun (W:World)=>isTime_any now W
 by_cases h1:timeOk now
 · rw [decide_eq_true h1] at hst
   by_cases h2:holder<0
   · have d2:decide (holder<0)=true:=decide_eq_true h2
     have hk':(2:Int)=k:=by rw [← hk,if_neg (by omega)]
     subst hk'
     clear hk h1
     go_enter Tryz.func50,Tryz.ntmps50
     go_wp2_with (go_at_call 37;refine (hst _).mono ?_;rintro e w1 ⟨rfl,hx⟩;rw [hx];clear hx)
     go_ret
     exact ⟨rfl,G.out.mod []⟩
   · have d2:decide (holder<0)=false:=decide_eq_false h2
     by_cases h3:8≤holder
     · have d3:decide (8≤holder)=true:=decide_eq_true h3
       have hk':(2:Int)=k:=by rw [← hk,if_neg (by omega)]
       subst hk'
       clear hk h1 h2
       go_enter Tryz.func50,Tryz.ntmps50
       go_wp2_with (go_at_call 37;refine (hst _).mono ?_;rintro e w1 ⟨rfl,hx⟩;rw [hx];clear hx)
       go_ret
       exact ⟨rfl,G.out.mod []⟩
     · have d3:decide (8≤holder)=false:=decide_eq_false h3
       have hk':(0:Int)=k:=by rw [← hk,if_pos ⟨h1,by omega,by omega⟩]
       subst hk'
       clear hk h1 h2 h3
       go_enter Tryz.func50,Tryz.ntmps50
       go_wp2_with (go_at_call 37;refine (hst _).mono ?_;rintro e w1 ⟨rfl,hx⟩;rw [hx];clear hx)
       go_ret
       exact ⟨rfl,G.out.mod []⟩
 · rw [decide_eq_false h1] at hst
   have hk':(2:Int)=k:=by rw [← hk,if_neg (fun h=>h1 h.1)]
   subst hk'
   clear hk h1
   go_enter Tryz.func50,Tryz.ntmps50
   go_wp2_with (go_at_call 37;refine (hst _).mono ?_;rintro e w1 ⟨rfl,hx⟩;rw [hx];clear hx)
   go_ret
   exact ⟨rfl,G.out.mod []⟩
theorem words_any (hp:r.path.size≤9223372036854775807):Calls Tryz.prog 51 #[aggQ r v] w fun e w'=>Says w (wordsI r) e w':=by
 obtain ⟨now,holder,t,⟨lf,li,lp,lm,la,lt,ls,le,lr⟩,path,mode⟩:=r
 obtain ⟨k,hk⟩:∃ k,wordsI ⟨now,holder,t,⟨lf,li,lp,lm,la,lt,ls,le,lr⟩,path,mode⟩=k:=⟨_,rfl⟩
 rw [hk]
 unfold wordsI at hk
 unfold aggQ cellsQ
 simp only at hk hp ⊢
 have G:=hide ((Gr.refl w).alloc (objQ ⟨now,holder,t,⟨lf,li,lp,lm,la,lt,ls,le,lr⟩,path,mode⟩ v))
 unfold objQ cellsQ at G
 simp only at G
 have hv:=fun (W:World)=>pvalid_any path hp W
 have hm:=fun (W:World)=>isMode_any mode W
 obtain ⟨b1,h1⟩:∃ b,pathOk path.data.toList=b:=⟨_,rfl⟩
 obtain ⟨b2,h2⟩:∃ b,decide (modeOk mode)=b:=⟨_,rfl⟩
 have h3:modE mode=b2:=by rw [← h2,Bool.eq_iff_iff,decide_eq_true_iff];simp [modE,modeOk]
 rw [h1] at hv hk
 rw [h2] at hm
 rw [h3] at hk
 clear h1 h2 h3 hp
 cases b1 <;> cases b2 <;> simp at hk <;> subst hk
 all_goals
  go_enter Tryz.func51,Tryz.ntmps51
  go_wp2_with (first
   | (go_at_call 32;refine (hv _).mono ?_;rintro e w1 ⟨rfl,hx⟩;rw [hx];clear hx)
   | (go_at_call 68;refine (hm _).mono ?_;rintro e w1 ⟨rfl,hx⟩;rw [hx];clear hx)
   | fail)
  go_ret
  exact ⟨rfl,G.out.mod []⟩
theorem length_any:Calls Tryz.prog 52 #[aggQ r v] w fun e w'=>Says w (lengthI r) e w':=by
 obtain ⟨now,holder,t,⟨lf,li,lp,lm,la,lt,ls,le,lr⟩,path,mode⟩:=r
 obtain ⟨k,hk⟩:∃ k,lengthI ⟨now,holder,t,⟨lf,li,lp,lm,la,lt,ls,le,lr⟩,path,mode⟩=k:=⟨_,rfl⟩
 rw [hk]
 unfold lengthI at hk
 unfold aggQ cellsQ
 simp only at hk ⊢
 have G:=hide ((Gr.refl w).alloc (objQ ⟨now,holder,t,⟨lf,li,lp,lm,la,lt,ls,le,lr⟩,path,mode⟩ v))
 unfold objQ cellsQ at G
 simp only at G
 have hv:=fun (W:World)=>legal_any t W
 by_cases h:legalT t
 · rw [if_pos h] at hk
   have e:decide (4≤t∧t≤1048576)=true:=decide_eq_true h
   rw [e] at hv
   subst hk
   clear h e
   go_enter Tryz.func52,Tryz.ntmps52
   go_wp2_with (go_at_call 81;refine (hv _).mono ?_;rintro e w1 ⟨rfl,hx⟩;rw [hx];clear hx)
   go_ret
   exact ⟨rfl,G.out.mod []⟩
 · rw [if_neg h] at hk
   have e:decide (4≤t∧t≤1048576)=false:=decide_eq_false h
   rw [e] at hv
   subst hk
   clear h e
   go_enter Tryz.func52,Tryz.ntmps52
   go_wp2_with (go_at_call 81;refine (hv _).mono ?_;rintro e w1 ⟨rfl,hx⟩;rw [hx];clear hx)
   go_ret
   exact ⟨rfl,G.out.mod []⟩
theorem borne_any (hr:RdN w v r.own.stamp) (hp:r.path.size≤9223372036854775807) (hq:r.own.path.size≤9223372036854775807):Calls Tryz.prog 53 #[aggQ r v] w fun e w'=>Says w (borneI r) e w':=by
 obtain ⟨now,holder,t,⟨lf,li,lp,lm,la,lt,ls,le,lr⟩,path,mode⟩:=r
 obtain ⟨k,hk⟩:∃ k,borneI ⟨now,holder,t,⟨lf,li,lp,lm,la,lt,ls,le,lr⟩,path,mode⟩=k:=⟨_,rfl⟩
 rw [hk]
 unfold borneI at hk
 unfold aggQ cellsQ
 simp only at hk hr hp hq ⊢
 have g:=(Gr.refl w).alloc (objQ ⟨now,holder,t,⟨lf,li,lp,lm,la,lt,ls,le,lr⟩,path,mode⟩ v)
 have hv:=bears_any (hr.gr g) lf li lm lt ls le lp lr hq now path hp mode
 unfold objQ cellsQ at g hv
 simp only at g hv
 have G:=hide g
 obtain ⟨b,hb⟩:∃ b,bearsB ⟨lf,li,lp,lm,la,lt,ls,le,lr⟩ now path.data.toList mode=b:=⟨_,rfl⟩
 rw [hb] at hv hk
 clear hb g hr
 cases b <;> simp at hk <;> subst hk
 all_goals
  go_enter Tryz.func53,Tryz.ntmps53
  go_wp2_with (go_at_call 28;refine hv.mono ?_;rintro e w1 ⟨rfl,hx⟩;have HX:=hide hx;clear hx)
  go_ret
  exact ⟨rfl,(G.out.trans HX.out).mod []⟩
theorem deep_any {q:Option Addr} {c:Nat}:Calls Tryz.prog 54 #[aggQ r (.slice q r.own.stamp.length c)] w fun e w'=>Says w (deepI r) e w':=by
 obtain ⟨now,holder,t,⟨lf,li,lp,lm,la,lt,ls,le,lr⟩,path,mode⟩:=r
 obtain ⟨k,hk⟩:∃ k,deepI ⟨now,holder,t,⟨lf,li,lp,lm,la,lt,ls,le,lr⟩,path,mode⟩=k:=⟨_,rfl⟩
 rw [hk]
 unfold deepI at hk
 unfold aggQ cellsQ
 simp only at hk ⊢
 have G:=hide ((Gr.refl w).alloc (objQ ⟨now,holder,t,⟨lf,li,lp,lm,la,lt,ls,le,lr⟩,path,mode⟩ (.slice q la.length c)))
 unfold objQ cellsQ at G
 simp only at G
 obtain ⟨n,hn⟩:∃ n,la.length=n:=⟨_,rfl⟩
 rw [hn] at G hk ⊢
 clear hn
 by_cases h:4≤n
 · rw [if_pos h] at hk
   have d:decide ((4:Int)≤(n:Int))=true:=decide_eq_true (by omega)
   subst hk
   clear h
   go_enter Tryz.func54,Tryz.ntmps54
   go_wp2_with fail
   go_ret
   exact ⟨rfl,G.out.mod []⟩
 · rw [if_neg h] at hk
   have d:decide ((4:Int)≤(n:Int))=false:=decide_eq_false (by omega)
   subst hk
   clear h
   go_enter Tryz.func54,Tryz.ntmps54
   go_wp2_with fail
   go_ret
   exact ⟨rfl,G.out.mod []⟩
theorem outlasts_any (h1:timeOk r.now) (h2:legalT r.t):Calls Tryz.prog 55 #[aggQ r v] w fun e w'=>Says w (outlastsI r) e w':=by
 obtain ⟨now,holder,t,⟨lf,li,lp,lm,la,lt,ls,le,lr⟩,path,mode⟩:=r
 obtain ⟨k,hk⟩:∃ k,outlastsI ⟨now,holder,t,⟨lf,li,lp,lm,la,lt,ls,le,lr⟩,path,mode⟩=k:=⟨_,rfl⟩
 rw [hk]
 unfold outlastsI at hk
 unfold aggQ cellsQ
 unfold timeOk at h1
 unfold legalT at h2
 simp only at hk h1 h2 ⊢
 have G:=hide ((Gr.refl w).alloc (objQ ⟨now,holder,t,⟨lf,li,lp,lm,la,lt,ls,le,lr⟩,path,mode⟩ v))
 unfold objQ cellsQ at G
 simp only at G
 have w1:IntKind.i64.wrap (now+t)=now+t:=by rw [IntKind.wrap_i64];omega
 have w2:IntKind.i64.wrap (now+t+2)=now+t+2:=by rw [IntKind.wrap_i64];omega
 clear h1 h2
 by_cases h:le<now+t+2
 · rw [if_pos h] at hk
   have d:decide (le<now+t+2)=true:=decide_eq_true h
   subst hk
   clear h
   go_enter Tryz.func55,Tryz.ntmps55
   go_wp2_with fail
   go_ret
   exact ⟨rfl,G.out.mod []⟩
 · rw [if_neg h] at hk
   have d:decide (le<now+t+2)=false:=decide_eq_false h
   subst hk
   clear h
   go_enter Tryz.func55,Tryz.ntmps55
   go_wp2_with fail
   go_ret
   exact ⟨rfl,G.out.mod []⟩
end
end Go.Proofs.YtllljngpgjkdiaaGreatDoor
/-
  WALKS: layer 16: counts, long, over, keep, extended.
-/
namespace Go.Proofs.YtllljngpgjkdiaaGreatDoor
set_option maxRecDepth 100000
open Go.RowKit Go.Maps

theorem field_bk0 (a b c:Int) (p:Option Addr) (n k:Nat) (w:World):(Instr.field 75 (.agg #[.int .i64 a,.int .i64 b,.int .i64 c,.slice p n k]) 0).run Tryz.prog w=.ok (.int .i64 a) w:=by kernel_rfl
theorem field_bk2 (a b c:Int) (p:Option Addr) (n k:Nat) (w:World):(Instr.field 75 (.agg #[.int .i64 a,.int .i64 b,.int .i64 c,.slice p n k]) 2).run Tryz.prog w=.ok (.int .i64 c) w:=by kernel_rfl
theorem field_bk3 (a b c:Int) (p:Option Addr) (n k:Nat) (w:World):(Instr.field 75 (.agg #[.int .i64 a,.int .i64 b,.int .i64 c,.slice p n k]) 3).run Tryz.prog w=.ok (.slice p n k) w:=by kernel_rfl
def GmTo (w:World) (pg:Nat) (b:GB) (p:Int × Dk × Gtr) (e:Ending) (w':World):Prop:=e=.returned (.int .i64 p.1)∧∃ b',GM w' pg b' p.2.1 p.2.2∧GTo w pg b w' b'
section
variable {w:World} {pg:Nat} {b:GB} {d:Dk} {g:Gtr}
theorem GM.c0 (h:GM w pg b d g):w.cell? ⟨pg,0,none⟩=some (.pointer (some ⟨b.pl,0,none⟩)):=blk_cell h.blk 0
theorem GM.c1 (h:GM w pg b d g):w.cell? ⟨pg,1,none⟩=some (.pointer (some ⟨b.sb,0,none⟩)):=blk_cell h.blk 1
theorem GM.c2 (h:GM w pg b d g):w.cell? ⟨pg,2,none⟩=some (.map (some b.nb)):=blk_cell h.blk 2
theorem GM.c3 (h:GM w pg b d g):w.cell? ⟨pg,3,none⟩=some (.int .i64 g.ends):=blk_cell h.blk 3
theorem gcounts_any (h:GM w pg b d g) (hi:GI g):Calls Tryz.prog 56 #[.pointer (some ⟨pg,0,none⟩)] w fun e w'=>Says w (countsI g) e w':=by
 have hb:=h.book hi
 have C:=h.c0
 obtain ⟨k,hk⟩:∃ k,countsI g=k:=⟨_,rfl⟩
 rw [hk]
 unfold countsI at hk
 generalize g.l.book.next=n at hb hk
 have hfl:=field_bk0
 have hpg:=lt_of_block h.blk
 clear h hi
 by_cases h1:1099511627776<n
 · rw [if_pos h1] at hk
   have d1:decide (1099511627776<n)=true:=decide_eq_true h1
   subst hk
   clear h1
   go_enter Tryz.func56,Tryz.ntmps56
   go_wp2_with (go_at_call 38;refine hb.mono ?_;rintro e w1 ⟨q,m,c,lv,rfl,-,hm,-⟩;have H:=hide hm;clear hm hb)
   go_ret
   exact ⟨rfl,H.out⟩
 · rw [if_neg h1] at hk
   have d1:decide (1099511627776<n)=false:=decide_eq_false h1
   subst hk
   clear h1
   go_enter Tryz.func56,Tryz.ntmps56
   go_wp2_with (go_at_call 38;refine hb.mono ?_;rintro e w1 ⟨q,m,c,lv,rfl,-,hm,-⟩;have H:=hide hm;clear hm hb)
   go_ret
   exact ⟨rfl,H.out⟩
theorem long_any (h:GM w pg b d g) (hi:GI g) (h49:49≤d.secs.length) (t:Int) :
 Calls Tryz.prog 47 #[.pointer (some ⟨pg,0,none⟩),.int .i64 t] w fun e w'=>GmTo w pg b (longG d g t) e w':=by
 have hb:=h.book hi
 obtain ⟨p,hp⟩:∃ p,longG d g t=p:=⟨_,rfl⟩
 rw [hp]
 unfold longG at hp
 have C:=h.c0
 have hpg:=lt_of_block h.blk
 have hfl:=field_bk2
 by_cases h1:t≤g.l.book.longest
 · rw [if_pos h1] at hp
   have d1:decide (t≤g.l.book.longest)=true:=decide_eq_true h1
   subst hp
   have HH:=hide h
   generalize g.l.book.longest=n at hb d1
   clear h1 h
   go_enter Tryz.func47,Tryz.ntmps47
   go_wp2_with (go_at_call 38;refine hb.mono ?_;rintro e w1 ⟨q,m,c,lv,rfl,-,hm,-⟩;have H:=hide hm;clear hm hb)
   go_ret
   exact ⟨rfl,b,HH.out.quiet H.out,GTo.quiet H.out⟩
 · rw [if_neg h1] at hp
   have d1:decide (t≤g.l.book.longest)=false:=decide_eq_false h1
   have hap:=fun (w1:World) (m:Mod [] w w1)=>(h.quiet m).append hi h49 (r:=recL t) (sv:=.slice none 0 0) (tv:=.slice none 0 0) (rdN_nil _) (rdN_nil _) (by show (0:Nat)≤_;omega) rfl
   have C':=fun (w1:World) (m:Mod [] w w1)=>(h.quiet m).c0
   generalize g.l.book.longest=n at hb d1
   have HC:=hide C'
   have HP:=hide hap
   have HE:=hide hp
   clear h1 hp h hap C'
   go_enter Tryz.func47,Tryz.ntmps47
   go_wp2_with (first
    | (go_at_call 38;refine hb.mono ?_;rintro e w1 ⟨q,m,c,lv,rfl,-,hm,-⟩;have C1:=HC.out _ hm;have H:=hide hm;clear hm hb)
    | (go_at_call 58;refine (HP.out _ H.out).mono ?_;rintro e w2 ⟨rfl,b2,h2,t2⟩;have H2:=hd2 h2 ((GTo.quiet H.out).trans t2);clear h2 t2)
    | fail)
   go_ret
   rw [← HE.out]
   exact ⟨rfl,b2,H2.out⟩
theorem over_any (h:GM w pg b d g) (hi:GI g) (h49:49≤d.secs.length) (id:Int) (hw:(Lit.int .i64 id).wf=true) :
 Calls Tryz.prog 61 #[.pointer (some ⟨pg,0,none⟩),.int .i64 id] w fun e w'=>GmTo w pg b (overG d g id) e w':=by
 obtain ⟨p,hp⟩:∃ p,overG d g id=p:=⟨_,rfl⟩
 rw [hp]
 unfold overG at hp
 simp only at hp
 obtain ⟨a,ha⟩:∃ a,appendD d g.l (recE id)=a:=⟨_,rfl⟩
 have hap:=h.append hi h49 (r:=recE id) (sv:=.slice none 0 0) (tv:=.slice none 0 0) (rdN_nil _) (rdN_nil _) (by show (0:Nat)≤_;omega) ha
 rw [ha] at hp
 obtain ⟨k,ad,al⟩:=a
 simp only at hp hap
 have C:=h.c0
 have hpg:=lt_of_block h.blk
 have HW:=hide hw
 have HE:=hide hp
 clear h hp ha hw
 go_enter Tryz.func61,Tryz.ntmps61
 go_upto_region 2 with (go_at_call 58;refine hap.mono ?_;rintro e w2 ⟨rfl,b2,h2,t2⟩;have H2:=hd2 h2 t2;clear h2 t2 hap)
 by_cases hk:k=0
 · subst hk
   have h2:=H2.out.1
   have hdr:=sdrop_any h2.set id HW.out
   have C1:=h2.c1
   clear h2 C
   go_upto_region 4 with (go_at_call 89;refine hdr.mono ?_;rintro e w3 ⟨rfl,N3,h3,t3⟩
                          obtain ⟨h4,t4⟩:=H2.out.1.toSet h3 t3
                          have H3:=hd2 h4 t4
                          clear h3 t3 h4 t4 hdr C1)
   have C2:=H3.out.1.c2
   have hpg3:=lt_of_block H3.out.1.blk
   go_wp2_with (first
    | (at_delete
       refine wpList_delete_L _ rfl _ _ rfl Tryz.underlying79 rfl H3.out.1.nt HW.out rfl ?_
       intro w4 hq4 hg4
       rw [delM_ntV] at hq4
       obtain ⟨h5,t5⟩:=H3.out.1.toNt hq4 ((Mod.refl [b2.nb] w3).grown hg4 (by simp))
       have H5:=hd2 h5 t5
       clear h5 t5 hq4 hg4)
    | fail)
   go_ret
   rw [← HE.out,if_pos (by simp)]
   exact ⟨rfl,_,H5.out.1,(H2.out.2.trans H3.out.2).trans H5.out.2⟩
 · have hkb:(k==0)=false:=by simpa using hk
   go_wp2_with fail
   go_ret
   rw [← HE.out,if_neg hk]
   exact ⟨rfl,b2,H2.out⟩
theorem keep_any (h:GM w pg b d g) (hl:g.nt.length≤100) {x:Grt} (sv:Value) (e:Int) (hw:(Lit.int .i64 x.id).wf=true) (hp:x.path.size≤9223372036854775807) :
 Calls Tryz.prog 40 #[.pointer (some ⟨pg,0,none⟩),aggG x sv,.int .i64 e] w fun en w'=>en=.returned (.tuple #[])∧∃ b',GM w' pg b' d (keepG g x e)∧GTo w pg b w' b':=by
 obtain ⟨xi,xh,xp,xm,xs,xt⟩:=x
 simp only at hw hp
 have gA:=((Gr.refl w).alloc (.cells #[.int .i64 xi,.int .i64 xh,.string xp,.int .i64 xm,sv,.int .i64 xt] 35)).mod []
 have bA:=heap_alloc_new w (.cells #[.int .i64 xi,.int .i64 xh,.string xp,.int .i64 xm,sv,.int .i64 xt] 35)
 obtain ⟨w1,hw1⟩:∃ w1,w1=w.alloc (.cells #[.int .i64 xi,.int .i64 xh,.string xp,.int .i64 xm,sv,.int .i64 xt] 35):=⟨_,rfl⟩
 rw [← hw1] at gA bA
 have h1:=h.quiet gA
 have hpu:=fun (W:World) (m:Mod [] w1 W)=>sput_any (h1.quiet m).set xi xp xm xh hp hw
 unfold aggG cellsG
 simp only
 have C1:=h1.c1
 have hpg:=lt_of_block h1.blk
 have HP:=hide hpu
 have HB:=hide bA
 have HX:=hd4 h1 gA hw hl
 clear hpu h1 bA gA hw hl
 go_enter Tryz.func40,Tryz.ntmps40
 go_wp2_with fail
 rw [← hw1]
 clear hw1
 have CB:=blk_cell HB.out
 go_still_tail 13,(by kernel_rfl)
 change wpList _ _ _ _ _ w1.drew
 clear C1
 go_upto_region 2 with (go_at_call 79;refine (HP.out _ ((Mod.refl [] w1).drew)).mono ?_;rintro en w2 ⟨rfl,N2,h2,t2⟩
                        have h3:=(HX.out.1.quiet ((Mod.refl [] w1).drew)).toSet h2 t2
                        have HH3:=hide h3
                        clear h2 t2 h3 HP CB)
 have m2:=HH3.out.2.mod
 have hn1:=HX.out.1.lt
 have C2:=HH3.out.1.c2
 have CB2:=blk_cell (m2.at_ (((Mod.refl [] w1).drew).at_ HB.out (by simp)) (fun e=>by
  have:=h.lt _ e
  omega))
 have hq:=HH3.out.1.nt
 have hql:(g.nt.map ntV).length<maxLen:=by
  have:=HX.out.2.2.2
  unfold maxLen
  rw [List.length_map]
  omega
 have hwx:=HX.out.2.2.1
 clear m2 hn1
 go_still_tail 8,(by kernel_rfl)
 change wpList _ _ _ _ _ w2.drew
 go_wp2_with (
  at_mapUpdate
  refine wpList_store_L (T:=iK) _ rfl _ _ _ rfl Tryz.underlying79 rfl (hq.mod ((Mod.refl [] w2).drew) (by simp)) hql (key:=xi) hwx rfl _ rfl ?_
  intro w3 q1 q2
  clear C2 CB2)
 go_end0
 replace q1:MapL iK w3 b.nb (setM (g.nt.map ntV) xi (aggN ⟨e,0,0⟩)):=q1
 rw [setM_ntV] at q1
 obtain ⟨h5,t5⟩:=HH3.out.1.toNt q1 (((Mod.refl [b.nb] w2).drew).grown q2 (fun k e _=>by cases e;simp))
 exact ⟨rfl,_,h5,((GTo.quiet (HX.out.2.1.then ((Mod.refl [] w1).drew))).trans HH3.out.2).trans t5⟩
end
end Go.Proofs.YtllljngpgjkdiaaGreatDoor
/-
  WALKS: layer 4: Extend; layer 16: extended. Appending what reads as a list of numbers onto a row of one's own.
-/
namespace Go.Proofs.YtllljngpgjkdiaaGreatDoor
set_option maxRecDepth 100000
set_option maxHeartbeats 1000000
open Go.RowKit

section
variable {P:Program}
theorem wpList_append_rn {ops:Array Oper} {rest:List Oper} {o:Oper} {a:Act} {Q:Exit→Act→World→Prop} (w:World) (hgd:o.guard=none) (s x:Operand) (t:TypeId)
 (ho:o.op=.call { callee:=.builtin .append,args:=#[s,x],argTypes:=#[t,t] })
 (e:TypeId) (i:TypeInfo) (ht:P.underlying t=some (.slice e)) (hi:P.info? e=some i) (hz:i.zero=some (.int .i64 0)) (hsize:i.size=1) (hby:i.bytes=8)
 {u v:Value} {base n:Nat} {xs:List Value} {m:List Int} (hs:a.eval s=u) (hu:w.ownsRow base e 1 u n xs) (hx:a.eval x=v) (hv:RdN w v m) (hsm:n+m.length≤1000000) (hbase:base≤w.heap.size)
 (h:∀ u' w',w'.ownsRow base e 1 u' (n+m.length) (xs++m.map (Value.int .i64))→w.grownBy w' u.ownBlock→wpList P ops Q rest (a.put o.dst u') w'):wpList P ops Q (o::rest) a w:=by
 by_cases hm:m=[]
 · subst hm
   obtain ⟨p,c,rfl⟩:=hv.len
   obtain ⟨q,c',rfl,hqc,-⟩:=row_form hu
   have src:Src P i.size t (.slice p 0 c) 0 [] w:=by
    cases p with
    | none=>exact Src.ofNil w ht c
    | some ad=>exact Src.ofSlice w ht ad 0 c [] (by simp) (fun _ _ h=>by simp at h) (fun _ h=>by cases h)
   have hr:=run_append_nothing w t t o.type e i ht hi q n c' hqc _ src
   refine wpList_plain hgd fun K hK=>?_
   unfold Oper.wp execOp
   simp only [List.length_nil] at hx
   simp only [ho,resolve,invoke,builtin,Sem.run_bind,Sem.run_pure,Result.andThen_ok,List.map_toArray,List.map_cons,List.map_nil,hs,hx,hr]
   refine hK _ _ (h _ _ (by simpa using hu) ⟨rfl,rfl,rfl,Nat.le_refl _,fun _ _ _=>rfl⟩)
 · have hpos:0<m.length:=List.length_pos_iff.2 hm
   rcases hv.2 with ⟨p,c,_,rfl⟩ | ⟨b,off,cap,rfl,hb,hc⟩
   · exact absurd rfl hm
   · refine wpList_append_lies w hgd s x t ho base e i (.int .i64 0) 1 8 ht hi hz hsize hby rfl (by decide) u n xs hs hu ⟨b,off,none⟩ m.length cap (m.map (Value.int .i64)) hx (by simp) ?_ (by simp [Value.oneCell']) hpos (by unfold maxLen;omega) (by omega) hbase ?_
     · intro j z hz
       obtain ⟨hj,rfl⟩:=List.getElem?_eq_some_iff.1 hz
       rw [List.length_map] at hj
       have:=hc j hj
       rw [Addr.add_lit,this]
       simp [hj]
     · intro g cap' w' hown hg hat
       exact h _ _ hown hg
end
theorem made_row (w:World) (c:Nat) (hc:c≤1000000) {T:TypeId}:(w.alloc (.cells (madeCells (Value.cells (.int .i64 0)) c) T (0,0))).ownsRow w.heap.size T 1 (.slice (some ⟨w.heap.size,0,none⟩) 0 c) 0 []:=by
 refine ⟨rfl,.inr ⟨w.heap.size,c,_,rfl,Nat.le_refl _,heap_alloc_new w _,Nat.zero_le _,by unfold maxLen;omega,?_,rfl⟩⟩
 simp [madeCells,Value.cells]
theorem make_ints (w:World) (c:Nat) (hc:c≤1000000):(Instr.makeSlice 23 (.int .i64 0) (.int .i64 (c:Int))).run Tryz.prog w=.ok (.slice (some ⟨w.heap.size,0,none⟩) 0 c) (w.alloc (.cells (madeCells (Value.cells (.int .i64 0)) c) 3 (0,0))):=by
 obtain ⟨i0,hi0,hz0,hs0,hb0⟩:=info_parts info_int
 rw [run_make w 23 3 i0 _ Tryz.underlying23 hi0 hz0 .i64 .i64 0 c (by omega) (by omega) (by rw [hb0];omega) (by omega)]
 simp [hs0]
theorem rd_blk {w:World} {b:Nat} {T:TypeId} {fr:Nat × Nat} {m:List Int} (h:w.heap[b]?=some (.cells (m.map (Value.int .i64)).toArray T fr)) (hl:m.length≤maxLen):RdN w (.slice (some ⟨b,0,none⟩) m.length m.length) m:=by
 refine ⟨hl,.inr ⟨b,0,m.length,rfl,lt_of_block h,fun i hi=>?_⟩⟩
 simp [World.cell?,h,hi]
theorem one_rd (w:World) (n:Int):RdN (w.alloc (.cells #[.int .i64 n] 3 (0,0))) (.slice (some ⟨w.heap.size,0,none⟩) 1 1) [n]:=rd_blk (m:=[n]) (heap_alloc_new w _) (by show 1≤maxLen;decide)
def ExtTo (w:World) (s:List Int) (n:Int) (e:Ending) (w':World):Prop :=
 ∃ v k,e=.returned (.tuple #[v,.int .i64 k])∧w'.ownsRow w.heap.size 3 1 v (extS s n).length ((extS s n).map (Value.int .i64))∧Mod [] w w'
theorem extend_any {w:World} {v:Value} {s:List Int} (hv:RdN w v s) (n:Int):Calls Tryz.prog 82 #[v,.int .i64 n] w fun e w'=>ExtTo w s n e w':=by
 obtain ⟨x,hx⟩:∃ x,extS s n=x:=⟨_,rfl⟩
 unfold ExtTo
 rw [hx]
 unfold extS at hx
 have hsv:=svalid_any hv
 have hct:=fun (W:World)=>counts_any n W
 obtain ⟨p,c,rfl⟩:=hv.len
 by_cases h1:stampOk s
 · rw [decide_eq_true h1] at hsv
   obtain ⟨ln,hln⟩:∃ ln,s.length=ln:=⟨_,rfl⟩
   have hl4:ln≤4:=by rw [← hln];exact h1.1
   by_cases h2:ln=4
   · have hx':([]:List Int)=x:=by rw [← hx,if_neg (fun h=>h.2.1 (by omega))]
     subst hx'
     rw [hln] at hsv ⊢
     subst h2
     clear hx hct hv hln h1 hl4
     go_enter Tryz.func82,Tryz.ntmps82
     go_wp2_with (go_at_call 69;refine hsv.mono ?_;rintro e w1 ⟨rfl,hx⟩;rw [hx];clear hx)
     go_ret2
     exact ⟨_,_,rfl,World.ownsRow_nil _ _ _ _,Mod.refl _ _⟩
   · by_cases h3:countOk n
     · have hx':s++[n]=x:=by rw [← hx,if_pos ⟨h1,by omega,h3⟩]
       subst hx'
       rw [decide_eq_true h3] at hct
       have hmk:∀ W:World,(Instr.makeSlice 23 (.int .i64 0) (.int .i64 ((ln:Int)+1))).run Tryz.prog W=.ok (.slice (some ⟨W.heap.size,0,none⟩) 0 (ln+1)) (W.alloc (.cells (madeCells (Value.cells (.int .i64 0)) (ln+1)) 3 (0,0))):=fun W=>make_ints W (ln+1) (by omega)
       have e1:IntKind.i64.wrap ((ln:Int)+1)=(ln:Int)+1:=by rw [IntKind.wrap_i64];omega
       have d1:((ln:Int)==4)=false:=by simp;omega
       rw [hln] at hsv ⊢
       obtain ⟨i0,hi0,hz0,hs0,hb0⟩:=info_parts info_int
       have HV:=hd3 hv hln hl4
       clear hx h1 h2 h3 hv hl4
       go_enter Tryz.func82,Tryz.ntmps82
       have t1:Hid True:=hide trivial
       go_wp2_with (first
        | (go_at_call 69;refine hsv.mono ?_;rintro e w1 ⟨rfl,hx⟩;rw [hx];clear hx)
        | (go_at_call 100;refine (hct _).mono ?_;rintro e w1 ⟨rfl,hx⟩;rw [hx];clear hx)
        | (at_builtin
           have tk:=t1
           have hmr:=made_row w (ln+1) (by have:=HV.out.2.2;omega) (T:=3)
           have hv1:=HV.out.1.gr ((Gr.refl w).alloc (.cells (madeCells (Value.cells (.int .i64 0)) (ln+1)) 3 (0,0)))
           rw [HV.out.2.1] at hv1
           refine wpList_append_rn _ rfl _ _ 23 rfl 3 i0 Tryz.underlying23 hi0 hz0 hs0 hb0 rfl hmr rfl hv1 (by have:=HV.out.2.1;have:=HV.out.2.2;omega) (by simp) ?_
           intro u2 w2 ho2 hg2
           replace hg2:(w.alloc (.cells (madeCells (Value.cells (.int .i64 0)) (ln+1)) 3 (0,0))).grownBy w2 (some w.heap.size):=hg2
           clear t1 tk hmr hv1)
        | (at_builtin
           have hz2:=hg2.size
           have hbb:=one_rd w2 n
           have hsm:0+s.length+[n].length≤1000000:=(by have:=HV.out.2.1;have:=HV.out.2.2;show 0+s.length+1≤_;omega)
           have hbs:w.heap.size≤(w2.alloc (.cells #[.int .i64 n] 3 (0,0))).heap.size:=(by rw [World.size_alloc];rw [World.size_alloc] at hz2;omega)
           have ho3:=Mod.row ((Mod.refl [] w2).alloc (.cells #[.int .i64 n] 3 (0,0))) ho2 (by simp)
           refine wpList_append_rn _ rfl _ _ 23 rfl 3 i0 Tryz.underlying23 hi0 hz0 hs0 hb0 rfl ho3 rfl hbb hsm hbs ?_
           intro u3 w3 ho4 hg4
           replace hg4:(w2.alloc (.cells #[.int .i64 n] 3 (0,0))).grownBy w3 u2.ownBlock:=hg4
           clear ho3 hbb hz2)
        | fail)
       go_ret2
       refine ⟨_,_,rfl,?_,?_⟩
       · rw [List.length_append,List.map_append]
         simpa using ho4
       · have hob:=ob_of_row ho2
         have m2:Mod [] w w2:=(((Mod.refl [] w).alloc _).grown hg2 (fun k e hk=>by cases e;omega))
         exact (m2.alloc _).grown hg4 (fun k e hk=>by have:=(hob k (by simp [ob,e])).1;omega)
     · have hx':([]:List Int)=x:=by rw [← hx,if_neg (fun h=>h3 h.2.2)]
       subst hx'
       rw [decide_eq_false h3] at hct
       rw [hln] at hsv ⊢
       have d1:((ln:Int)==4)=false:=by simp;omega
       clear hx hv hln h1 h2 h3 hl4
       go_enter Tryz.func82,Tryz.ntmps82
       go_wp2_with (first
        | (go_at_call 69;refine hsv.mono ?_;rintro e w1 ⟨rfl,hx⟩;rw [hx];clear hx)
        | (go_at_call 100;refine (hct _).mono ?_;rintro e w1 ⟨rfl,hx⟩;rw [hx];clear hx)
        | fail)
       go_ret2
       exact ⟨_,_,rfl,World.ownsRow_nil _ _ _ _,Mod.refl _ _⟩
 · have hx':([]:List Int)=x:=by rw [← hx,if_neg (fun h=>h1 h.1)]
   subst hx'
   rw [decide_eq_false h1] at hsv
   clear hx hct hv h1
   go_enter Tryz.func82,Tryz.ntmps82
   go_wp2_with (go_at_call 69;refine hsv.mono ?_;rintro e w1 ⟨rfl,hx⟩;rw [hx];clear hx)
   go_ret2
   exact ⟨_,_,rfl,World.ownsRow_nil _ _ _ _,Mod.refl _ _⟩
theorem extended_any {w:World} {l:Lease} {v:Value} (hv:RdN w v l.stamp) (n:Int):Calls Tryz.prog 57 #[aggL l v,.int .i64 n] w fun e w' =>
 ∃ q c,e=.returned (.slice q (extS l.stamp n).length c)∧w'.ownsRow w.heap.size 3 1 (.slice q (extS l.stamp n).length c) (extS l.stamp n).length ((extS l.stamp n).map (Value.int .i64))∧Mod [] w w':=by
 obtain ⟨lf,li,lp,lm,la,lt,ls,le,lr⟩:=l
 unfold aggL cellsL
 simp only at hv ⊢
 have g1:=(Gr.refl w).alloc (.cells #[.int .i64 lf,.int .i64 li,.string lp,.int .i64 lm,v,.int .i64 lt,.int .i64 ls,.int .i64 le,.bool lr] 25)
 have hx:=extend_any (hv.gr g1) n
 have hz:=g1.size
 have G:=hide (g1.mod [])
 obtain ⟨pv,cv,rfl⟩:=hv.len
 clear hv g1
 go_enter Tryz.func57,Tryz.ntmps57
 go_wp2_with (go_at_call 82;refine hx.mono ?_;rintro e w1 ⟨v1,k,rfl,ho,hm⟩;obtain ⟨q,c,hq⟩:∃ q c,v1=.slice q (extS la n).length c:=(by obtain ⟨q,c,h,_⟩:=row_form ho;exact ⟨q,c,h⟩)
              subst hq
              have H:=hd2 ho hm;clear ho hm hx)
 go_ret
 exact ⟨q,c,rfl,row_base H.out.1 hz,G.out.then H.out.2⟩
end Go.Proofs.YtllljngpgjkdiaaGreatDoor
