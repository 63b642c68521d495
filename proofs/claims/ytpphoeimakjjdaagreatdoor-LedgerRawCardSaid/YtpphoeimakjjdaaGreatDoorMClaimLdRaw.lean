/-
  The law LedgerRaw answers true for every input and leaves its arguments as they were; the two tables that its row lists are tied to the program's text. No condition.
-/
import Derived.Test.YtpphoeimakjjdaaGreatDoorMLedRaw
import Derived.Test.YtpphoeimakjjdaaGreatDoorMLawEnd
import Derived.Test.YtpphoeimakjjdaaGreatDoorTie
import Derived.Test.YtpphoeimakjjdaaGreatDoorCards
import Derived.SevenTiedAt
import Derived.LaidMore
import Derived.Lay
import Derived.ProofKit
import Derived.OpenShut
import Derived.Stop.Joined
namespace Go.Proofs.YtpphoeimakjjdaaGreatDoor.ledgerRaw
open Go.ChangeShapes Go.WideShapes Go.ChangeAt Go.RowKit

set_option maxRecDepth 100000 in
theorem lifted (os:Os) (started:os.Started) (H:Type) (enc:TypeId × Value→H) :
 ReturnsInHanded {} Tryz.checked os 8 .any (fun w args=>(Rows.ledgerRawSpec.pre enc Tryz.prog Tryz.f8 [] false w args∧laidMetH Tryz.prog Rows.ledgerRawRow.laid w)∧sizedMet enc Tryz.prog Tryz.f8 (OpenSpec.ofChange Rows.ledgerRawSpec) false w args)
  (Rows.ledgerRawSpec.post enc Tryz.prog Tryz.f8 false true false false):=by
 refine returnsInHanded_of_change_and (C:=Tryz.checked) (X:=fun w _=>laidMetH Tryz.prog Rows.ledgerRawRow.laid w) (fun _ _ _ hh h=>h.of_heap hh) own started (by kernel_rfl) Tryz.func8
  (ChangeSpec.witness_shaped (enc:=enc) (C:=Tryz.checked) (os:=os) (X:=fun w _=>laidMetH Tryz.prog Rows.ledgerRawRow.laid w) false (World.laidAll Tryz.prog os Rows.ledgerRawRow.laid) #[.slice none 0 0,.agg #[.int .i64 0,.int .i64 0,.int .i64 0,.string ⟨#[]⟩,.int .i64 0,.slice none 0 0,.int .i64 0,.int .i64 0,.slice none 0 0,.int .i64 0,.int .i64 0,.int .i64 0]] 8 (World.laidAll_os _ _ _)
    (World.shaped_of_ZipB (by kernel_rfl) (by kernel_rfl)) (by kernel_rfl) (by kernel_rfl) (by kernel_rfl)
    (by rw [MakeChecks.laidMetH_plain _ _ _ (by kernel_rfl)];exact laidMet_laidAll _ (by kernel_rfl) (by kernel_rfl))) ?_
 intro W base args ds gs before hval0 hW _ hz _ _
 have hval:∀ (j:Nat) t v,Tryz.f8.params[j]?=some t→args[j]?=some v→Value.okWide Tryz.prog W .any base t v:=hval0
 have hW':=hW
 obtain ⟨p,q,hA,hV,rfl,_,_⟩:=hW
 obtain ⟨rfl,rfl⟩:=trodVars_none hV
 have hA0:DataW.TrodAll enc Tryz.prog W 0 (fun _=>true) true Tryz.f8.params.toList args.toList ds p:=hA
 rw [Tryz.params8] at hA0 hz hval
 obtain ⟨v0,vs0,d0,ds0,p0,q0,hargs,rfl,rfl,h0,r0⟩:=trodAll_cons hA0
 obtain ⟨v1,vs1,d1,ds1,p1,q1,rfl,rfl,rfl,h1,r1⟩:=trodAll_cons r0
 obtain ⟨rfl,rfl,rfl⟩:=trodAll_nil r1
 obtain rfl:args=#[v0,v1]:=by cases args;simp_all
 obtain ⟨z0,zr0⟩:=weights_cons (show (DataW.weightsEach Tryz.prog (65::_) (d0::_)).all _=true from hz)
 obtain ⟨l,q1,c1,rfl,hl,hb,hbig⟩:=open_img (hval 0 65 v0 rfl rfl) h0 z0
 obtain ⟨z1,zr1⟩:=weights_cons (zr0)
 obtain ⟨r,p1x,d1x,p2x,d2x,rfl,hs,ht,hr⟩:=open_rcd (hval 1 42 v1 rfl rfl) h1 z1
 refine (lraw_any hl hb hbig hs ht hr).mono fun e W' ⟨he,hm⟩=>?_
 subst he
 exact ⟨_,rfl,law_post (by kernel_rfl) rfl (by rw [Tryz.params8];intro t ht;revert t;decide +kernel) hW' (fun x hx=>by simpa using hW'.lt x hx) rfl rfl rfl hm⟩

theorem over:Rows.LedgerRawSaid :=
 OpenClaim.holds_of_wide 8 Tryz.f8 rfl rfl rfl rfl rfl rfl rfl ⟨rfl,rfl,rfl,rfl,rfl⟩ rfl rfl rfl rfl rfl (by kernel_rfl) Tryz.func8 (by kernel_rfl)
  (of_decide_eq_true (by kernel_rfl)) (by unfold Func.isWrapper;first | (rw [if_pos (by decide +kernel)];kernel_rfl) | (rw [if_neg (by decide +kernel)];exact ⟨rfl,rfl⟩))
  (fun os started H enc _=>lifted os started H enc)

theorem proved:Rows.LedgerRawCardSaid :=
 Claim7.holds_tied_plain_at .later [] [.data,.pinned] true (true, "68d7da9358f372995fbbb11539fd71301dcfc76a3c24983ef65f897ce1642256") true over (fun _ h=>by cases h) (by kernel_rfl) (fun _ h=>by cases h) ledgerRaw_row_tie rfl ⟨rfl,rfl⟩ (by kernel_rfl) rfl
  (fun f fn hf hfn=>by
    obtain rfl:f=8:=Option.some.inj ((show Tryz.prog.funcNamed "sublet/subletlaw12.LedgerRaw"=some 8 by kernel_rfl).symm.trans hf) |>.symm
    obtain rfl:fn=Tryz.f8:=(Option.some.inj (Tryz.func8.symm.trans hfn)).symm
    exact ⟨by kernel_rfl,fun j t ht=>by
     rw [Tryz.params8] at ht
     have hm:t∈[65,42]:=by simpa using Array.mem_of_getElem? ht
     have hall:([65,42].all fun u=>!Tryz.prog.wantsStandIn u)=true:=by kernel_rfl
     exact (show Tryz.prog.wantsStandIn t=false by simpa using List.all_eq_true.1 hall t hm)⟩)
  (by kernel_rfl)
#print axioms proved
end Go.Proofs.YtpphoeimakjjdaaGreatDoor.ledgerRaw
