/-
  WALKS: the document's layer 9: Same, of the same sectors.
-/
import Derived.Test.YtpphoeimakjjdaaGreatDoorMLedRgA
import Derived.Test.YtpphoeimakjjdaaGreatDoorMWpL
import Derived.Deep.DeepCutAuto
namespace Go.Proofs.YtpphoeimakjjdaaGreatDoor
set_option maxRecDepth 100000
set_option maxHeartbeats 2000000
open Go.RowKit

def SmRel (w:World) (n:Nat) (i:Value) (wr:World):Prop:=∃ k:Nat,i=.int .i64 (k:Int)∧k≤n∧Mod [] w wr
theorem rsame9_any {w:World} {u v:Value} {ls:List B8} (hu:RdA w u ls) (hv:RdA w v ls):Calls Tryz.prog 35 #[u,v] w fun e w'=>e=.returned (.bool true)∧Mod [] w w':=by
 have hmx:ls.length≤9223372036854775807:=hu.1
 obtain ⟨qu,cu,rfl⟩:=hu.len
 obtain ⟨qv,cv,rfl⟩:=hv.len
 have HH:=Hj2 hu hv
 have hn:((ls.length:Int) != (ls.length:Int))=false:=by simp
 clear hu hv
 go_enter Tryz.func35,Tryz.ntmps35
 go_wp2_with fail
 go_loopw [5] (fun i wr=>SmRel w ls.length i wr) (fun i _=>ls.length - (intOf i).toNat)
 case atStart=>exact ⟨0,rfl,Nat.zero_le _,Mod.refl _ _⟩
 case round =>
  obtain ⟨k,rfl,hk,hm⟩:=hrel
  by_cases hlt:k<ls.length
  · obtain ⟨b1,o1,v1,rfl,hb1,c1,r1⟩:=(HH.out.1.quiet hm).at_ k hlt
    obtain ⟨b2,o2,v2,rfl,hb2,c2,r2⟩:=(HH.out.2.quiet hm).at_ k hlt
    obtain ⟨b,hb⟩:∃ b,ls.getD k []=b:=⟨_,rfl⟩
    rw [hb] at r1 r2
    obtain ⟨s,hs⟩:∃ s:ByteArray,(⟨b.toArray⟩:ByteArray)=s:=⟨_,rfl⟩
    have hcm:(s.toList==s.toList)=true:=by simp
    have T:∀ W,Mod [] wr W→(W.cell? ⟨b1,o1+k,none⟩=some v1∧W.cell? ⟨b2,o2+k,none⟩=some v2)∧((convert 71 9 v1).run Tryz.prog W=.ok (.string s) W∧(convert 71 9 v2).run Tryz.prog W=.ok (.string s) W):=fun W m =>
     ⟨⟨m.kept c1 (by simp),m.kept c2 (by simp)⟩,by rw [← hs];exact (r1.mod m (by simp)).str,by rw [← hs];exact (r2.mod m (by simp)).str⟩
    have HT:=Hj2 T hm
    have mv:Mod [] wr wr.drew:=(Mod.refl _ _).drew
    clear T hm c1 c2 r1 r2 hb hs
    go_upto_region 6 with fail
    refine pB 999 (fun w2=>Mod [] wr w2) mv ?_
    refine pP 0 ?_;refine pP 1 ?_;refine pP 2 ?_
    refine pH 3 rfl (fun w2 h=>by have D:=(HT.out.1 w2 h).1.1;go_simp;try with_reducible rfl) ?_
    refine pH 4 rfl (fun w2 h=>by have D:=(HT.out.1 w2 h).2.1;go_simp;try with_reducible rfl) ?_
    refine pP 5 ?_;refine pP 6 ?_;refine pP 7 ?_
    refine pH 8 rfl (fun w2 h=>by have D:=(HT.out.1 w2 h).1.2;go_simp;try with_reducible rfl) ?_
    refine pH 9 rfl (fun w2 h=>by have D:=(HT.out.1 w2 h).2.2;go_simp;try with_reducible rfl) ?_
    refine pP 10 ?_
    refine pE fun hT=>?_
    go_wp2_with fail
    go_roundw
    case rel=>exact ⟨k+1,by go_num,by omega,HT.out.2.then hT⟩
    case measure=>simp [intOf];omega
  · obtain rfl:k=ls.length:=by omega
    go_wp2_with fail
    go_ret
    exact ⟨rfl,hm⟩
end Go.Proofs.YtpphoeimakjjdaaGreatDoor
