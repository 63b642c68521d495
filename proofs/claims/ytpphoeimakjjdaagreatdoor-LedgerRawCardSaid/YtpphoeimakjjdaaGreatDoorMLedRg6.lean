/-
  WALKS: the document's layer 9: copied; a disk of the document's in memory.
-/
import Derived.Test.YtpphoeimakjjdaaGreatDoorMOctR
import Derived.Test.YtpphoeimakjjdaaGreatDoorMRds
import Derived.Test.YtpphoeimakjjdaaGreatDoorMDsk
namespace Go.Proofs.YtpphoeimakjjdaaGreatDoor
set_option maxRecDepth 100000
set_option maxHeartbeats 2000000
open Go.RowKit

def cpY (b:B8) (k:Nat):B8:=b.take k++List.replicate (b.length - k) 0
theorem cpY_len (b:B8) {k:Nat} (h:k≤b.length):(cpY b k).length=b.length:=by simp [cpY];omega
theorem cpY_set (b:B8) {k:Nat} (h:k<b.length):(cpY b k).set k (b.getD k 0)=cpY b (k+1):=by
 have h1:(b.take k).length=k:=by simp;omega
 unfold cpY
 rw [List.set_append_right _ _ (by omega),h1,Nat.sub_self,show b.length - k=(b.length - (k+1))+1 by omega,List.replicate_succ,List.set_cons_zero,List.take_succ_eq_append_getElem h,List.append_assoc,List.singleton_append]
 congr 2
 simp [h]
def RcpRel (w:World) (b:B8) (g:Nat) (i:Value) (wr:World):Prop:=∃ k:Nat,i=.int .i64 (k:Int)∧k≤b.length∧YBlk wr g (cpY b k)∧Mod [] w wr
theorem rcopied_any {w:World} {u:Value} {b:B8} (hu:RdY w u b) (hl:b.length≤1000000):Calls Tryz.prog 71 #[u] w fun e w'=>RgY w b e w':=by
 obtain ⟨q,cc,rfl⟩:=hu.len
 have hmk:=fun w=>make_y w b.length hl
 have HU:=hide hu
 clear hu
 go_enter Tryz.func71,Tryz.ntmps71
 go_wp2_with fail
 obtain ⟨W1,hW1⟩:∃ x,x=w.alloc (zObj b.length):=⟨_,rfl⟩
 have m1:Mod [] w W1:=by rw [hW1];exact (Mod.refl _ _).alloc _
 have k1:YBlk W1 w.heap.size (cpY b 0):=by rw [hW1];simpa [cpY] using zObj_blk w b.length
 obtain ⟨g,hg⟩:∃ x,w.heap.size=x:=⟨_,rfl⟩
 try rw [← hW1]
 have HG:=Hj3 m1 k1 hg
 rw [hg] at k1
 clear hW1 m1 k1 hmk
 rw [hg]
 clear hg
 go_loopw [4] (fun i wr=>RcpRel w b g i wr) (fun i _=>b.length - (intOf i).toNat)
 case atStart=>exact ⟨0,rfl,Nat.zero_le _,HG.out.2.2 ▸ HG.out.2.1,HG.out.1⟩
 case round =>
  obtain ⟨k,rfl,hk,hy,hm⟩:=hrel
  have hln:=cpY_len b hk
  by_cases hlt:k<b.length
  · obtain ⟨b1,o1,rfl,hb1,c1⟩:=HU.out.at_ k hlt
    have c2:=hm.kept c1 (by simp)
    have hz:=hm.size
    have hset:=cpY_set b hlt
    have hys:=YBlk.set hy k (b.getD k 0)
    rw [hset] at hys
    generalize b.getD k 0=z at c2 hys
    unfold y8 at c2
    have hc4:∃ v,wr.cell? ⟨g,k,none⟩=some v:=⟨y8 ((cpY b k)[k]'(by omega)),by rw [blk_cell hy];simp [hln,hlt]⟩
    obtain ⟨v4,c4⟩:=hc4
    have f3:=blk_free hy k;have l3:=lt_of_block hy
    have HY:=hide hys
    have hm2:Mod [] w (wr.setCell ⟨g,k,none⟩ (.int .u8 (z.toNat:Int))):=hm.setCell (fun h=>by have h:g<w.heap.size:=h;have:=HG.out.2.2;omega) _
    have HM:=hide hm2
    clear hys hy c1 hset hm2
    go_wp2_with fail
    go_roundw
    case rel=>exact ⟨k+1,by go_num,by omega,HY.out,HM.out⟩
    case measure=>simp [intOf];omega
  · obtain rfl:k=b.length:=by omega
    have hz:=hm.size
    go_wp2_with fail
    go_ret
    have he:cpY b b.length=b:=by simp [cpY]
    rw [he] at hy
    exact ⟨_,rfl,hy.row (by rw [HG.out.2.2];exact Nat.le_refl _) (by unfold maxLen;omega),hm⟩
end Go.Proofs.YtpphoeimakjjdaaGreatDoor
