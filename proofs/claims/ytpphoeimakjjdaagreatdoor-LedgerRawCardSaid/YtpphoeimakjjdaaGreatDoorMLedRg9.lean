/-
  WALKS: the document's layer 10: lay.
-/
import Derived.Test.YtpphoeimakjjdaaGreatDoorMLedRg3
import Derived.Test.YtpphoeimakjjdaaGreatDoorMDecB
import Derived.Deep.AppendSrc
import Derived.Deep.DeepCutAuto
namespace Go.Proofs.YtpphoeimakjjdaaGreatDoor
set_option maxRecDepth 100000
set_option maxHeartbeats 4000000
open Go.RowKit

theorem wpList_app_rd {ops:Array Oper} {rest:List Oper} {o:Oper} {a:Act} {Q:Exit→Act→World→Prop} (w:World) (hgd:o.guard=none) (s x:Operand)
 (ho:o.op=.call { callee:=.builtin .append,args:=#[s,x],argTypes:=#[71,71] }) {base:Nat} {v u:Value} {d news:B8} (hs:a.eval s=v) (hown:RowY w base v d) (hx:a.eval x=u) (hu:RdY w u news)
 (hsz:d.length+news.length≤1000000) (hbase:base≤w.heap.size)
 (h:∀ q c w',RowY w' base (.slice q (d.length+news.length) c) (d++news)→Mod (ob v) w w'→wpList Tryz.prog ops Q rest (a.put o.dst (.slice q (d.length+news.length) c)) w'):wpList Tryz.prog ops Q (o::rest) a w:=by
 obtain ⟨q,cc,rfl⟩:=hown.rd.len
 by_cases hm:news=[]
 · subst hm
   obtain ⟨p,c,rfl⟩:=hu.len
   obtain ⟨i0,hi0,hz0,hs0,hb0⟩:=info_parts info_byte
   have src:Src Tryz.prog i0.size 71 (.slice p 0 c) 0 [] w:=by
    cases p with
    | none=>exact Src.ofNil w Tryz.underlying71 c
    | some ad=>exact Src.ofSlice w Tryz.underlying71 ad 0 c [] (by simp) (fun _ _ h=>by simp at h) (fun _ h=>by cases h)
   have hr:=run_append_nothing w 71 71 o.type 5 i0 Tryz.underlying71 hi0 q d.length cc hown.rd.cap _ src
   refine wpList_plain hgd fun K hK=>?_
   unfold Oper.wp execOp
   simp only [List.length_nil] at hx
   simp only [ho,resolve,invoke,builtin,Sem.run_bind,Sem.run_pure,Result.andThen_ok,List.map_toArray,List.map_cons,List.map_nil,hs,hx,hr]
   refine hK _ _ ?_
   have:=h q cc w (by simpa using hown) (Mod.refl _ _)
   simpa using this
 · have hpos:0<news.length:=List.length_pos_iff.2 hm
   rcases hu.2 with ⟨p,c,_,rfl⟩ | ⟨b,off,cap,rfl,hcap,hb,hc⟩
   · exact absurd rfl hm
   · refine wpList_app_y w hgd s x ho base _ d hs hown ⟨b,off,none⟩ news.length cap news hx rfl (fun j hj=>by rw [Addr.add_lit];exact hc j hj) hpos (by omega) hbase ?_
     intro g cap' w' h1 h2 h3 h4
     exact h _ _ w' h1 h2
def RLayRel (w:World) (d:B8) (v:Value) (wr:World):Prop:=∃ (k N:Nat) (q:Option Addr) (c:Nat),v=.slice q N c∧N=d.length+k∧N≤60∧RowY wr w.heap.size (.slice q N c) (d++List.replicate k 0)∧Mod [] w wr
theorem rlay_any {w:World} {gen seq i n:Nat} (hg:gen<4294967296) (hs:seq<4294967296) (hi:i<256) (hn:n<256) {q:Option Addr} {c:Nat} {piece:B8} (hu:RdY w (.slice q piece.length c) piece) (hp:piece.length≤47) :
 Calls Tryz.prog 137 #[.agg #[.int .i64 (gen:Int),.int .i64 (seq:Int),.int .i64 (i:Int),.int .i64 (n:Int),.slice q piece.length c]] w fun e w'=>RgY w (packOne gen seq i n piece) e w':=by
 obtain ⟨W1,hW1⟩:∃ x,x=w.alloc (.cells #[.int .i64 (gen:Int),.int .i64 (seq:Int),.int .i64 (i:Int),.int .i64 (n:Int),.slice q piece.length c] 118 (0,0)):=⟨_,rfl⟩
 have m1:Mod [] w W1:=by rw [hW1];exact (Mod.refl _ _).alloc _
 have k1:W1.heap[w.heap.size]?=some (.cells #[.int .i64 (gen:Int),.int .i64 (seq:Int),.int .i64 (i:Int),.int .i64 (n:Int),.slice q piece.length c] 118 (0,0)):=by rw [hW1];exact heap_alloc_new w _
 have hC:∀ w2,Mod [] W1 w2→∀ j,w2.cell? ⟨w.heap.size,j,none⟩=_:=fun w2 m=>blk_cell (m.at_ k1 (by simp))
 have HC:=hide hC
 have HL:=hide (fun w2 (m:Mod [] W1 w2)=>Nat.lt_of_lt_of_le (lt_of_block k1) m.size)
 have H1:=Hj2 m1 (hu.mod m1 (by simp))
 have hw1:IntKind.u32.wrap (gen:Int)=(gen:Int):=by rw [IntKind.wrap_u32'];omega
 have hw2:IntKind.u32.wrap (seq:Int)=(seq:Int):=by rw [IntKind.wrap_u32'];omega
 have C:=HC.out _ (Mod.refl _ _)
 have L:=HL.out _ (Mod.refl _ _)
 clear hu m1 k1 hC
 have t1:Hid True:=hide trivial
 go_enter Tryz.func137,Tryz.ntmps137
 go_upto_region 1 with fail
 rw [← hW1]
 clear hW1
 go_upto_region 2 with (go_at_call 165;refine (rfour_any _ _ hg).mono ?_;rintro e w2 ⟨v2,rfl,r2,m2⟩
                        obtain ⟨q2,c2,rfl⟩:=r2.rd.len
                        have H2:=Hj2 m2 r2;clear C L
                        have C:=HC.out _ m2;have L:=HL.out _ m2;clear m2 r2)
 go_upto_region 3 with (first
  | (go_at_call 165;refine (rfour_any _ _ hs).mono ?_;rintro e w3 ⟨v3,rfl,r3,m3⟩
     obtain ⟨q3,c3,rfl⟩:=r3.rd.len
     have H3:=Hj4 (H2.out.1.then m3) r3 m3 (H2.out.2.mod m3 (by simp));clear C L
     clear m3 r3)
  | (at_builtin
     refine wpList_app_rd _ rfl _ _ rfl rfl H3.out.2.2.2 rfl H3.out.2.1.rd (by simp [fourB]) (by have:=H3.out.1.size;omega) ?_
     intro q4 c4 w4 r4 m4
     have H4:=Hj2 (mod_new H3.out.1 m4 (fun k hk=>(H3.out.2.2.2.blk k hk).1)) r4
     have C:=HC.out _ H4.out.1;have L:=HL.out _ H4.out.1
     clear r4 m4)
  | fail)
 obtain ⟨d4,hd4⟩:∃ d4,fourB gen++fourB seq=d4:=⟨_,rfl⟩
 have h8:d4.length=8:=by rw [← hd4];rfl
 have r4:RowY w4 W1.heap.size (.slice q4 8 c4) d4:=by have h:=H4.out.2;rw [hd4] at h;exact h
 have R4:=Hj4 H4.out.1 r4 h8 hd4
 have hb1:IntKind.u8.wrap (i:Int)=(i:Int):=by rw [IntKind.wrap_u8'];omega
 have hb2:IntKind.u8.wrap (n:Int)=(n:Int):=by rw [IntKind.wrap_u8'];omega
 have hb3:IntKind.u8.wrap (piece.length:Int)=(piece.length:Int):=by rw [IntKind.wrap_u8'];omega
 have hnew:∀ w:World,RdY (w.alloc (.cells #[.int .u8 (i:Int),.int .u8 (n:Int),.int .u8 (piece.length:Int)] 5 (0,0))) (.slice (some ⟨w.heap.size,0,none⟩) 3 3) [UInt8.ofNat i,UInt8.ofNat n,UInt8.ofNat piece.length]:=fun w =>
  (RowY.of_block (base:=0) (m:=[UInt8.ofNat i,UInt8.ofNat n,UInt8.ofNat piece.length]) (heap_alloc_new w _) (Nat.zero_le _) (Nat.le_refl 3) (by decide) rfl (by simp [y8_of _ hi,y8_of _ hn,y8_of piece.length (by omega)])).rd
 clear r4 h8 hd4 H4 H3 H2
 go_upto_region 4 with (
  at_builtin
  refine wpList_app_rd _ rfl _ _ rfl rfl (R4.out.2.1.mod_alloc _) rfl (hnew w4) (by rw [R4.out.2.2.1];simp) (by have:=R4.out.1.size;simp;omega) ?_
  intro q5 c5 w5 r5 m5
  have H5:=Hj2 (mod_new (R4.out.1.alloc _) m5 (fun k hk=>(R4.out.2.1.blk k hk).1)) r5
  have C:=HC.out _ H5.out.1;have L:=HL.out _ H5.out.1
  clear r5 m5 hnew)
 obtain ⟨d5,hd5⟩:∃ d5,d4++[UInt8.ofNat i,UInt8.ofNat n,UInt8.ofNat piece.length]=d5:=⟨_,rfl⟩
 have h11:d5.length=11:=by rw [← hd5,List.length_append,R4.out.2.2.1];rfl
 have R5:=Hj4 H5.out.1 (show RowY w5 W1.heap.size (.slice q5 (d4.length+3) c5) d5 by have h:=H5.out.2;rw [hd5] at h;exact h) h11 hd5
 clear h11 hd5 H5
 go_upto_region 5 with (
  at_builtin
  refine wpList_app_rd _ rfl _ _ rfl rfl R5.out.2.1 rfl (H1.out.2.mod R5.out.1 (by simp)) (by rw [R5.out.2.2.1];omega) (by have:=R5.out.1.size;omega) ?_
  intro q6 c6 w6 r6 m6
  have H6:=Hj2 (mod_new R5.out.1 m6 (fun k hk=>(R5.out.2.1.blk k hk).1)) r6
  clear r6 m6)
 obtain ⟨d6,hd6⟩:∃ d6,d5++piece=d6:=⟨_,rfl⟩
 have h58:d6.length=11+piece.length:=by rw [← hd6,List.length_append,R5.out.2.2.1]
 have R6:=Hj4 H6.out.1 (show RowY w6 W1.heap.size (.slice q6 (d5.length+piece.length) c6) d6 by have h:=H6.out.2;rw [hd6] at h;exact h) h58 hd6
 have hN:d5.length+piece.length=d6.length+0:=by rw [R6.out.2.2.1,R5.out.2.2.1,Nat.add_zero]
 clear h58 hd6 H6 C L
 go_loopw [3] (fun v wr=>RLayRel W1 d6 v wr) (fun v _=>60 - (match v with | .slice _ k _=>k | _=>0))
 case atStart=>exact ⟨0,d5.length+piece.length,q6,c6,rfl,hN,by rw [R5.out.2.2.1];omega,by simpa using R6.out.2.1,R6.out.1⟩
 case round =>
  obtain ⟨k,N,q7,c7,rfl,hNk,hN60,r7,m7⟩:=hrel
  have HNK:=hide hNk
  have hsz:=m7.size
  by_cases hlt:N<60
  · have hL:(d6++List.replicate k (0:UInt8)).length=N:=by simp;omega
    obtain ⟨D,hD⟩:∃ D,d6++List.replicate k (0:UInt8)=D:=⟨_,rfl⟩
    have hD2:d6++List.replicate (k+1) (0:UInt8)=D++[0]:=by rw [← hD,List.replicate_succ',List.append_assoc]
    rw [hD] at r7 hL
    have HD:=hide hD2
    clear hD hD2 hNk hN
    go_wp2_with (at_builtin;refine wpList_app_1 _ rfl _ _ rfl W1.heap.size (.slice q7 N c7) D rfl (r7.mod_alloc _) wr.heap.size 0 rfl (heap_alloc_new wr _) (by omega) (by simp;omega) ?_;intro g cap' w8 r8 m8 hg1 hg2)
    go_roundw
    case rel=>exact ⟨k+1,N+1,_,_,rfl,by have:=HNK.out;omega,by omega,by rw [HD.out];first | exact r8 | (rw [hL] at r8;exact r8),mod_new (m7.alloc _) m8 (fun x hx=>(r7.blk x hx).1)⟩
    case measure=>simp;omega
  · obtain rfl:N=60:=by omega
    have hk:k=49 - piece.length:=by have:=R6.out.2.2.1;omega
    have hbody:d6++List.replicate k 0=bodyS gen seq i n piece:=by
     rw [hk,← R6.out.2.2.2,← R5.out.2.2.2,← R4.out.2.2.2]
     simp [bodyS]
    have hbl:=bodyS_len (gen:=gen) (seq:=seq) (i:=i) (n:=n) hp
    have hpk:packOne gen seq i n piece=bodyS gen seq i n piece++fourB (sumB (bodyS gen seq i n piece)):=rfl
    rw [hbody] at r7
    obtain ⟨D,hD⟩:∃ D,bodyS gen seq i n piece=D:=⟨_,rfl⟩
    rw [hD] at r7 hbl hpk
    obtain ⟨X,hX⟩:∃ X,sumB D=X:=⟨_,rfl⟩
    have hXl:=sumB_lt D
    have hsum:=rsum_any r7.rd
    rw [hX] at hXl hsum hpk
    have H7:=Hj4 m7 r7 hbl hpk
    clear hk hbody hD hX m7 r7 hbl hpk hNk hN
    go_wp2_with (first
     | (go_at_call 166;refine hsum.mono ?_;rintro e wy ⟨rfl,hwy⟩;rw [← hwy];clear hwy hsum)
     | (go_at_call 165;refine (rfour_any _ _ hXl).mono ?_;rintro e w8 ⟨v8,rfl,r8,m8⟩
        obtain ⟨q8,c8,rfl⟩:=r8.rd.len
        have H8:=Hj3 (H7.out.1.then m8) r8 (H7.out.2.1.mod m8 (by simp))
        clear r8 m8)
     | (at_builtin
        refine wpList_app_rd _ rfl _ _ rfl rfl H8.out.2.2 rfl H8.out.2.1.rd (by rw [H7.out.2.2.1];simp [fourB]) (by have:=H8.out.1.size;omega) ?_
        intro q9 c9 w9 r9 m9
        have H9:=Hj2 (mod_new H8.out.1 m9 (fun k hk=>(H8.out.2.2.blk k hk).1)) r9
        clear r9 m9)
     | fail)
    go_ret
    rw [H7.out.2.2.2]
    exact ⟨_,rfl,H9.out.2.base (H1.out.1.size),H1.out.1.then H9.out.1⟩
end Go.Proofs.YtpphoeimakjjdaaGreatDoor
