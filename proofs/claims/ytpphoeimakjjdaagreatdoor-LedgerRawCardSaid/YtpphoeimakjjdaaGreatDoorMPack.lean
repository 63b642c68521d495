/-
  WALKS: layer 10: Pack.
-/
import Derived.Test.YtpphoeimakjjdaaGreatDoorMChunk
import Derived.Test.YtpphoeimakjjdaaGreatDoorMRds
import Derived.Test.YtpphoeimakjjdaaGreatDoorMOctS
import Derived.Test.YtpphoeimakjjdaaGreatDoorMDecB
import Derived.Test.YtpphoeimakjjdaaGreatDoorMStepC
import Derived.Deep.RegionWith
import Derived.Deep.DeepCutAuto
import Derived.Deep.DrawnRows
import Derived.StillTailTactics
namespace Go.Proofs.YtpphoeimakjjdaaGreatDoor
set_option maxRecDepth 100000
set_option maxHeartbeats 4000000
open Go.RowKit Go.Shelf

def PcM (w:World) (base:Nat) (P:Value) (data:B8):Prop :=
 ∃ (b c:Nat) (pv:Nat→Value),P=.slice (some ⟨b,0,none⟩) (widthN data.length) c∧base≤b∧b<w.heap.size∧(∀ i,i<widthN data.length→w.cell? ⟨b,i,none⟩=some (pv i)∧RdY w (pv i) (pieceS data i)∧∀ k,k∈ob (pv i)→k<base)
theorem modB {wr wz wx:World} {G:Nat} (h:Mod [] wr wz) (hG:wr.heap.size=G) (hb:Below G wz wx):Mod [] wr wx :=
 ⟨hb.os.trans h.os,hb.tape.trans h.tape,hb.output.trans h.output,Nat.le_trans h.size hb.size,fun k hk _=>(hb.block k (by omega)).trans (h.block k hk (by simp))⟩
def PackRel (wb:World) (base:Nat) (gen seq:Nat) (data:B8) (u i:Value) (wr:World):Prop :=
 ∃ (k:Nat) (vs:List Value),k≤widthN data.length∧i=.int .i64 (k:Int)∧RowsY wr base u vs ((packL gen seq data).take k)∧Mod [] wb wr
theorem pc_of_row {w w2:World} {base b c:Nat} {q:Option Addr} {data:B8} {cc:Nat} (hu:RdY w (.slice q data.length c) data) (hm:Mod [] w w2) (hne:0<chN data.length) (hb:base≤b) (hbk:∀ k,k∈ob (.slice q data.length c)→k<base)
 (hr:w2.ownsRow base 71 1 (.slice (some ⟨b,0,none⟩) (chN data.length) cc) (chN data.length) ((List.range (chN data.length)).map (chV q data.length))):PcM w2 base (.slice (some ⟨b,0,none⟩) (chN data.length) cc) data:=by
 have hw:widthN data.length=chN data.length:=by unfold widthN chN at *;omega
 refine ⟨b,cc,chV q data.length,by rw [hw],hb,(World.ownsRow.lt hr b rfl).2,fun i hi=>?_⟩
 rw [hw] at hi
 refine ⟨?_,?_,fun k hk=>hbk k (ob_cut _ _ _ _ _ _ k hk)⟩
 · rw [hr.cellAt i (by omega)]
   simp [hi]
 · have hi2:47 * i+min 47 (data.length - 47 * i)≤data.length:=by unfold chN at hi;omega
   have h1:=(hu.mod hm (by simp)).part (47 * i) (min 47 (data.length - 47 * i)) hi2
   have e:(data.drop (47 * i)).take (min 47 (data.length - 47 * i))=pieceS data i:=by
    unfold pieceS
    have:(data.drop (47 * i)).length=data.length - 47 * i:=by simp
    rw [← this]
    rcases Nat.le_total 47 (data.drop (47 * i)).length with h | h
    · rw [Nat.min_eq_left h]
    · rw [Nat.min_eq_right h,List.take_length,List.take_of_length_le h]
   rw [e] at h1
   exact h1
theorem pc_nil {w:World} {base:Nat} (h:base≤w.heap.size):PcM (w.alloc (.cells #[.slice none 0 0] 71)) base (.slice (some ⟨w.heap.size,0,none⟩) 1 1) []:=by
 refine ⟨w.heap.size,1,fun _=>.slice none 0 0,rfl,h,by simp,fun i hi=>?_⟩
 have hi0:i=0:=by simp [widthN] at hi;omega
 subst hi0
 refine ⟨by simp,RdY.nil _ _ _,fun k hk=>by simp [ob,Value.ownBlock] at hk⟩
theorem pack_any {w:World} {u:Value} {data:B8} (hu:RdY w u data) (gen seq:Nat) (hg:1≤gen∧gen≤1073741824) (hs:seq≤1073741824) (hd:data.length≤188) (hbk:∀ k,k∈ob u→k<w.heap.size) :
 Calls Tryz.prog 74 #[.int .i64 (gen:Int),.int .i64 (seq:Int),u] w fun e w'=>∃ v vs,e=.returned (.tuple #[v,.int .i64 0])∧RowsY w' w.heap.size v vs (packL gen seq data)∧Mod [] w w':=by
 have hN:widthN data.length≤4:=by unfold widthN;omega
 have hN1:1≤widthN data.length:=by unfold widthN;omega
 obtain ⟨q,c,rfl⟩:=hu.len
 have hcap:=hu.cap
 go_enter Tryz.func74,Tryz.ntmps74
 go_wp2_with (go_at_call 106;refine (chunk_any _ _ _ _).mono ?_;rintro e w' ⟨rfl,rfl⟩)
 have g1:Gr w ((w.alloc (.cells #[.slice q data.length c] 71)).alloc (.cells #[.int .i64 47] 3)):=((Gr.refl w).alloc _).alloc _
 have cb1:((w.alloc (.cells #[.slice q data.length c] 71)).alloc (.cells #[.int .i64 47] 3)).cell? ⟨w.heap.size,0,none⟩=some (.slice q data.length c):=by simp
 have cb2:((w.alloc (.cells #[.slice q data.length c] 71)).alloc (.cells #[.int .i64 47] 3)).cell? ⟨w.heap.size+1,0,none⟩=some (.int .i64 47):=by simp
 have hz:((w.alloc (.cells #[.slice q data.length c] 71)).alloc (.cells #[.int .i64 47] 3)).heap.size=w.heap.size+2:=by simp
 generalize ((w.alloc (.cells #[.slice q data.length c] 71)).alloc (.cells #[.int .i64 47] 3))=w1 at *
 have hshape:∀ {w2:World} {v:Value},w2.ownsRow w1.heap.size 71 1 v (chN data.length) ((List.range (chN data.length)).map (chV q data.length))→∃ p cc,v=.slice p (chN data.length) cc∧(0<chN data.length→∃ b,p=some ⟨b,0,none⟩∧w1.heap.size≤b):=by
  intro w2 v hr
  rcases hr.2 with ⟨rfl,hn⟩ | ⟨g,cap,cur,rfl,h1,h2,h3,_⟩
  · exact ⟨none,0,by rw [hn],fun h=>by omega⟩
  · exact ⟨_,cap,rfl,fun _=>⟨g,rfl,h1⟩⟩
 have hgw:=g1.mod []
 go_upto_if 37 with (go_at_call 105;refine (collChunk_any hcap (by omega) cb1 cb2).mono ?_;rintro e w2 ⟨v,rfl,hr,hm⟩;obtain ⟨p2,c2,rfl,hp2⟩:=hshape hr)
 go_cut [0,8] (fun s0 s8 wx=>s0=.int .i64 (gen:Int)∧PcM wx w.heap.size s8 data∧Mod [] w wx)
 case first =>
  by_cases h0:chN data.length=0
  · have hnil:data=[]:=List.length_eq_zero_iff.1 (by unfold chN at h0;omega)
    have hm2:=hgw.then hm
    have HS:=Hj2 hnil hm2
    have b0:(((chN data.length:Nat):Int)==0)=true:=by simp;exact h0
    clear hnil hm2 h0
    go_wp2_with fail
    go_meet
    case rel =>
     obtain ⟨rfl,hm2⟩:=HS.out
     exact ⟨rfl,pc_nil hm2.size,hm2.alloc _⟩
  · have b0:(((chN data.length:Nat):Int)==0)=false:=by simp;omega
    obtain ⟨b,rfl,hb⟩:=hp2 (by omega)
    go_wp2_with fail
    go_meet
    case rel=>exact ⟨rfl,pc_of_row hu (hgw.then hm) (by omega) (by omega) hbk (World.ownsRow.mono hr (by omega)),hgw.then hm⟩
 case rest =>
  obtain ⟨rfl,hP,hmc⟩:=hcut
  obtain ⟨wp,rfl⟩:∃ wp:World,wp=wc:=⟨_,rfl⟩
  obtain ⟨b,cc,pv,rfl,hb1,hb2,hpv⟩:=hP
  clear hr hm hp2 hshape cb1 cb2 hgw g1 hz hu hcap
  have HB:=hide hbk
  clear hbk
  have hNs:widthN data.length≤9223372036854775807:=by omega
  go_wp2_with fail
  go_loopw [9,41] (fun u i wr=>PackRel wp wp.heap.size gen seq data u i wr) (fun _ i _=>widthN data.length - (intOf i).toNat)
  case atStart=>exact ⟨0,[],Nat.zero_le _,rfl,RowsY.nil _ _,Mod.refl _ _⟩
  case round =>
   obtain ⟨k,vs,hk,rfl,hrow,hm⟩:=hrel
   by_cases hlt:k<widthN data.length
   · have hmw:=hm
     obtain ⟨c1,r1,o1⟩:=hpv k hlt
     obtain ⟨pp,pc,hpk⟩:=r1.len
     rw [hpk] at c1 r1 o1
     have hpl:(pieceS data k).length≤47:=by rw [pieceS_len];omega
     have hnx:(packL gen seq data).take (k+1)=(packL gen seq data).take k++[packOne gen seq k (widthN data.length) (pieceS data k)]:=by
      rw [List.take_add_one,packL_at hlt];rfl
     have hkl:((packL gen seq data).take k).length=k:=by rw [List.length_take,packL_len];omega
     have hk4:k≤4:=by omega
     generalize pieceS data k=piece at *
     generalize (packL gen seq data).take k=L at *
     have c1':=hm.kept c1 (by simp)
     have r1':=r1.mod hm (by simp)
     have HPV:=Hj5 hpv hpk hnx c1 r1
     clear hpv hpk hnx c1 r1
     have hmk:(Instr.makeSlice 71 (.int .i64 64) (.int .i64 64)).run Tryz.prog wr=.ok (.slice (some ⟨wr.heap.size,0,none⟩) 64 64) (wr.alloc (zObj 64)):=make_y wr 64 (by decide)
     have hYz:=zObj_blk wr 64
     have hB0:Below wr.heap.size (wr.alloc (zObj 64)) (wr.alloc (zObj 64)):=Below.refl _ _
     have hmz:Mod [] wr (wr.alloc (zObj 64)):=(Mod.refl [] wr).alloc _
     generalize hwz:wr.alloc (zObj 64)=wz at hmk hYz hB0 hmz
     generalize hG:wr.heap.size=G at hmk hYz hB0
     generalize hZ:List.replicate 64 (0:UInt8)=Z at hYz
     have hZl:Z.length=64:=by rw [← hZ];simp
     have HN:=Hj4 hG hZ hZl hmz
     have HY:=hide hYz
     clear hwz hG hZ hZl hmz hYz
     go_upto_region 14 with (first
      | (go_at_call 107;refine (four_any _ gen (by omega)).mono ?_;rintro e wf ⟨fg,rfl,hfr,hfm⟩)
      | (refine wpList_copy_yb _ rfl _ _ rfl G 0 64 64 rfl Z (HY.out.mod hfm (by simp)) _ _ rfl hfr.rd (show 4≤64 by decide) (by rw [HN.out.2.2.1];exact (show 0+4≤64 by decide)) G wz (hfm.below (by have:=HY.out.lt;omega) (by simp)) (Nat.le_refl _) ?_;intro w5 hy5 hb5))
     clear hfr hfm
     go_frame
     go_cut [12] (fun s12 wx=>s12=.slice (some ⟨G,0,none⟩) 64 64∧YBlk wx G (spl (spl Z 0 (fourB gen)) 4 (fourB seq))∧Below G wz wx)
     case first =>
      have hws:IntKind.u32.wrap (seq:Int)=(seq:Int):=by rw [IntKind.wrap_u32'];omega
      have hsl:(spl Z 0 (fourB gen)).length=64:=by
       have h0:=HN.out.2.2.1
       have h1:=fourB_len gen
       simp only [spl,List.length_append,List.length_take,List.length_drop];omega
      have hy5':Hid (YBlk w5 G (spl Z 0 (fourB gen))):=hy5
      have HSL:=hide hsl
      clear hy5 hsl
      go_region_law (first
       | (refine step_call rfl 107 #[.tmp 55] #[154] rfl (enters_of Tryz.func107 (by kernel_rfl) rfl) #[.int .u32 (seq:Int)] (by simp [Act.eval,Act.put]) ?_;refine (four_any _ seq (by omega)).mono ?_;rintro e wf ⟨fg,rfl,hfr,hfm⟩;refine ⟨_,rfl,?_⟩)
       | (refine step_copy_yb rfl (.tmp 53) (.tmp 56) rfl G 4 60 60 (by simp [Act.eval]) (spl Z 0 (fourB gen)) ((hy5'.out.mod ((Mod.refl [] w5).drew) (by simp)).mod hfm (by simp)) _ (fourB seq) (by simp [Act.eval]) hfr.rd (show 4≤60 by decide) (by rw [HSL.out];exact (show 4+4≤64 by decide)) G wz (hb5.trans ((((Mod.refl [] w5).drew).then hfm).below (by have:=hy5'.out.lt;omega) (by simp))) (Nat.le_refl _) ?_;intro w6 hy6 hb6)
       | fail)
      all_goals
       go_wp2_with fail
       go_meet
       case rel=>exact ⟨rfl,hy6.out,hb6⟩
     case rest =>
     obtain ⟨rfl,hyc,hbc⟩:=hcut
     have hAl:(spl (spl Z 0 (fourB gen)) 4 (fourB seq)).length=64:=by rw [← HN.out.2.1];rfl
     have hA:(((spl (spl Z 0 (fourB gen)) 4 (fourB seq)).set 8 (UInt8.ofNat k)).set 9 (UInt8.ofNat (widthN data.length))).set 10 (UInt8.ofNat piece.length)=pk3 gen seq k (widthN data.length) piece.length:=by rw [← HN.out.2.1];rfl
     generalize spl (spl Z 0 (fourB gen)) 4 (fourB seq)=A at hyc hAl hA
     have hat:∀ j,j<64→∃ v,wc.cell? ⟨G,j,none⟩=some v:=fun j hj=>⟨y8 (A.getD j 0),by rw [blk_cell hyc];simp [show j<A.length by omega]⟩
     obtain ⟨v8,c8⟩:=hat 8 (by decide)
     obtain ⟨v9,c9⟩:=hat 9 (by decide)
     obtain ⟨v10,c10⟩:=hat 10 (by decide)
     have f8:=blk_free hyc 8
     have f9:=blk_free hyc 9
     have f10:=blk_free hyc 10
     have hy8:=((hyc.set 8 (UInt8.ofNat k)).set 9 (UInt8.ofNat (widthN data.length))).set 10 (UInt8.ofNat piece.length)
     rw [hA,ofNat_toNat (by omega),ofNat_toNat (by omega),ofNat_toNat (by omega)] at hy8
     have hb8:Below G wz (((wc.setCell ⟨G,8,none⟩ (.int .u8 (k:Int))).setCell ⟨G,9,none⟩ (.int .u8 (widthN data.length:Int))).setCell ⟨G,10,none⟩ (.int .u8 (piece.length:Int))):=((hbc.setCell (Nat.le_refl _) _).setCell (Nat.le_refl _) _).setCell (Nat.le_refl _) _
     have r8:=r1'.mod (modB HN.out.2.2.2 HN.out.1 hb8) (by simp)
     have HY8:=hide hy8
     have hpk:=pack_steps gen seq k (widthN data.length) hpl
     have HPK:=hide hpk
     clear hy8 hpk hAl hA hat hy5 hb5 hyc hbc
     go_upto_region 16 with fail
     have t16:Hid True:=hide trivial
     go_upto_region 17 with (have tk:=t16;refine wpList_copy_yb _ rfl _ _ rfl G 11 53 53 rfl _ HY8.out _ piece rfl r8 (by omega) (by rw [pk3_eq];simp only [List.length_append,List.length_cons,List.length_replicate,fourB_len];omega) G wz hb8 (Nat.le_refl _) ?_;intro w5 hy5 hb5;clear t16 tk)
     have hm5:Mod [] wr w5:=modB HN.out.2.2.2 HN.out.1 hb5
     obtain ⟨hp1,hp2,hp3⟩:=HPK.out
     have hy5':YBlk w5 G (spl (pk3 gen seq k (widthN data.length) piece.length) 11 piece):=hy5.out
     clear hy5 r8 hb8 c8 c9 c10 f8 f9 f10 HY8
     generalize spl (pk3 gen seq k (widthN data.length) piece.length) 11 piece=B4 at hp1 hp2 hp3 hy5'
     have hrs:=hy5'.rd 0 60 64 (by omega) (by decide) (by decide) (by unfold maxLen;omega)
     rw [List.drop_zero,hp1] at hrs
     have hsum:=sumB_lt (bodyS gen seq k (widthN data.length) piece)
     have HP:=Hj4 hp1 hp2 hp3 hy5'
     clear hp1 hp2 hp3 hy5'
     go_frame
     go_cut [12] (fun s12 wx=>s12=.slice (some ⟨G,0,none⟩) 64 64∧YBlk wx G (packOne gen seq k (widthN data.length) piece)∧Below G wz wx)
     case first =>
      have t1:Hid True:=hide trivial
      have t2:Hid True:=hide trivial
      have t3:Hid True:=hide trivial
      go_region_law (first
       | (have tk:=t1;refine step_call rfl 103 #[.tmp 79] #[71] rfl (enters_of Tryz.func103 (by kernel_rfl) rfl) #[.slice (some ⟨G,0,none⟩) 60 64] (by simp [Act.eval,Act.put]) ?_;refine (sum_any (hrs.gr (Gr.refl w5).drew)).mono ?_;rintro e w6 ⟨rfl,rfl⟩;refine ⟨_,rfl,?_⟩;clear t1 tk)
       | (have tk:=t2;refine step_call rfl 107 #[.tmp 80] #[154] rfl (enters_of Tryz.func107 (by kernel_rfl) rfl) #[.int .u32 (sumB (bodyS gen seq k (widthN data.length) piece):Int)] (by simp [Act.eval]) ?_;refine (four_any _ _ hsum).mono ?_;rintro e wf ⟨fg,rfl,hfr,hfm⟩;refine ⟨_,rfl,?_⟩;clear t2 tk)
       | (have tk:=t3;refine step_copy_yb rfl (.tmp 77) (.tmp 81) rfl G 60 4 4 (by simp [Act.eval]) B4 ((HP.out.2.2.2.mod ((Mod.refl [] w5).drew) (by simp)).mod hfm (by simp)) _ (fourB (sumB (bodyS gen seq k (widthN data.length) piece))) (by simp [Act.eval]) hfr.rd (show 4≤4 by decide) (by rw [HP.out.2.1];exact (show 60+4≤64 by decide)) G wz (hb5.trans ((((Mod.refl [] w5).drew).then hfm).below (by have:=HP.out.2.2.2.lt;omega) (by simp))) (Nat.le_refl _) ?_;intro w6 hy6 hb6;clear t3 tk)
       | fail)
      all_goals
       go_wp2_with fail
       go_meet
       case rel=>exact ⟨rfl,by have h6:YBlk _ G (spl B4 60 (fourB (sumB (bodyS gen seq k (widthN data.length) piece)))):=hy6.out;rw [HP.out.2.2.1] at h6;exact h6,hb6⟩
     case rest =>
     obtain ⟨rfl,hyc,hbc⟩:=hcut
     have hmr:Mod [] wr wc:=modB HN.out.2.2.2 HN.out.1 hbc
     have hsz:wp.heap.size≤wr.heap.size:=hm.size
     have hsz2:wr.heap.size≤wc.heap.size:=hmr.size
     have hrow2:=hrow.mod hmr (by simp)
     have hGw:wp.heap.size≤G:=by rw [← HN.out.1];exact hsz
     have hsr:=hyc.row hGw (by rw [packOne_len hpl];decide)
     rw [packOne_len hpl] at hsr
     have hap:∀ x,x∈ob (.slice (some ⟨G,0,none⟩) 64 64)→x ∉ ob u9:=fun x hx e=>by
      have h1:=(hrow.blk x e).2
      rw [HN.out.1] at h1
      have:x=G:=by simpa [ob,Value.ownBlock] using hx
      omega
     have hLl:L.length≤4:=by rw [hkl];exact hk4
     have HRW:=Hj5 hrow2 hsr hap hrow hkl
     obtain ⟨pu,cu,hu9,hmx⟩:=hrow2.shape
     subst hu9
     clear hrow2 hsr hap hrow hkl hm5 hrs hsum HP hyc hb5
     go_upto_region 18 with fail
     have t18:Hid True:=hide trivial
     go_wp2_with (at_builtin;have tk:=t18;refine wpList_app_ys _ rfl _ _ rfl wp.heap.size (.slice pu L.length cu) vs L rfl (HRW.out.1.mod ((Mod.refl [] wc).alloc _) (by simp)) wc.heap.size (.slice (some ⟨G,0,none⟩) 64 64) (packOne gen seq k (widthN data.length) piece) rfl (heap_alloc_new wc _) rfl (HRW.out.2.1.gr ((Gr.refl wc).alloc _)) HRW.out.2.2.1 (by omega) (by simp;omega) ?_;intro g cap' w7 hrow7 hm7 hg7 hg8;clear t18 tk)
     go_roundw
     case rel =>
      refine ⟨k+1,vs++[.slice (some ⟨G,0,none⟩) 64 64],by omega,by go_num,?_,?_⟩
      · have hkl:L.length=k:=HRW.out.2.2.2.2
        have hnx:=HPV.out.2.2.1
        have e:=hrow7
        rw [← hnx] at e
        exact e
      · refine ((hm.then hmr).alloc _).trans (U:=[]) hm7 (fun _ x _=>x) (fun x hx hlt2=>?_)
        have:=(HRW.out.1.blk x hx).1
        omega
     case measure=>simp [intOf];omega
   · obtain rfl:k=widthN data.length:=by omega
     have hfin:(packL gen seq data).take (widthN data.length)=packL gen seq data:=List.take_of_length_le (by rw [packL_len];exact Nat.le_refl _)
     rw [hfin] at hrow
     have hsz:w.heap.size≤wp.heap.size:=hmc.size
     clear hpv
     go_wp2_with fail
     go_ret2
     exact ⟨_,_,rfl,hrow.base hsz,hmc.then hm⟩
end Go.Proofs.YtpphoeimakjjdaaGreatDoor
