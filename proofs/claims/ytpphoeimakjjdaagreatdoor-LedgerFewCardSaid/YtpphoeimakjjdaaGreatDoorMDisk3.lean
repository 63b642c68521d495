/-
  WALKS: layer 9: a disk's image; a disk of an image.
-/
import Derived.Test.YtpphoeimakjjdaaGreatDoorMDisk2
namespace Go.Proofs.YtpphoeimakjjdaaGreatDoor
open Go.RowKit

/-- the image so far -/
def ImgRel (w : World) (l : List B8) (u i : Value) (wr : World) : Prop :=
  ∃ (k : Nat) (vs : List Value), i = .int .i64 (k : Int) ∧ k ≤ l.length ∧ RdsY wr w.heap.size u vs (l.take k) ∧ Mod [] w wr
theorem el_new {w w' : World} {s : B8} (h : s.length = 64) (m : Mod [] (w.alloc (.cells (s.map y8).toArray 114 (0, 0))) w') : ElY w' w.heap.size (.slice (some ⟨w.heap.size, 0, none⟩) 64 64) s := by
  have hb := heap_alloc_new w (.cells (s.map y8).toArray 114 (0, 0))
  have hb2 := m.at_ hb (by simp)
  refine ⟨⟨by rw [h]; decide, .inr ⟨w.heap.size, 0, 64, by rw [h], ⟨by omega, by decide⟩, lt_of_block hb2, fun i hi => ?_⟩⟩, fun k hk => ?_⟩
  · rw [Nat.zero_add, blk_cell hb2]
    have := map_y8_get s hi
    simpa using this
  · simp [ob, Value.ownBlock] at hk
    subst hk
    exact ⟨Nat.le_refl _, lt_of_block hb2⟩
set_option maxHeartbeats 4000000 in
set_option maxRecDepth 100000 in
theorem image_any {w : World} {pd bs : Nat} {d : Dk} (h : DkM w pd bs d) :
    Calls Tryz.prog 36 #[.pointer (some ⟨pd, 0, none⟩)] w fun e w' => ∃ v vs, e = .returned v ∧ RdsY w' w.heap.size v vs d.secs ∧ Mod [] w w' := by
  have hle := dlen_any h
  have hmost := h.ok.most
  have HH := hide h
  clear h
  go_enter Tryz.func36, Tryz.ntmps36
  go_wp2_with (go_at_call 41; refine hle.mono ?_; rintro e w1 ⟨rfl, rfl⟩)
  go_loopw [3, 8] (fun u i wr => ImgRel w1 d.secs u i wr) (fun _ i _ => d.secs.length - (intOf i).toNat)
  case atStart => exact ⟨0, [], rfl, Nat.zero_le _, RdsY.nil _ _, Mod.refl _ _⟩
  case round =>
    obtain ⟨k, vs, rfl, hk, hrow, hm⟩ := hrel
    obtain ⟨qu, cu, rfl, hmx⟩ := hrow.shape
    have hlk : (d.secs.take k).length = k := by simp; omega
    by_cases hlt : k < d.secs.length
    · have h := HH.out.gr (Gr.refl _) |>.mod hm (by simp) (by simp)
      obtain ⟨c, hb, hr⟩ := h.blk
      obtain ⟨c0, -, -, -, -, -⟩ := cellsL_dk hb
      have hrg := h.range hlt
      have hl64 := h.ok.all k hlt
      have htk : d.secs.take (k + 1) = d.secs.take k ++ [d.secs.getD k []] := by
        rw [List.take_add_one]
        simp [hlt]
      have HT := hide htk
      rw [hlk] at hrow
      have HR := hide hrow
      rw [hlk]
      generalize hs : d.secs.getD k [] = s at hrg hl64
      have HS := hide hs
      have hsz : (Tryz.prog.info? 114).map (·.size) = some (s.map y8).length := by rw [List.length_map, hl64]; kernel_rfl
      have hsz2 : (Tryz.prog.info? 114).map (·.size) = some (s.map y8).toArray.size := by rw [List.size_toArray]; exact hsz
      have hs64 : Hid (64 = (s.map y8).toArray.size) := hide (by rw [List.size_toArray, List.length_map, hl64])
      have hall := all_y8 s
      have HN := hide hl64
      obtain ⟨S, hS⟩ : ∃ S, (s.map y8).toArray = S := ⟨_, rfl⟩
      rw [hS] at hsz2 hs64 hall
      have HSS := hide hS
      clear hS hs htk hrow h hb hr hl64
      have hel := el_new HN.out (Mod.refl [] (wr.alloc (.cells (s.map y8).toArray 114 (0, 0))))
      have t1 := hide trivial
      have t2 := hide trivial
      have t3 := hide trivial
      go_wp2_with
        (first
          | (have tk := t1; refine wpList_load_mid rfl 114 _ rfl bs (k * 64) rfl (s.map y8) _ hrg Tryz.underlying114 rfl hsz ?_; rw [HSS.out]; clear t1 tk)
          | (have tk := t2; refine wpList_store_new rfl 114 _ _ rfl _ S rfl rfl hsz2 hs64.out hall ?_; clear t2 tk)
          | (at_builtin; have tk := t3; refine wpList_app_rs _ rfl _ _ rfl w1.heap.size (.slice qu k cu) vs (d.secs.take k) rfl ((HR.out.mod ((Mod.refl [] wr).alloc _) (by simp)).mod ((Mod.refl [] _).alloc _) (by simp)) (wr.heap.size + 1) (.slice (some ⟨wr.heap.size, 0, none⟩) 64 64) s rfl (alloc_here (by simp)) rfl (((by rw [HSS.out] at hel; exact hel : ElY (wr.alloc (.cells S 114 (0, 0))) wr.heap.size (.slice (some ⟨wr.heap.size, 0, none⟩) 64 64) s).base hm.size).gr ((Gr.refl _).alloc _)) (fun x hx e => by have h1 := (HR.out.blk x e).2; simp [ob, Value.ownBlock] at hx; omega) (by rw [hlk]; omega) (by have := hm.size; simp; omega) ?_; intro g cap w7 hrow7 hm7 hg7 hg8; clear t3 tk)
          | fail)
      go_roundw
      case rel =>
        refine ⟨k + 1, vs ++ [.slice (some ⟨wr.heap.size, 0, none⟩) 64 64], by go_num, by omega, ?_, ?_⟩
        · rw [HT.out, HS.out]
          rw [hlk] at hrow7
          exact hrow7
        · exact ((hm.alloc _).alloc _).trans hm7 (fun _ x _ => x) (fun x hx hlt2 => by have := (HR.out.blk x hx).1; omega)
      case measure => simp [intOf]; omega
    · obtain rfl : k = d.secs.length := by omega
      rw [List.take_length] at hrow
      have HR := hide hrow
      clear hrow
      go_wp2_with fail
      go_ret
      rw [List.take_length]
      exact ⟨_, _, rfl, HR.out, hm⟩
end Go.Proofs.YtpphoeimakjjdaaGreatDoor
