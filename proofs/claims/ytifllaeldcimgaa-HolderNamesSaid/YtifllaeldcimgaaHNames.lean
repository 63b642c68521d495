/-
  WALK: the law HolderNames.
-/
import Derived.Test.YtifllaeldcimgaaHoldK
namespace Go.Proofs.Ytifllaeldcimgaa
open Go.RowKit

def lnx (i : Int) (sent exp : Int) : Lease := ⟨0, i, { data := #[97] }, 2, [1], 1048576, sent, exp, false⟩
def ln (k : Nat) : List Lease := (List.range k).map fun i : Nat => lnx ((i : Int) + 1) 0 524
theorem ln_add : ∀ k, k < 8 → addS 999 (ln k) 0 0 ⟨0, (k : Int) + 1, { data := #[97] }, 2, [1], 1048576, 0, 0, false⟩ = (ln (k + 1), 0) := by decide +kernel
theorem ln_full : addS 999 (ln 8) 0 0 ⟨0, 9, { data := #[97] }, 2, [1], 1048576, 0, 0, false⟩ = (ln 8, 51) := by decide +kernel
theorem ln_full2 : addS 999 (ln 8) 523 523 ⟨0, 9, { data := #[97] }, 2, [1], 1048576, 0, 0, false⟩ = (ln 8, 51) := by decide +kernel
theorem ln_new : addS 999 (ln 8) 524 524 ⟨0, 9, { data := #[97] }, 2, [1], 1048576, 0, 0, false⟩ = ([lnx 9 524 1048], 0) := by decide +kernel
/-- the box that the leases are made in -/
structure LBox (w : World) (ph pm lb : Nat) (q : Option Addr) (c : Nat) (i : Int) : Prop where
  blk : w.heap[lb]? = some (objL 0 i { data := #[97] } 2 (.slice q 1 c) 1048576 0 0 false)
  rd : RdN w (.slice q [(1 : Int)].length c) [1]
  off : pm ∉ ob (.slice q 1 c) ∧ lb ∉ ob (.slice q 1 c) ∧ lb ≠ pm ∧ lb ≠ ph
theorem LBox.mod {w w' : World} {ph pm lb : Nat} {q : Option Addr} {c : Nat} {i : Int} (h : LBox w ph pm lb q c i) (m : Mod [pm] w w') : LBox w' ph pm lb q c i :=
  ⟨m.at_ h.blk (by simp; exact h.off.2.2.1), h.rd.mod m (fun k hk e => by simp at e; exact h.off.1 (e ▸ hk)), h.off⟩
theorem LBox.set {w : World} {ph pm lb : Nat} {q : Option Addr} {c : Nat} {i : Int} (h : LBox w ph pm lb q c i) (j : Int) : LBox (w.setCell ⟨lb, 1, none⟩ (.int .i64 j)) ph pm lb q c j :=
  ⟨blk_set h.blk 1 (.int .i64 j), h.rd.mod ((Mod.refl [lb] w).setCell (fun _ => by simp) _) (fun k hk e => by simp at e; exact h.off.2.1 (e ▸ hk)), h.off⟩
theorem HS.set {W w : World} {ph pm : Nat} {fs : List Nat} {rho : Int} {l : List Lease} (s : HS W w ph pm fs rho l) {lb : Nat} (hW : W.heap.size ≤ lb) (h1 : lb ≠ ph) (h2 : lb ≠ pm) (h3 : lb ∉ fs) (o : Nat) (v : Value) : HS W (w.setCell ⟨lb, o, none⟩ v) ph pm fs rho l :=
  ⟨s.hd.mod ((Mod.refl [lb] w).setCell (fun _ => by simp) v) (by simp; exact h1.symm) (by simp; exact h2.symm) (fun k hk e => by simp at e; exact h3 (e ▸ hk)), s.mod.setCell (p := ⟨lb, o, none⟩) (fun e => absurd e (by simp; omega)) v, s.nph, s.npm⟩
def NamesRel (W : World) (ph pm lb : Nat) (q : Option Addr) (c : Nat) (s8 : Value) (wr : World) : Prop :=
  ∃ (k : Nat) (fs : List Nat) (i : Int), k ≤ 8 ∧ s8 = .int .i64 ((k : Int) + 1) ∧ HS W wr ph pm fs 999 (ln k) ∧ LBox wr ph pm lb q c i ∧ lb ∉ fs
set_option maxHeartbeats 4000000 in
set_option maxRecDepth 100000 in
theorem names_any (W : World) : Calls Try.prog 3 #[] W fun e w' => e = .returned (.bool true) ∧ Mod [] W w' := by
  go_enter Try.func3, Try.ntmps3
  go_wp2_with fail
  refine (hnew_ok 999 (by omega) W).mono ?_
  rintro e w1 ⟨rfl, hd1, hg1⟩
  have s1 : HS W w1 (W.heap.size + 1) W.heap.size [] 999 [] := ⟨hd1, hg1.mod [], by omega, by omega⟩
  clear hd1 hg1
  generalize hP : W.heap.size + 1 = ph at s1 ⊢
  generalize hQ : W.heap.size = pm at s1
  have HPQ := hide (And.intro hP hQ)
  clear hP hQ
  go_wp2_with fail
  refine (hnew_bad 1000 (by omega) _).mono ?_
  rintro e w2 ⟨rfl, rfl⟩
  go_wp2_with fail
  refine (hnew_bad (-1) (by omega) _).mono ?_
  rintro e w2' ⟨rfl, rfl⟩
  go_wp2_with fail
  refine (awake_any _).mono ?_
  rintro e w3 ⟨rfl, hm3⟩
  have s3 := s1.same hm3
  clear s1 hm3
  go_wp2_with fail
  refine (one_any _).mono ?_
  rintro e w4 ⟨q, c, rfl, hv, hob, hm⟩
  have s4 := (s3.same hm).gr ((Gr.refl w4).alloc (objL 0 1 { data := #[97] } 2 (.slice q 1 c) 1048576 0 0 false))
  have hlt := s3.hd.lt
  have hms := hm.size
  have hWm := s3.mod.size
  have B4 : LBox (w4.alloc (objL 0 1 { data := #[97] } 2 (.slice q 1 c) 1048576 0 0 false)) ph pm w4.heap.size q c 1 := ⟨heap_alloc_new w4 _, hv.gr ((Gr.refl w4).alloc _), fun x => by have := hob _ x; omega, fun x => by have := hob _ x; omega, by omega, by omega⟩
  simp only [aggL, cellsL, oneL, List.length_cons, List.length_nil]
  have hlbW : W.heap.size ≤ w4.heap.size := by omega
  clear s3 hm hv hob hlt hms hWm
  go_wp2_with fail
  go_loopw [8] (fun s8 wr => NamesRel W ph pm w4.heap.size q c s8 wr) (fun s8 _ => 9 - (intOf s8).toNat)
  case atStart => exact ⟨0, [], 1, by omega, rfl, s4, B4, by simp⟩
  case round =>
    clear s4 B4
    obtain ⟨k, fs, i, hk, rfl, S, B, hfs⟩ := hrel
    by_cases hlt : k < 8
    · have h8 : (k : Int) + 1 ≤ 8 := by omega
      have hF := blk_free B.blk
      have hC := blk_cell B.blk
      have hBl := lt_of_block B.blk
      have B2 := B.set ((k : Int) + 1)
      have S2 := S.set hlbW B.off.2.2.2 B.off.2.2.1 hfs 1 (.int .i64 ((k : Int) + 1))
      have hC2 := blk_cell B2.blk
      have hadd := add_eq S2.hd 0 ((k : Int) + 1) 2 1048576 0 0 { data := #[97] } [1] false q c 0 0 (by decide) B2.rd B2.off.1 (ln_add k hlt)
      have HA := hide (And.intro S2 (And.intro B2 (And.intro hfs hBl)))
      clear S B S2 B2 hfs
      go_wp2_with fail
      refine hadd.mono ?_
      rintro e w6 ⟨rfl, fs', hd', ht'⟩
      obtain ⟨S2, B2, hfs, hBl⟩ := HA.out
      have S3 := S2.to hd' ht'
      have B3 := B2.mod ht'.mod
      have hfs' : w4.heap.size ∉ fs' := fun e => by
        rcases ht'.own _ e with x | x
        · exact hfs x
        · simp at x; omega
      clear hadd HA S2 B2 hd' ht' hC hF hC2
      go_wp2_with fail
      go_roundw
      case rel => exact ⟨_, _, _, _, _, _, _, _, _, _, _, _, ⟨k + 1, fs', (k : Int) + 1, by omega, by go_num, S3, B3, hfs'⟩, rfl⟩
      case measure => simp [intOf]; omega
    · obtain rfl : k = 8 := by omega
      have hF := blk_free B.blk
      have hC := blk_cell B.blk
      have hBl := lt_of_block B.blk
      have B2 := B.set 9
      have S2 := S.set hlbW B.off.2.2.2 B.off.2.2.1 hfs 1 (.int .i64 9)
      have hC2 := blk_cell B2.blk
      have hadd := add_eq S2.hd 0 9 2 1048576 0 0 { data := #[97] } [1] false q c 0 0 (by decide) B2.rd B2.off.1 ln_full
      have HA := hide (And.intro S2 (And.intro B2 (And.intro hfs hBl)))
      clear S B S2 B2 hfs
      go_wp2_with fail
      refine hadd.mono ?_
      rintro e w6 ⟨rfl, fs', hd', ht'⟩
      obtain ⟨S2, B2, hfs, hBl⟩ := HA.out
      have S3 := S2.to hd' ht'
      have B3 := B2.mod ht'.mod
      have hC3 := blk_cell B3.blk
      have hadd3 := add_eq S3.hd 0 9 2 1048576 0 0 { data := #[97] } [1] false q c 523 523 (by decide) B3.rd B3.off.1 ln_full2
      have HA3 := hide (And.intro S3 B3)
      clear hadd HA S2 B2 hd' ht' hC hF hC2 S3 B3
      go_wp2_with fail
      refine hadd3.mono ?_
      rintro e w7 ⟨rfl, fs7, hd7, ht7⟩
      obtain ⟨S3, B3⟩ := HA3.out
      have S4 := S3.to hd7 ht7
      have B4 := B3.mod ht7.mod
      have hC4 := blk_cell B4.blk
      have hadd4 := add_eq S4.hd 0 9 2 1048576 0 0 { data := #[97] } [1] false q c 524 524 (by decide) B4.rd B4.off.1 ln_new
      have HA4 := hide S4
      clear hadd3 HA3 S3 B3 hd7 ht7 hC3 S4 B4
      go_wp2_with fail
      refine hadd4.mono ?_
      rintro e w8 ⟨rfl, fs8, hd8, ht8⟩
      have S5 := HA4.out.to hd8 ht8
      clear hadd4 HA4 hd8 ht8 hC4
      go_wp2_with fail
      refine (hlist_any S5.hd).mono ?_
      rintro e w9 ⟨v9, sl9, f9, rfl, hr9, hs9, _, _, hm9⟩
      have S6 := S5.same hm9
      have hl9 : sl9.length = 1 := by have := congrArg List.length hs9; rw [List.length_map] at this; exact this
      obtain ⟨p9, c9, hv9⟩ : ∃ p c, v9 = .slice p 1 c := by
        rcases hr9.2 with ⟨_, hn⟩ | ⟨g, cap, cur, rfl, _⟩
        · omega
        · exact ⟨_, cap, by rw [hl9]⟩
      subst hv9
      clear S5 hm9 hr9 hs9 hl9
      go_wp2_with fail
      go_ret
      exact ⟨rfl, S6.mod⟩
end Go.Proofs.Ytifllaeldcimgaa
