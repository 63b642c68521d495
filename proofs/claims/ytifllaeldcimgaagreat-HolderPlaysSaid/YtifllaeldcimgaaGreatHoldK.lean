/-
  WALKS: the laws of layer 17: one, awake.
-/
import Derived.Test.YtifllaeldcimgaaGreatHoldU4
namespace Go.Proofs.YtifllaeldcimgaaGreat
open Go.RowKit

/-- the holder, all of whose memory is new since W -/
structure HS (W w : World) (ph pm : Nat) (fs : List Nat) (rho : Int) (l : List Lease) : Prop where
  hd : Hd w ph pm fs rho l
  mod : Mod [] W w
  nph : W.heap.size ≤ ph
  npm : W.heap.size ≤ pm
section
variable {W w w' : World} {ph pm : Nat} {fs fs' : List Nat} {rho : Int} {l l' : List Lease}
theorem HS.to (s : HS W w ph pm fs rho l) (h : Hd w' ph pm fs' rho l') (t : HdTo w pm fs w' fs') : HS W w' ph pm fs' rho l' :=
  ⟨h, s.mod.trans t.mod (by simp) (fun x hx hlt => by have := s.npm; simp at hx; omega), s.nph, s.npm⟩
theorem HS.same (s : HS W w ph pm fs rho l) (m : Mod [] w w') : HS W w' ph pm fs rho l := ⟨s.hd.same m, s.mod.then m, s.nph, s.npm⟩
theorem HS.gr (s : HS W w ph pm fs rho l) (g : Gr w w') : HS W w' ph pm fs rho l := s.same (g.mod [])
theorem add_eq (h : Hd w ph pm fs rho l) (f i m t s e : Int) (p : ByteArray) (a : List Int) (r : Bool) (q : Option Addr) (c : Nat) (now sent : Int) (hp : p.size ≤ 9223372036854775807) (hv : RdN w (.slice q a.length c) a) (hb : pm ∉ ob (.slice q a.length c))
    {l' : List Lease} {k : Int} (hs : addS rho l now sent ⟨f, i, p, m, a, t, s, e, r⟩ = (l', k)) :
    Calls Tryz.prog 23 #[.pointer (some ⟨ph, 0, none⟩), .int .i64 now, .int .i64 sent, .agg #[.int .i64 f, .int .i64 i, .string p, .int .i64 m, .slice q a.length c, .int .i64 t, .int .i64 s, .int .i64 e, .bool r]] w fun en w' => en = .returned (.int .i64 k) ∧ ∃ fs', Hd w' ph pm fs' rho l' ∧ HdTo w pm fs w' fs' :=
  (hadd_any h f i m t s e p a r q c now sent hp hv hb).mono fun e w' ⟨he, ho⟩ => by rw [hs] at he ho; exact ⟨he, ho⟩
/-- a lease by value, its stamp in new blocks -/
def Fresh (w w' : World) (q : Option Addr) (a : List Int) (c : Nat) : Prop := RdN w' (.slice q a.length c) a ∧ (∀ k, k ∈ ob (.slice q a.length c) → w.heap.size ≤ k ∧ k < w'.heap.size) ∧ Mod [] w w'
theorem use_some (h : Hd w ph pm fs rho l) (now : Int) (path : ByteArray) (md : Int) (hq : path.size ≤ 9223372036854775807) {f i m t s e : Int} {p : ByteArray} {a : List Int} {r : Bool} {k : Int} (hs : useS l now path.data.toList md = (some ⟨f, i, p, m, a, t, s, e, r⟩, k)) :
    Calls Tryz.prog 13 #[.pointer (some ⟨ph, 0, none⟩), .int .i64 now, .string path, .int .i64 md] w fun en w' => ∃ q c, en = .returned (.tuple #[.agg #[.int .i64 f, .int .i64 i, .string p, .int .i64 m, .slice q a.length c, .int .i64 t, .int .i64 s, .int .i64 e, .bool r], .int .i64 k]) ∧ Fresh w w' q a c :=
  (huse_any h now path md hq).mono fun e w' ho => by
    rw [hs] at ho
    obtain ⟨v, fb, rfl, hv, hf, hm⟩ := ho
    obtain ⟨q, c, rfl⟩ : ∃ q c, v = .slice q a.length c := hv.rd.len
    exact ⟨q, c, rfl, hv.rd, fun x hx => hf x (hv.sub x hx), hm⟩
theorem use_none (h : Hd w ph pm fs rho l) (now : Int) (path : ByteArray) (md : Int) (hq : path.size ≤ 9223372036854775807) {k : Int} (hs : useS l now path.data.toList md = (none, k)) :
    Calls Tryz.prog 13 #[.pointer (some ⟨ph, 0, none⟩), .int .i64 now, .string path, .int .i64 md] w fun en w' => ∃ q c, en = .returned (.tuple #[.agg #[.int .i64 0, .int .i64 0, .string ByteArray.empty, .int .i64 0, .slice q 0 c, .int .i64 0, .int .i64 0, .int .i64 0, .bool false], .int .i64 k]) ∧ Fresh w w' q [] c :=
  (huse_any h now path md hq).mono fun e w' ho => by
    rw [hs] at ho
    obtain ⟨v, fb, rfl, hv, hf, hm⟩ := ho
    obtain ⟨q, c, rfl⟩ : ∃ q c, v = .slice q 0 c := hv.rd.len
    exact ⟨q, c, rfl, hv.rd, fun x hx => hf x (hv.sub x hx), hm⟩
theorem renewed_eq (h : Hd w ph pm fs rho l) (now sent f i t : Int) (a : List Int) (q : Option Addr) (c : Nat) (hf : i64w f) (hi : i64w i) (hv : RdN w (.slice q a.length c) a) {l' : List Lease} {b : Bool} (hs : renewedS rho l now sent (f, i) a t = (l', b)) :
    Calls Tryz.prog 8 #[.pointer (some ⟨ph, 0, none⟩), .int .i64 now, .int .i64 sent, .int .i64 f, .int .i64 i, .slice q a.length c, .int .i64 t] w fun e w' => e = .returned (.bool b) ∧ ∃ fs', Hd w' ph pm fs' rho l' ∧ HdTo w pm fs w' fs' :=
  (hrenewed_any h now sent f i t a q c hf hi hv).mono fun e w' ⟨he, ho⟩ => by rw [hs] at he ho; exact ⟨he, ho⟩
theorem get_some (h : Hd w ph pm fs rho l) (kf ki : Int) (hf : i64w kf) (hi : i64w ki) {f i m t s e : Int} {p : ByteArray} {a : List Int} {r : Bool} (hs : getL l (kf, ki) = some ⟨f, i, p, m, a, t, s, e, r⟩) :
    Calls Tryz.prog 18 #[.pointer (some ⟨ph, 0, none⟩), .int .i64 kf, .int .i64 ki] w fun en w' => ∃ q c, en = .returned (.tuple #[.agg #[.int .i64 f, .int .i64 i, .string p, .int .i64 m, .slice q a.length c, .int .i64 t, .int .i64 s, .int .i64 e, .bool r], .bool true]) ∧ Fresh w w' q a c :=
  (hget_any h kf ki hf hi).mono fun e w' ho => by
    rw [hs] at ho
    obtain ⟨v, rfl, hr, hm⟩ := ho
    obtain ⟨q, c, rfl⟩ : ∃ q c, v = .slice q a.length c := (RdN.of_row hr).len
    exact ⟨q, c, rfl, RdN.of_row hr, ob_row hr, hm⟩
theorem get_none (h : Hd w ph pm fs rho l) (kf ki : Int) (hf : i64w kf) (hi : i64w ki) (hs : getL l (kf, ki) = none) :
    Calls Tryz.prog 18 #[.pointer (some ⟨ph, 0, none⟩), .int .i64 kf, .int .i64 ki] w fun en w' => ∃ q c, en = .returned (.tuple #[.agg #[.int .i64 0, .int .i64 0, .string ByteArray.empty, .int .i64 0, .slice q 0 c, .int .i64 0, .int .i64 0, .int .i64 0, .bool false], .bool false]) ∧ Fresh w w' q [] c :=
  (hget_any h kf ki hf hi).mono fun e w' ho => by
    rw [hs] at ho
    obtain ⟨v, rfl, hr, hm⟩ := ho
    obtain ⟨q, c, rfl⟩ : ∃ q c, v = .slice q 0 c := (RdN.of_row hr).len
    exact ⟨q, c, rfl, RdN.of_row hr, ob_row hr, hm⟩
theorem recall_eq (h : Hd w ph pm fs rho l) (f i : Int) (hf : i64w f) (hi : i64w i) {l' : List Lease} {b : Bool} (hs : recallS l (f, i) = (l', b)) :
    Calls Tryz.prog 10 #[.pointer (some ⟨ph, 0, none⟩), .int .i64 f, .int .i64 i] w fun e w' => e = .returned (.bool b) ∧ ∃ fs', Hd w' ph pm fs' rho l' ∧ HdTo w pm fs w' fs' :=
  (hrecall_any h f i hf hi).mono fun e w' ⟨he, ho⟩ => by rw [hs] at he ho; exact ⟨he, ho⟩
theorem drop_eq (h : Hd w ph pm fs rho l) (f i : Int) (hf : i64w f) (hi : i64w i) {l' : List Lease} {b : Bool} (hs : dropS l (f, i) = (l', b)) :
    Calls Tryz.prog 12 #[.pointer (some ⟨ph, 0, none⟩), .int .i64 f, .int .i64 i] w fun e w' => e = .returned (.bool b) ∧ ∃ fs', Hd w' ph pm fs' rho l' ∧ HdTo w pm fs w' fs' :=
  (hdrop_any h f i hf hi).mono fun e w' ⟨he, ho⟩ => by rw [hs] at he ho; exact ⟨he, ho⟩
theorem sweep_eq (h : Hd w ph pm fs rho l) (now : Int) {l' : List Lease} (hs : sweepL now l = l') {n : Int} (hn : (l.length : Int) - l'.length = n) :
    Calls Tryz.prog 21 #[.pointer (some ⟨ph, 0, none⟩), .int .i64 now] w fun e w' => e = .returned (.int .i64 n) ∧ ∃ fs', Hd w' ph pm fs' rho l' ∧ HdTo w pm fs w' fs' :=
  (hsweep_any h now).mono fun e w' ⟨he, ho, hm⟩ => by subst hs hn; exact ⟨he, fs, ho, HdTo.of hm⟩
/-- a new lease's slice, apart from the holder's map -/
theorem HS.off (s : HS W w ph pm fs rho l) {v : Value} {B : Nat} (hB : w.heap.size ≤ B) (h : ∀ k, k ∈ ob v → B ≤ k) : pm ∉ ob v := fun e => by have := h _ e; have := s.hd.lt.2; omega
end
/-- a lease whose stamp lies in new blocks -/
def OwnL (w : World) (x : Lease) (e : Ending) (w' : World) : Prop :=
  ∃ q c, e = .returned (aggL x (.slice q x.stamp.length c)) ∧ RdN w' (.slice q x.stamp.length c) x.stamp ∧ (∀ k, k ∈ ob (.slice q x.stamp.length c) → w.heap.size ≤ k ∧ k < w'.heap.size) ∧ Mod [] w w'
def pathA : ByteArray := { data := #[97] }
def oneL : Lease := ⟨0, 1, { data := #[97] }, 2, [1], 30, 0, 0, false⟩
theorem rd_one {w : World} {b : Nat} {n : Int} {T : TypeId} {fr : Nat × Nat} (h : w.heap[b]? = some (.cells #[.int .i64 n] T fr)) : RdN w (.slice (some ⟨b, 0, none⟩) 1 1) [n] := by
  refine ⟨(by decide : 1 ≤ maxLen), .inr ⟨b, 0, 1, rfl, lt_of_block h, fun i hi => ?_⟩⟩
  have : i = 0 := by simp at hi; omega
  subst this
  simp [World.cell?, h]
set_option maxRecDepth 100000 in
theorem one_any (w : World) : Calls Tryz.prog 27 #[] w fun e w' => OwnL w oneL e w' := by
  go_enter Tryz.func27, Tryz.ntmps27
  go_wp2_with fail
  have q := blk_alloc (heap_alloc_new w (objL 0 1 pathA 2 (.slice (some ⟨w.heap.size + 1, 0, none⟩) 1 1) 30 0 0 false)) (.cells #[.int .i64 1] 3)
  have q2 := heap_alloc_new (w.alloc (objL 0 1 pathA 2 (.slice (some ⟨w.heap.size + 1, 0, none⟩) 1 1) 30 0 0 false)) (.cells #[.int .i64 1] 3)
  have e : (w.alloc (objL 0 1 pathA 2 (.slice (some ⟨w.heap.size + 1, 0, none⟩) 1 1) 30 0 0 false)).heap.size = w.heap.size + 1 := by simp
  rw [e] at q2
  refine bodyPost_ret (v := aggL oneL (.slice (some ⟨w.heap.size + 1, 0, none⟩) 1 1)) (res_cell1 Tryz.results27 _ _ rfl q Tryz.isAgg36 Tryz.sizeOf36) rfl ⟨some ⟨w.heap.size + 1, 0, none⟩, 1, rfl, rd_one q2, ?_, (((Gr.refl w).alloc _).alloc _).mod _⟩
  intro k hk
  have hk' : k = w.heap.size + 1 := by simpa [ob, Value.ownBlock] using hk
  have := lt_of_block q2
  exact ⟨by omega, by rw [hk']; exact this⟩
def l1 : List Lease := [⟨0, 1, { data := #[97] }, 2, [1], 30, 10, 34, false⟩]
def l2 : List Lease := [⟨0, 1, { data := #[97] }, 2, [2], 30, 25, 49, false⟩]
def l3 : List Lease := [⟨0, 1, { data := #[97] }, 2, [2], 30, 25, 49, true⟩]
theorem aw1 : addS 100 [] 20 10 oneL = (l1, 0) := by decide +kernel
theorem aw2 : useS l1 33 ({ data := #[97, 47, 98] } : ByteArray).data.toList 1 = (some ⟨0, 1, { data := #[97] }, 2, [1], 30, 10, 34, false⟩, 0) := by decide +kernel
theorem aw3 : useS l1 34 ({ data := #[97, 47, 98] } : ByteArray).data.toList 1 = (none, 62) := by decide +kernel
theorem aw4 : renewedS 100 l1 30 25 (0, 1) [2] 30 = (l2, true) := by decide +kernel
theorem aw5 : getL l2 (0, 1) = some ⟨0, 1, { data := #[97] }, 2, [2], 30, 25, 49, false⟩ := by decide +kernel
theorem aw6 : recallS l2 (0, 1) = (l3, true) := by decide +kernel
theorem aw7 : renewedS 100 l3 30 25 (0, 1) [2] 30 = (l3, false) := by decide +kernel
theorem aw8 : dropS l3 (0, 1) = ([], true) := by decide +kernel
theorem i64_0 : i64w 0 := i64w_of (by omega) (by omega)
theorem i64_1 : i64w 1 := i64w_of (by omega) (by omega)
set_option maxHeartbeats 2000000 in
set_option maxRecDepth 100000 in
theorem awake_any (w : World) : Calls Tryz.prog 4 #[] w fun e w' => e = .returned (.bool true) ∧ Mod [] w w' := by
  go_enter Tryz.func4, Tryz.ntmps4
  go_wp2_with fail
  refine (hnew_ok 100 (by omega) w).mono ?_
  rintro e w1 ⟨rfl, hd1, hg1⟩
  have s1 : HS w w1 (w.heap.size + 1) w.heap.size [] 100 [] := ⟨hd1, hg1.mod [], by omega, by omega⟩
  clear hd1 hg1
  generalize w.heap.size + 1 = ph at s1 ⊢
  generalize hP : w.heap.size = pm at s1
  clear hP
  go_wp2_with fail
  refine (one_any _).mono ?_
  rintro e w2 ⟨q, c, rfl, hv, hob, hm⟩
  have hoff := s1.off (Nat.le_refl _) (fun k hk => (hob k hk).1)
  have s2 := s1.same hm
  simp only [aggL, cellsL]
  change RdN w2 (.slice q [1].length c) [1] at hv
  clear s1 hm hob
  go_wp2_with fail
  refine (add_eq s2.hd 0 1 2 30 0 0 { data := #[97] } [1] false q c 20 10 (by decide) hv hoff aw1).mono ?_
  rintro e w3 ⟨rfl, fs3, hd3, ht3⟩
  have s3 := s2.to hd3 ht3
  clear s2 hd3 ht3 hv hoff
  go_wp2_with fail
  refine (use_some s3.hd 33 _ 1 (by decide) aw2).mono ?_
  rintro e w4 ⟨q4, c4, rfl, hv4, hf4, hm4⟩
  have s4 := (s3.same hm4).gr ((Gr.refl w4).alloc (objL 0 1 pathA 2 (.slice q4 [(1 : Int)].length c4) 30 10 34 false))
  have b4 := heap_alloc_new w4 (objL 0 1 pathA 2 (.slice q4 [(1 : Int)].length c4) 30 10 34 false)
  clear s3 hm4 hv4 hf4
  go_wp2_with fail
  refine (use_none s4.hd 34 _ 1 (by decide) aw3).mono ?_
  rintro e w5 ⟨q5, c5, rfl, hv5, hf5, hm5⟩
  have s5 := (s4.same hm5).gr ((Gr.refl w5).alloc (objL 0 0 ByteArray.empty 0 (.slice q5 0 c5) 0 0 0 false))
  have b5 := blk_alloc (hm5.at_ b4 (by simp)) (objL 0 0 ByteArray.empty 0 (.slice q5 0 c5) 0 0 0 false)
  have C5 := blk_cell b5
  clear s4 hm5 hv5 hf5 b4 b5
  go_wp2_with fail
  have r5 : RdN _ (.slice (some ⟨w5.heap.size + 1, 0, none⟩) [(2 : Int)].length 1) [2] := rd_one (by
    have := heap_alloc_new (w5.alloc (objL 0 0 ByteArray.empty 0 (.slice q5 0 c5) 0 0 0 false)) (.cells #[.int .i64 2] 3)
    have e : (w5.alloc (objL 0 0 ByteArray.empty 0 (.slice q5 0 c5) 0 0 0 false)).heap.size = w5.heap.size + 1 := by simp
    rw [e] at this
    exact this)
  have s5' := s5.gr ((Gr.refl _).alloc (.cells #[.int .i64 2] 3))
  clear C5 s5
  refine (renewed_eq s5'.hd 30 25 0 1 30 [2] _ 1 i64_0 i64_1 r5 aw4).mono ?_
  rintro e w6 ⟨rfl, fs6, hd6, ht6⟩
  have s6 := s5'.to hd6 ht6
  clear s5' hd6 ht6 r5
  go_wp2_with fail
  refine (get_some s6.hd 0 1 i64_0 i64_1 aw5).mono ?_
  rintro e w7 ⟨q7, c7, rfl, hv7, hf7, hm7⟩
  have s7 := (s6.same hm7).gr ((Gr.refl w7).alloc (objL 0 1 pathA 2 (.slice q7 [(2 : Int)].length c7) 30 25 49 false))
  obtain ⟨b7, o7, rfl, hb7, hc7⟩ := hv7.at_ 0 (by decide)
  have hc7' : w7.cell? ⟨b7, o7, none⟩ = some (.int .i64 2) := hc7
  clear s6 hm7 hv7 hf7 hc7
  go_wp2_with fail
  refine (due_any _ _ _ _ _ _ _ _ _ _).mono ?_
  rintro e w8 ⟨rfl, hg8⟩
  have s8 := s7.gr hg8
  have e8 : dueI 25 49 = 37 := by decide
  rw [e8]
  clear s7 hg8 hc7' e8
  go_wp2_with fail
  refine (hlist_any s8.hd).mono ?_
  rintro e w9 ⟨v9, sl9, f9, rfl, hr9, hs9, _, _, hm9⟩
  have s9 := s8.same hm9
  have hl9 : sl9.length = 1 := by have := congrArg List.length hs9; rw [List.length_map] at this; exact this
  obtain ⟨p9, c9, hv9⟩ : ∃ p c, v9 = .slice p 1 c := by
    rcases hr9.2 with ⟨_, hn⟩ | ⟨g, cap, cur, rfl, _⟩
    · omega
    · exact ⟨_, cap, by rw [hl9]⟩
  subst hv9
  clear s8 hm9 hr9 hs9 hl9
  go_wp2_with fail
  refine (recall_eq s9.hd 0 1 i64_0 i64_1 aw6).mono ?_
  rintro e w10 ⟨rfl, fs10, hd10, ht10⟩
  have s10 := s9.to hd10 ht10
  clear s9 hd10 ht10
  go_wp2_with fail
  have r10 : RdN _ (.slice (some ⟨w10.heap.size, 0, none⟩) [(2 : Int)].length 1) [2] := rd_one (heap_alloc_new w10 (.cells #[.int .i64 2] 3))
  have s10' := s10.gr ((Gr.refl _).alloc (.cells #[.int .i64 2] 3))
  refine (renewed_eq s10'.hd 30 25 0 1 30 [2] _ 1 i64_0 i64_1 r10 aw7).mono ?_
  rintro e w11 ⟨rfl, fs11, hd11, ht11⟩
  have s11 := s10'.to hd11 ht11
  clear s10 s10' hd11 ht11 r10
  go_wp2_with fail
  refine (drop_eq s11.hd 0 1 i64_0 i64_1 aw8).mono ?_
  rintro e w12 ⟨rfl, fs12, hd12, ht12⟩
  have s12 := s11.to hd12 ht12
  clear s11 hd12 ht12
  go_wp2_with fail
  refine (sweep_eq s12.hd 99 (l' := []) rfl (n := 0) (by decide)).mono ?_
  rintro e w13 ⟨rfl, fs13, hd13, ht13⟩
  have s13 := s12.to hd13 ht13
  clear s12 hd13 ht13
  go_wp2_with fail
  go_ret
  exact ⟨rfl, s13.mod⟩
end Go.Proofs.YtifllaeldcimgaaGreat
