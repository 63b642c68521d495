/-
  LAYER 5: contracts with results given; a set all of whose memory is new; awake.
-/
import Derived.Test.YthkcbennfochmaaGreatDoorPsGet
namespace Go.Proofs.YthkcbennfochmaaGreatDoor
open Go.RowKit Go.Maps

/-- a set all of whose memory is new since W -/
structure SS (W w : World) (sb wb : Nat) (N : List Nd) (l : List Ent) : Prop where
  m : SetM w sb wb N l
  srt : SrtE l
  mod : Mod [] W w
  new : ∀ k, k ∈ sb :: wb :: blksN N → W.heap.size ≤ k
theorem drop_srt {l : List Ent} (h : SrtE l) (i : Int) : SrtE (dropS5 l i) := h.filter _
theorem put_srt {l : List Ent} (h : SrtE l) (e : Ent) : SrtE (putS5 l e).1 := by
  unfold putS5
  split
  · exact h
  · split
    · exact h
    · split
      · exact h
      · next hid =>
        split
        · exact h
        · refine insE_srt h fun x hx e2 => hid ?_
          unfold hasId
          rw [List.any_eq_true]
          exact ⟨x, hx, decide_eq_true e2⟩
section
variable {W w w' : World} {sb wb : Nat} {N N' : List Nd} {l l' : List Ent}
theorem SS.q (s : SS W w sb wb N l) : SetQ w (some ⟨sb, 0, none⟩) N l := .inl ⟨sb, wb, rfl, s.m⟩
theorem SS.same (s : SS W w sb wb N l) (m : Mod [] w w') : SS W w' sb wb N l := ⟨s.m.same m, s.srt, s.mod.then m, s.new⟩
theorem SS.gr (s : SS W w sb wb N l) (g : Gr w w') : SS W w' sb wb N l := s.same (g.mod [])
theorem SS.to (s : SS W w sb wb N l) (h : SetM w' sb wb N' l') (hs : SrtE l') (t : SetTo w sb wb N w' N') : SS W w' sb wb N' l' := by
  refine ⟨h, hs, s.mod.trans t.mod (by simp) (fun x hx hlt => ?_), fun k hk => ?_⟩
  · have := s.new x (List.mem_cons_of_mem _ hx)
    omega
  · rcases List.mem_cons.1 hk with e | hk
    · exact s.new k (by rw [e]; exact List.mem_cons_self)
    · rcases List.mem_cons.1 hk with e | hk
      · exact s.new k (by rw [e]; simp)
      · rcases t.own k hk with h1 | h1
        · exact s.new k (List.mem_cons_of_mem _ (List.mem_cons_of_mem _ h1))
        · have := s.mod.size; omega
theorem new_eq (m : Mod [] W w) : Calls Tryz.prog 5 #[] w fun e w' => ∃ sb wb N, e = .returned (.pointer (some ⟨sb, 0, none⟩)) ∧ SS W w' sb wb N [] ∧ SS w w' sb wb N [] :=
  (snew_any w).mono fun _ _ ⟨sb, wb, N, he, h, hn, g⟩ => ⟨sb, wb, N, he, ⟨h, List.Pairwise.nil, m.then (g.mod []), fun k hk => Nat.le_trans m.size (hn k hk)⟩, ⟨h, List.Pairwise.nil, g.mod [], hn⟩⟩
theorem put_eq (s : SS W w sb wb N l) (id : Int) (p : ByteArray) (m who : Int) (hp : p.size ≤ 9223372036854775807) (hi : (Lit.int .i64 id).wf = true) {k : Int} (hs : putS5 l ⟨id, p, m, who⟩ = (l', k)) :
    Calls Tryz.prog 10 #[.pointer (some ⟨sb, 0, none⟩), .agg #[.int .i64 id, .string p, .int .i64 m, .int .i64 who]] w fun e w' => e = .returned (.int .i64 k) ∧ ∃ N', SS W w' sb wb N' l' ∧ SetTo w sb wb N w' N' :=
  (sput_any s.m id p m who hp hi).mono fun e w' ⟨he, N', h, t⟩ => by
    have hsr := put_srt s.srt ⟨id, p, m, who⟩
    rw [hs] at he h hsr
    exact ⟨he, N', s.to h hsr t, t⟩
theorem drop_eq (s : SS W w sb wb N l) (id : Int) (hi : (Lit.int .i64 id).wf = true) (hs : dropS5 l id = l') {b : Bool} (hb : hasId l id = b) :
    Calls Tryz.prog 16 #[.pointer (some ⟨sb, 0, none⟩), .int .i64 id] w fun e w' => e = .returned (.bool b) ∧ ∃ N', SS W w' sb wb N' l' ∧ SetTo w sb wb N w' N' :=
  (sdrop_any s.m id hi).mono fun e w' ⟨he, N', h, t⟩ => by
    have hsr := drop_srt s.srt id
    rw [hs] at h hsr
    rw [hb] at he
    exact ⟨he, N', s.to h hsr t, t⟩
end
section
variable {w : World} {o : Option Addr} {N : List Nd} {l : List Ent}
theorem len_eq (h : SetQ w o N l) {k : Int} (hk : (l.length : Int) = k) : Calls Tryz.prog 7 #[.pointer o] w fun e w' => e = .returned (.int .i64 k) ∧ w' = w := by
  subst hk
  exact len_q h
theorem list_eq (h : SetQ w o N l) (hs : SrtE l) : Calls Tryz.prog 9 #[.pointer o] w fun e w' => ∃ q c, e = .returned (.slice q l.length c) ∧ RowE w' w.heap.size (.slice q l.length c) l ∧ Mod [] w w' :=
  (list_q h hs).mono fun e w' ⟨v, he, hr, hm⟩ => by
    obtain ⟨q, c, rfl⟩ := hr.form
    exact ⟨q, c, he, hr, hm⟩
theorem newN_form {w' : World} {xs : List Int} {e : Ending} (h : NewN w xs e w') : ∃ q c, e = .returned (.slice q xs.length c) ∧ RowN w' w.heap.size (.slice q xs.length c) xs ∧ Mod [] w w' := by
  obtain ⟨v, he, hr, hm⟩ := h
  obtain ⟨q, c, rfl⟩ := hr.form
  exact ⟨q, c, he, hr, hm⟩
theorem over_eq (h : SetQ w o N l) (p : ByteArray) (hp : p.size ≤ 9223372036854775807) {xs : List Int} (hs : overS5 l p.data.toList = xs) : Calls Tryz.prog 14 #[.pointer o, .string p] w fun e w' => ∃ q c, e = .returned (.slice q xs.length c) ∧ RowN w' w.heap.size (.slice q xs.length c) xs ∧ Mod [] w w' := by
  subst hs
  exact (sover_any h p hp).mono fun _ _ => newN_form
theorem under_eq (h : SetQ w o N l) (p : ByteArray) (hp : p.size ≤ 9223372036854775807) {xs : List Int} (hs : underS5 l p.data.toList = xs) : Calls Tryz.prog 15 #[.pointer o, .string p] w fun e w' => ∃ q c, e = .returned (.slice q xs.length c) ∧ RowN w' w.heap.size (.slice q xs.length c) xs ∧ Mod [] w w' := by
  subst hs
  exact (sunder_any h p hp).mono fun _ _ => newN_form
theorem clash_eq (h : SetQ w o N l) (p : ByteArray) (hp : p.size ≤ 9223372036854775807) (m who : Int) {xs : List Int} (hs : clashS5 l p.data.toList m who = xs) : Calls Tryz.prog 13 #[.pointer o, .string p, .int .i64 m, .int .i64 who] w fun e w' => ∃ q c, e = .returned (.slice q xs.length c) ∧ RowN w' w.heap.size (.slice q xs.length c) xs ∧ Mod [] w w' := by
  subst hs
  exact (sclash_any h p hp m who).mono fun _ _ => newN_form
theorem get_some (h : SetQ w o N l) (hs : SrtE l) (id : Int) {i m s : Int} {p : ByteArray} (he : getS5 l id = some ⟨i, p, m, s⟩) : Calls Tryz.prog 11 #[.pointer o, .int .i64 id] w fun e w' => e = .returned (.tuple #[.agg #[.int .i64 i, .string p, .int .i64 m, .int .i64 s], .bool true]) ∧ Mod [] w w' :=
  (sget_any h hs id).mono fun e w' ⟨h1, h2⟩ => ⟨by rw [h1, hasId_of_get, he]; rfl, h2⟩
theorem get_none (h : SetQ w o N l) (hs : SrtE l) (id : Int) (he : getS5 l id = none) : Calls Tryz.prog 11 #[.pointer o, .int .i64 id] w fun e w' => e = .returned (.tuple #[.agg #[.int .i64 0, .string ByteArray.empty, .int .i64 0, .int .i64 0], .bool false]) ∧ Mod [] w w' :=
  (sget_any h hs id).mono fun e w' ⟨h1, h2⟩ => ⟨by rw [h1, hasId_of_get, he]; rfl, h2⟩
end
/-! ### awake -/
theorem rd_blk {w : World} {b : Nat} {T : TypeId} {fr : Nat × Nat} {m : List Int} (h : w.heap[b]? = some (.cells (m.map (Value.int .i64)).toArray T fr)) (hl : m.length ≤ maxLen) : RdN w (.slice (some ⟨b, 0, none⟩) m.length m.length) m := by
  refine ⟨hl, .inr ⟨b, 0, m.length, rfl, lt_of_block h, fun i hi => ?_⟩⟩
  simp [World.cell?, h, hi]
theorem sortI_at {xs ys : List Int} (e : xs = ys) (h : ys.Pairwise (· ≤ ·)) : sortI xs = ys := by rw [e]; exact sortI_eq h (.refl _)
def aw1 : Ent := ⟨1, { data := #[97] }, 2, 5⟩
def aw2 : Ent := ⟨2, { data := #[97, 47, 98] }, 1, 6⟩
def aw3 : Ent := ⟨3, { data := #[99] }, 1, 5⟩
theorem awp1 : putS5 [] ⟨1, { data := #[97] }, 2, 5⟩ = ([aw1], 0) := by kernel_rfl
theorem awp2 : putS5 [aw1] ⟨2, { data := #[97, 47, 98] }, 1, 6⟩ = ([aw1, aw2], 0) := by kernel_rfl
theorem awp3 : putS5 [aw1, aw2] ⟨3, { data := #[99] }, 1, 5⟩ = ([aw1, aw2, aw3], 0) := by kernel_rfl
theorem awc : clashS5 [aw1, aw2, aw3] ({ data := #[] } : ByteArray).data.toList 2 7 = [1, 2, 3] := sortI_at (by kernel_rfl) (by decide)
theorem awo : overS5 [aw1, aw2, aw3] ({ data := #[97, 47, 98] } : ByteArray).data.toList = [1, 2] := sortI_at (by kernel_rfl) (by decide)
theorem awu : underS5 [aw1, aw2, aw3] ({ data := #[97] } : ByteArray).data.toList = [1, 2] := sortI_at (by kernel_rfl) (by decide)
theorem awg : getS5 [aw1, aw2, aw3] 2 = some ⟨2, { data := #[97, 47, 98] }, 1, 6⟩ := by kernel_rfl
theorem awd : dropS5 [aw1, aw2, aw3] 3 = [aw1, aw2] ∧ hasId [aw1, aw2, aw3] 3 = true ∧ dropS5 [aw1, aw2] 3 = [aw1, aw2] ∧ hasId [aw1, aw2] 3 = false := ⟨by kernel_rfl, by kernel_rfl, by kernel_rfl, by kernel_rfl⟩
set_option maxHeartbeats 2000000 in
set_option maxRecDepth 100000 in
theorem awake_any (w : World) : Calls Tryz.prog 4 #[] w fun e w' => e = .returned (.bool true) ∧ Mod [] w w' := by
  go_enter Tryz.func4, Tryz.ntmps4
  go_wp2_with (first
    | (go_at_call 5
       refine (new_eq (Mod.refl [] w)).mono ?_
       rintro e w1 ⟨sb, wb, N, rfl, s, -⟩
       have H0 := hide s
       clear s)
    | (go_at_call 10
       refine (put_eq H0.out 1 _ 2 5 (by decide) (by decide) awp1).mono ?_
       rintro e w2 ⟨rfl, N1, s, -⟩
       have H1 := hide s
       clear s H0)
    | (go_at_call 10
       refine (put_eq H1.out 2 _ 1 6 (by decide) (by decide) awp2).mono ?_
       rintro e w3 ⟨rfl, N2, s, -⟩
       have H2 := hide s
       clear s H1)
    | (go_at_call 10
       refine (put_eq H2.out 3 _ 1 5 (by decide) (by decide) awp3).mono ?_
       rintro e w4 ⟨rfl, N3, s, -⟩
       have H3 := hide s
       clear s H2)
    | (go_at_call 11
       refine (get_some H3.out.q H3.out.srt 2 awg).mono ?_
       rintro e w5 ⟨rfl, hm5⟩
       have G5 := hide hm5
       have s := H3.out.same hm5
       have H5 := hide s
       clear s hm5 H3)
    | (go_at_call 13
       refine (clash_eq (H5.out.same (((Gr.refl w5).alloc _).mod [])).q _ (by decide) 2 7 awc).mono ?_
       rintro e w6 ⟨q6, c6, rfl, hr6, hm6⟩
       have B6 := hm6.at_ (heap_alloc_new w5 (objE 2 { data := #[97, 47, 98] } 1 6)) (by simp)
       have HB6 := hide B6
       have s := (H5.out.same (((Gr.refl w5).alloc _).mod [])).same hm6
       have H6 := hide s
       have R6 := hide hr6
       clear s hm6 B6 hr6 H5)
    | (go_at_call 12
       refine (sameInts_any (a := [1, 2, 3]) (b := [1, 2, 3]) ((RdN.of_row R6.out).gr ((Gr.refl w6).alloc _)) (rd_blk (m := [1, 2, 3]) (heap_alloc_new w6 _) (by decide))).mono ?_
       rintro e w7 ⟨rfl, hg7⟩
       have g := (((Gr.refl w6).alloc _).trans hg7).mod []
       have s := H6.out.same g
       have H7 := hide s
       have HB7 := hide (g.at_ HB6.out (by simp))
       clear s g hg7 R6 H6 HB6)
    | (go_at_call 14
       refine (over_eq H7.out.q _ (by decide) awo).mono ?_
       rintro e w8 ⟨q8, c8, rfl, hr8, hm8⟩
       have s := H7.out.same hm8
       have H8 := hide s
       have R8 := hide hr8
       have HB8 := hide (hm8.at_ HB7.out (by simp))
       clear s hm8 hr8 H7 HB7)
    | (go_at_call 12
       refine (sameInts_any (a := [1, 2]) (b := [1, 2]) ((RdN.of_row R8.out).gr ((Gr.refl w8).alloc _)) (rd_blk (m := [1, 2]) (heap_alloc_new w8 _) (by decide))).mono ?_
       rintro e w9 ⟨rfl, hg9⟩
       have g := (((Gr.refl w8).alloc _).trans hg9).mod []
       have s := H8.out.same g
       have H9 := hide s
       have HB9 := hide (g.at_ HB8.out (by simp))
       clear s g hg9 R8 H8 HB8)
    | (go_at_call 15
       refine (under_eq H9.out.q _ (by decide) awu).mono ?_
       rintro e w10 ⟨q10, c10, rfl, hr10, hm10⟩
       have s := H9.out.same hm10
       have H10 := hide s
       have R10 := hide hr10
       have HB10 := hide (hm10.at_ HB9.out (by simp))
       clear s hm10 hr10 H9 HB9)
    | (go_at_call 12
       refine (sameInts_any (a := [1, 2]) (b := [1, 2]) ((RdN.of_row R10.out).gr ((Gr.refl w10).alloc _)) (rd_blk (m := [1, 2]) (heap_alloc_new w10 _) (by decide))).mono ?_
       rintro e w11 ⟨rfl, hg11⟩
       have g := (((Gr.refl w10).alloc _).trans hg11).mod []
       have s := H10.out.same g
       have H11 := hide s
       have HB11 := hide (g.at_ HB10.out (by simp))
       clear s g hg11 R10 H10 HB10)
    | (go_at_call 7
       refine (len_eq H11.out.q (k := 3) rfl).mono ?_
       rintro e w12 ⟨rfl, hw⟩
       subst hw)
    | (go_at_call 9
       refine (list_eq H11.out.q H11.out.srt).mono ?_
       rintro e w13 ⟨q13, c13, rfl, hr13, hm13⟩
       have s := H11.out.same hm13
       have H13 := hide s
       have B13 := hm13.at_ HB11.out (by simp)
       have CB := blk_cell B13
       clear s hm13 hr13 H11 HB11 B13)
    | (go_at_call 16
       refine (drop_eq H13.out 3 (by decide) awd.1 awd.2.1).mono ?_
       rintro e w14 ⟨rfl, N14, s, -⟩
       have H14 := hide s
       clear s H13 CB)
    | (go_at_call 16
       refine (drop_eq H14.out 3 (by decide) awd.2.2.1 awd.2.2.2).mono ?_
       rintro e w15 ⟨rfl, N15, s, -⟩
       have H15 := hide s
       clear s H14)
    | (go_at_call 7
       refine (len_eq H15.out.q (k := 2) rfl).mono ?_
       rintro e w16 ⟨rfl, hw⟩
       subst hw)
    | fail)
  go_ret
  exact ⟨rfl, H15.out.mod⟩
end Go.Proofs.YthkcbennfochmaaGreatDoor
