/-
  WALKS: one call on the set and on the document's list.
-/
import Derived.Test.YthkcbennfochmaaGreatDoorPsRef6
namespace Go.Proofs.YthkcbennfochmaaGreatDoor
open Go.RowKit Go.Maps

/-- the set and the document's list, side by side -/
structure Dy (W0 w : World) (sb wb : Nat) (N : List Nd) (L : List Ent) (v : Value) : Prop where
  s : SS W0 w sb wb N L
  rd : RdE w v L
  off : ∀ k, k ∈ obl v → k ∉ sb :: wb :: blksN N
  lt : ∀ k, k ∈ obl v → k < w.heap.size
section
variable {W0 w w' : World} {sb wb : Nat} {N : List Nd} {L : List Ent} {v : Value}
theorem Dy.same (d : Dy W0 w sb wb N L v) (m : Mod [] w w') : Dy W0 w' sb wb N L v := ⟨d.s.same m, d.rd.same m, d.off, fun k hk => Nat.lt_of_lt_of_le (d.lt k hk) m.size⟩
theorem Dy.hin (d : Dy W0 w sb wb N L v) : ∀ e, e ∈ L → e.path.size ≤ 9223372036854775806 ∧ (e.mode = 1 ∨ e.mode = 2) := fun e he => by
  have h := d.s.m.ok e he
  have h2 := pathOk_len h.1
  refine ⟨?_, h.2⟩
  rw [Lib.size_eq]
  unfold Ent.bs at h2
  omega
theorem Dy.small (d : Dy W0 w sb wb N L v) : L.length ≤ 64 := d.s.m.small
/-- a new list beside the set as it is -/
theorem Dy.row (d : Dy W0 w sb wb N L v) {v' : Value} {L' : List Ent} (h : RowE w' w.heap.size v' L') : RdE w' v' L' ∧ (∀ k, k ∈ obl v' → k ∉ sb :: wb :: blksN N) ∧ (∀ k, k ∈ obl v' → k < w'.heap.size) := by
  refine ⟨RdE.of_row h, fun k hk e => ?_, fun k hk => (h.own (mem_obl.1 hk)).2⟩
  have h1 := (h.own (mem_obl.1 hk)).1
  have h2 := d.s.m.lt k e
  omega
/-- the set turned, the list (that is new) kept -/
theorem Dy.turn {w1 w2 : World} {N' : List Nd} {L' : List Ent} {v' : Value} (s : SS W0 w2 sb wb N' L') (t : SetTo w1 sb wb N w2 N') (rd : RdE w1 v' L') (off : ∀ k, k ∈ obl v' → k ∉ sb :: wb :: blksN N) (lt : ∀ k, k ∈ obl v' → k < w1.heap.size) : Dy W0 w2 sb wb N' L' v' := by
  refine ⟨s, rd.mod t.mod (fun k hk e => off k hk (List.mem_cons_of_mem _ e)), fun k hk e => ?_, fun k hk => Nat.lt_of_lt_of_le (lt k hk) t.mod.size⟩
  have h0 := off k hk
  have h1 := lt k hk
  rcases List.mem_cons.1 e with e | e
  · exact h0 (by rw [e]; exact List.mem_cons_self)
  · rcases List.mem_cons.1 e with e | e
    · exact h0 (by rw [e]; simp)
    · rcases t.own k e with e | e
      · exact h0 (List.mem_cons_of_mem _ (List.mem_cons_of_mem _ e))
      · omega
end
/-- what a call makes of the list -/
def stepP (L : List Ent) (kd : Int) (x : Ent) : List Ent := if kd = 1 then dropS5 L x.id else if kd = 2 ∨ kd = 3 ∨ kd = 4 ∨ kd = 5 then L else (putS5 L x).1
def OneTo (W0 : World) (sb wb : Nat) (L : List Ent) (e : Ending) (w' : World) : Prop := ∃ v' N', e = .returned (.tuple #[v', .bool true]) ∧ Dy W0 w' sb wb N' L v'
abbrev objOp (kd id m who : Int) (p : ByteArray) : Obj := .cells #[.int .i64 kd, .int .i64 id, .string p, .int .i64 m, .int .i64 who] 31 (0, 0)
theorem len_same {w : World} {u v : Value} {l : List Int} (hu : RdN w u l) (hv : RdN w v l) : Calls Tryz.prog 12 #[u, v] w fun e w' => e = .returned (.bool true) ∧ Mod [] w w' :=
  (sameInts_any hu hv).mono fun _ _ ⟨h1, h2⟩ => ⟨by rw [h1, decide_eq_true rfl], h2.mod []⟩
theorem RowN.rd {w w' : World} {base : Nat} {v : Value} {m : List Int} (h : RowN w base v m) (k : Mod [] w w') : RdN w' v m := (RdN.of_row h).mod k (by simp)
set_option maxHeartbeats 2000000 in
set_option maxRecDepth 100000 in
theorem one_drop {W0 w : World} {sb wb : Nat} {N : List Nd} {L : List Ent} {v : Value} (d : Dy W0 w sb wb N L v) (id m who : Int) (p : ByteArray) (hi : (Lit.int .i64 id).wf = true) :
    Calls Tryz.prog 6 #[.pointer (some ⟨sb, 0, none⟩), v, .agg #[.int .i64 1, .int .i64 id, .string p, .int .i64 m, .int .i64 who]] w fun e w' => OneTo W0 sb wb (dropS5 L id) e w' := by
  have b1 := blk_alloc (heap_alloc_new w (objOp 1 id m who p)) (objE id p m who)
  have b2 := heap_alloc_new (w.alloc (objOp 1 id m who p)) (objE id p m who)
  rw [World.size_alloc] at b2
  have gB := (((Gr.refl w).alloc (objOp 1 id m who p)).alloc (objE id p m who)).mod []
  have C0 := blk_cell (heap_alloc_new w (objOp 1 id m who p))
  have C1 := blk_cell b1
  have C2 := blk_cell b2
  have HB := hide (And.intro b1 b2)
  have HD := hide (d.same gB)
  have HI := hide hi
  clear b1 b2 gB d hi
  go_enter Tryz.func6, Tryz.ntmps6
  go_wp2_with (first
    | (go_at_call 18
       refine (rdrop_any HD.out.rd HD.out.small id).mono ?_
       rintro e w1 ⟨v1, rfl, hr1, hm1⟩
       have H1 := hide (And.intro (HD.out.same hm1) (HD.out.row hr1))
       have C3 := blk_cell (hm1.at_ HB.out.2 (by simp))
       clear hr1 hm1 C0 C1 C2)
    | (go_at_call 16
       refine (drop_eq H1.out.1.s id HI.out rfl rfl).mono ?_
       rintro e w2 ⟨rfl, N2, s, t⟩
       have H2 := hide (Dy.turn s t H1.out.2.1 H1.out.2.2.1 H1.out.2.2.2)
       clear s t C3)
    | fail)
  go_ret2
  exact ⟨_, _, rfl, H2.out⟩
/-- the list behind the document's Put -/
theorem Dy.putRow {W0 w w' : World} {sb wb : Nat} {N : List Nd} {L L' : List Ent} {v v' : Value} (d : Dy W0 w sb wb N L v) (m : Mod [] w w') (h : (v' = v ∧ L' = L) ∨ RowE w' w.heap.size v' L') : RdE w' v' L' ∧ (∀ k, k ∈ obl v' → k ∉ sb :: wb :: blksN N) ∧ (∀ k, k ∈ obl v' → k < w'.heap.size) := by
  rcases h with ⟨rfl, rfl⟩ | h
  · exact ⟨d.rd.same m, d.off, fun k hk => Nat.lt_of_lt_of_le (d.lt k hk) m.size⟩
  · exact d.row h
set_option maxHeartbeats 2000000 in
set_option maxRecDepth 100000 in
theorem one_put {W0 w : World} {sb wb : Nat} {N : List Nd} {L : List Ent} {v : Value} (d : Dy W0 w sb wb N L v) (kd id m who : Int) (p : ByteArray) (hi : (Lit.int .i64 id).wf = true) (hp : p.size ≤ 9223372036854775806) (k1 : ¬ kd = 1) (k2 : ¬ kd = 2) (k3 : ¬ kd = 3) (k4 : ¬ kd = 4) (k5 : ¬ kd = 5) :
    Calls Tryz.prog 6 #[.pointer (some ⟨sb, 0, none⟩), v, .agg #[.int .i64 kd, .int .i64 id, .string p, .int .i64 m, .int .i64 who]] w fun e w' => OneTo W0 sb wb (putS5 L ⟨id, p, m, who⟩).1 e w' := by
  obtain ⟨L1, k0, hP⟩ : ∃ L1 k0, putS5 L ⟨id, p, m, who⟩ = (L1, k0) := ⟨_, _, rfl⟩
  rw [hP]
  have HP := hide hP
  clear hP
  have d1 : (kd == 1) = false := by simpa using k1
  have d2 : (kd == 2) = false := by simpa using k2
  have d3 : (kd == 3) = false := by simpa using k3
  have d4 : (kd == 4) = false := by simpa using k4
  have d5 : (kd == 5) = false := by simpa using k5
  have b1 := blk_alloc (heap_alloc_new w (objOp kd id m who p)) (objE id p m who)
  have b2 := heap_alloc_new (w.alloc (objOp kd id m who p)) (objE id p m who)
  rw [World.size_alloc] at b2
  have gB := (((Gr.refl w).alloc (objOp kd id m who p)).alloc (objE id p m who)).mod []
  have C0 := blk_cell (heap_alloc_new w (objOp kd id m who p))
  have C1 := blk_cell b1
  have C2 := blk_cell b2
  have HB := hide (And.intro b1 b2)
  have HD := hide (d.same gB)
  have HI := hide (And.intro hi hp)
  clear b1 b2 gB d hi hp k1 k2 k3 k4 k5
  go_enter Tryz.func6, Tryz.ntmps6
  go_wp2_with (first
    | (go_at_call 23
       have hrp := rput_any HD.out.rd (fun e he => (HD.out.hin e he).1) HD.out.small id m who p HI.out.2
       rw [HP.out] at hrp
       refine hrp.mono ?_
       clear hrp
       rintro e w1 ⟨v1, rfl, hm1, hr1⟩
       have H1 := hide (And.intro (HD.out.same hm1) (HD.out.putRow hm1 hr1))
       have C3 := blk_cell (hm1.at_ HB.out.2 (by simp))
       clear hr1 hm1 C0 C1 C2)
    | (go_at_call 10
       refine (put_eq H1.out.1.s id p m who (Nat.le_trans HI.out.2 (by omega)) HI.out.1 HP.out).mono ?_
       rintro e w2 ⟨rfl, N2, s, t⟩
       have H2 := hide (Dy.turn s t H1.out.2.1 H1.out.2.2.1 H1.out.2.2.2)
       clear s t C3)
    | fail)
  go_ret2
  exact ⟨_, _, rfl, H2.out⟩
theorem pl_of_3 {w6 w' : World} {b : Nat} {id m who : Int} {p : ByteArray} (hb : w6.heap[b]? = some (objE id p m who)) (h : Mod [] w6 w') : TLive3 w6 w' ∧ w'.cell? ⟨b, 1, none⟩ = some (.string p) ∧ w'.cell? ⟨b, 2, none⟩ = some (.int .i64 m) ∧ w'.cell? ⟨b, 3, none⟩ = some (.int .i64 who) := by
  have C := blk_cell (h.at_ hb (by simp))
  exact ⟨h, C 1, C 2, C 3⟩
set_option maxHeartbeats 2000000 in
set_option maxRecDepth 100000 in
theorem one_clash {W0 w : World} {sb wb : Nat} {N : List Nd} {L : List Ent} {v : Value} (d : Dy W0 w sb wb N L v) (id m who : Int) (p : ByteArray) (hp : p.size ≤ 9223372036854775806) :
    Calls Tryz.prog 6 #[.pointer (some ⟨sb, 0, none⟩), v, .agg #[.int .i64 3, .int .i64 id, .string p, .int .i64 m, .int .i64 who]] w fun e w' => OneTo W0 sb wb L e w' := by
  have b1 := blk_alloc (heap_alloc_new w (objOp 3 id m who p)) (objE id p m who)
  have b2 := heap_alloc_new (w.alloc (objOp 3 id m who p)) (objE id p m who)
  rw [World.size_alloc] at b2
  have gB := (((Gr.refl w).alloc (objOp 3 id m who p)).alloc (objE id p m who)).mod []
  have C0 := blk_cell (heap_alloc_new w (objOp 3 id m who p))
  have C1 := blk_cell b1
  have C2 := blk_cell b2
  have HB := hide (And.intro b1 b2)
  have HD := hide (d.same gB)
  have HI := hide hp
  clear gB d hp
  obtain ⟨xs, hxs⟩ : ∃ xs, clashS5 L p.data.toList m who = xs := ⟨_, rfl⟩
  have HXS := hide hxs
  clear hxs
  obtain ⟨w6, hw6⟩ : ∃ w6 : World, w6 = (w.alloc (objOp 3 id m who p)).alloc (objE id p m who) := ⟨_, rfl⟩
  rw [← hw6] at C1 C2 HB HD b1 b2
  have HBX := hide b2
  clear b1 b2 C1
  go_enter Tryz.func6, Tryz.ntmps6
  go_wp2_with fail
  rw [← hw6]
  clear hw6 C0
  go_region_held3 (fun w' => TLive3 w6 w' ∧ w'.cell? ⟨w.heap.size + 1, 1, none⟩ = some (.string p) ∧ w'.cell? ⟨w.heap.size + 1, 2, none⟩ = some (.int .i64 m) ∧ w'.cell? ⟨w.heap.size + 1, 3, none⟩ = some (.int .i64 who))
    (first | (exact pl_of_3 HBX.out ((Mod.refl [] w6).drew)) | (go_split_ands; exact pl_of_3 HBX.out (Mod.then (by assumption) hmX)))
    (first
      | (go_at_call 13; go_split_ands; refine (clash_eq (HD.out.same (TLive3.mod (by assumption))).s.q p (Nat.le_trans HI.out (by omega)) m who HXS.out).mono ?_; rintro e x1 ⟨q1, c1, rfl, r1, hmX⟩; have m1 := hmX)
      | (go_at_call 20; go_split_ands; refine (rclash_any (HD.out.same (TLive3.mod (by assumption))).rd HD.out.hin HD.out.small p HI.out m who).mono ?_; intro e x2 hnew; rw [HXS.out] at hnew; obtain ⟨q2, c2, rfl, r2, hmX⟩ := newN_form hnew; have m2 := hmX; clear hnew)
      | (go_at_call 12; go_split_ands; refine (len_same (r1.rd (by repeat (first | exact Mod.refl _ _ | apply Mod.drew | (refine Mod.then ?_ m2) | fail))) (r2.rd (by repeat (first | exact Mod.refl _ _ | apply Mod.drew | fail)))).mono ?_; rintro e x3 ⟨rfl, hmX⟩)
      | fail)
  go_wp2_with fail
  go_split_ands
  go_ret2
  exact ⟨_, _, rfl, HD.out.same (TLive3.mod (by assumption))⟩
theorem pl_of_4 {w6 w' : World} {b : Nat} {id m who : Int} {p : ByteArray} (hb : w6.heap[b]? = some (objE id p m who)) (h : Mod [] w6 w') : TLive3 w6 w' ∧ w'.cell? ⟨b, 1, none⟩ = some (.string p) := by
  have C := blk_cell (h.at_ hb (by simp))
  exact ⟨h, C 1⟩
set_option maxHeartbeats 2000000 in
set_option maxRecDepth 100000 in
theorem one_over {W0 w : World} {sb wb : Nat} {N : List Nd} {L : List Ent} {v : Value} (d : Dy W0 w sb wb N L v) (id m who : Int) (p : ByteArray) (hp : p.size ≤ 9223372036854775806) :
    Calls Tryz.prog 6 #[.pointer (some ⟨sb, 0, none⟩), v, .agg #[.int .i64 4, .int .i64 id, .string p, .int .i64 m, .int .i64 who]] w fun e w' => OneTo W0 sb wb L e w' := by
  have b1 := blk_alloc (heap_alloc_new w (objOp 4 id m who p)) (objE id p m who)
  have b2 := heap_alloc_new (w.alloc (objOp 4 id m who p)) (objE id p m who)
  rw [World.size_alloc] at b2
  have gB := (((Gr.refl w).alloc (objOp 4 id m who p)).alloc (objE id p m who)).mod []
  have C0 := blk_cell (heap_alloc_new w (objOp 4 id m who p))
  have C1 := blk_cell b1
  have C2 := blk_cell b2
  have HB := hide (And.intro b1 b2)
  have HD := hide (d.same gB)
  have HI := hide hp
  clear gB d hp
  obtain ⟨xs, hxs⟩ : ∃ xs, overS5 L p.data.toList = xs := ⟨_, rfl⟩
  have HXS := hide hxs
  clear hxs
  obtain ⟨w6, hw6⟩ : ∃ w6 : World, w6 = (w.alloc (objOp 4 id m who p)).alloc (objE id p m who) := ⟨_, rfl⟩
  rw [← hw6] at C1 C2 HB HD b1 b2
  have HBX := hide b2
  clear b1 b2 C1
  go_enter Tryz.func6, Tryz.ntmps6
  go_wp2_with fail
  rw [← hw6]
  clear hw6 C0
  go_region_held3 (fun w' => TLive3 w6 w' ∧ w'.cell? ⟨w.heap.size + 1, 1, none⟩ = some (.string p))
    (first | (exact pl_of_4 HBX.out ((Mod.refl [] w6).drew)) | (go_split_ands; exact pl_of_4 HBX.out (Mod.then (by assumption) hmX)))
    (first
      | (go_at_call 14; go_split_ands; refine (over_eq (HD.out.same (TLive3.mod (by assumption))).s.q p (Nat.le_trans HI.out (by omega)) HXS.out).mono ?_; rintro e x1 ⟨q1, c1, rfl, r1, hmX⟩; have m1 := hmX)
      | (go_at_call 21; go_split_ands; refine (rover_any (HD.out.same (TLive3.mod (by assumption))).rd (fun e he => (HD.out.hin e he).1) HD.out.small p HI.out).mono ?_; intro e x2 hnew; rw [HXS.out] at hnew; obtain ⟨q2, c2, rfl, r2, hmX⟩ := newN_form hnew; have m2 := hmX; clear hnew)
      | (go_at_call 12; go_split_ands; refine (len_same (r1.rd (by repeat (first | exact Mod.refl _ _ | apply Mod.drew | (refine Mod.then ?_ m2) | fail))) (r2.rd (by repeat (first | exact Mod.refl _ _ | apply Mod.drew | fail)))).mono ?_; rintro e x3 ⟨rfl, hmX⟩)
      | fail)
  go_wp2_with fail
  go_split_ands
  go_ret2
  exact ⟨_, _, rfl, HD.out.same (TLive3.mod (by assumption))⟩
theorem pl_of_5 {w6 w' : World} {b : Nat} {id m who : Int} {p : ByteArray} (hb : w6.heap[b]? = some (objE id p m who)) (h : Mod [] w6 w') : TLive3 w6 w' ∧ w'.cell? ⟨b, 1, none⟩ = some (.string p) := by
  have C := blk_cell (h.at_ hb (by simp))
  exact ⟨h, C 1⟩
set_option maxHeartbeats 2000000 in
set_option maxRecDepth 100000 in
theorem one_under {W0 w : World} {sb wb : Nat} {N : List Nd} {L : List Ent} {v : Value} (d : Dy W0 w sb wb N L v) (id m who : Int) (p : ByteArray) (hp : p.size ≤ 9223372036854775806) :
    Calls Tryz.prog 6 #[.pointer (some ⟨sb, 0, none⟩), v, .agg #[.int .i64 5, .int .i64 id, .string p, .int .i64 m, .int .i64 who]] w fun e w' => OneTo W0 sb wb L e w' := by
  have b1 := blk_alloc (heap_alloc_new w (objOp 5 id m who p)) (objE id p m who)
  have b2 := heap_alloc_new (w.alloc (objOp 5 id m who p)) (objE id p m who)
  rw [World.size_alloc] at b2
  have gB := (((Gr.refl w).alloc (objOp 5 id m who p)).alloc (objE id p m who)).mod []
  have C0 := blk_cell (heap_alloc_new w (objOp 5 id m who p))
  have C1 := blk_cell b1
  have C2 := blk_cell b2
  have HB := hide (And.intro b1 b2)
  have HD := hide (d.same gB)
  have HI := hide hp
  clear gB d hp
  obtain ⟨xs, hxs⟩ : ∃ xs, underS5 L p.data.toList = xs := ⟨_, rfl⟩
  have HXS := hide hxs
  clear hxs
  obtain ⟨w6, hw6⟩ : ∃ w6 : World, w6 = (w.alloc (objOp 5 id m who p)).alloc (objE id p m who) := ⟨_, rfl⟩
  rw [← hw6] at C1 C2 HB HD b1 b2
  have HBX := hide b2
  clear b1 b2 C1
  go_enter Tryz.func6, Tryz.ntmps6
  go_wp2_with fail
  rw [← hw6]
  clear hw6 C0
  go_region_held3 (fun w' => TLive3 w6 w' ∧ w'.cell? ⟨w.heap.size + 1, 1, none⟩ = some (.string p))
    (first | (exact pl_of_5 HBX.out ((Mod.refl [] w6).drew)) | (go_split_ands; exact pl_of_5 HBX.out (Mod.then (by assumption) hmX)))
    (first
      | (go_at_call 15; go_split_ands; refine (under_eq (HD.out.same (TLive3.mod (by assumption))).s.q p (Nat.le_trans HI.out (by omega)) HXS.out).mono ?_; rintro e x1 ⟨q1, c1, rfl, r1, hmX⟩; have m1 := hmX)
      | (go_at_call 22; go_split_ands; refine (runder_any (HD.out.same (TLive3.mod (by assumption))).rd (fun e he => (HD.out.hin e he).1) HD.out.small p HI.out).mono ?_; intro e x2 hnew; rw [HXS.out] at hnew; obtain ⟨q2, c2, rfl, r2, hmX⟩ := newN_form hnew; have m2 := hmX; clear hnew)
      | (go_at_call 12; go_split_ands; refine (len_same (r1.rd (by repeat (first | exact Mod.refl _ _ | apply Mod.drew | (refine Mod.then ?_ m2) | fail))) (r2.rd (by repeat (first | exact Mod.refl _ _ | apply Mod.drew | fail)))).mono ?_; rintro e x3 ⟨rfl, hmX⟩)
      | fail)
  go_wp2_with fail
  go_split_ands
  go_ret2
  exact ⟨_, _, rfl, HD.out.same (TLive3.mod (by assumption))⟩
end Go.Proofs.YthkcbennfochmaaGreatDoor
