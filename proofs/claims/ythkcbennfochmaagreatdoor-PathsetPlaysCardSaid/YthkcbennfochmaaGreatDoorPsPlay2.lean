/-
  WALK: one call on the set and on the document's list: Get.
-/
import Derived.Test.YthkcbennfochmaaGreatDoorPsPlay
namespace Go.Proofs.YthkcbennfochmaaGreatDoor
open Go.RowKit Go.Maps

theorem zero_eql (W : World) : (binOp .eql 29 (.agg #[.int .i64 0, .string ByteArray.empty, .int .i64 0, .int .i64 0]) (.agg #[.int .i64 0, .string ByteArray.empty, .int .i64 0, .int .i64 0])).run Tryz.prog W = .ok (.bool true) W := eql_ent zeroE zeroE W
theorem self_eql (i m s : Int) (p : ByteArray) (W : World) : (binOp .eql 29 (.agg #[.int .i64 i, .string p, .int .i64 m, .int .i64 s]) (.agg #[.int .i64 i, .string p, .int .i64 m, .int .i64 s])).run Tryz.prog W = .ok (.bool true) W := by
  have h := eql_ent ⟨i, p, m, s⟩ ⟨i, p, m, s⟩ W
  rw [(eqE_iff _ _).2 rfl] at h
  exact h
set_option maxHeartbeats 2000000 in
set_option maxRecDepth 100000 in
theorem one_get {W0 w : World} {sb wb : Nat} {N : List Nd} {L : List Ent} {v : Value} (d : Dy W0 w sb wb N L v) (id m who : Int) (p : ByteArray) :
    Calls Tryz.prog 6 #[.pointer (some ⟨sb, 0, none⟩), v, .agg #[.int .i64 2, .int .i64 id, .string p, .int .i64 m, .int .i64 who]] w fun e w' => OneTo W0 sb wb L e w' := by
  have b1 := blk_alloc (heap_alloc_new w (objOp 2 id m who p)) (objE id p m who)
  have b2 := heap_alloc_new (w.alloc (objOp 2 id m who p)) (objE id p m who)
  rw [World.size_alloc] at b2
  have gB := (((Gr.refl w).alloc (objOp 2 id m who p)).alloc (objE id p m who)).mod []
  have C0 := blk_cell (heap_alloc_new w (objOp 2 id m who p))
  have C1 := blk_cell b1
  have C2 := blk_cell b2
  have HB := hide (And.intro b1 b2)
  have HD := hide (d.same gB)
  have hgd := guard_ent
  clear b1 b2 gB d
  cases hg : getS5 L id with
  | none =>
    have HG := hide hg
    have hze := zero_eql
    clear hg
    go_enter Tryz.func6, Tryz.ntmps6
    go_wp2_with (first
      | (go_at_call 11
         refine (get_none HD.out.s.q HD.out.s.srt id HG.out).mono ?_
         rintro e w1 ⟨rfl, hm1⟩
         have H1 := hide ((HD.out.same hm1).same (((Gr.refl w1).alloc (objE 0 ByteArray.empty 0 0)).mod []))
         have b3 := hm1.at_ HB.out.2 (by simp)
         have C3 := blk_cell b3
         have C4 := blk_cell (heap_alloc_new w1 (objE 0 ByteArray.empty 0 0))
         have hls : w.heap.size + 1 < w1.heap.size := lt_of_block b3
         have C5 := blk_cell (blk_alloc b3 (objE 0 ByteArray.empty 0 0))
         clear hm1 b3 C0 C1 C2 HD)
      | (go_at_call 19
         refine (rfind_any H1.out.rd id).mono ?_
         rintro e w2 ⟨r, rfl, rfl, hr⟩
         obtain rfl : r = -1 := (by
           rcases hr with ⟨h1, -⟩ | ⟨k, -, -, h2⟩
           · exact h1
           · rw [HG.out] at h2; cases h2)
         clear hr)
      | fail)
    go_quiet (fail)
    go_wp2_with fail
    go_ret2
    exact ⟨_, _, rfl, H1.out.same ((Mod.refl [] _).drewN _)⟩
  | some y =>
    obtain ⟨yi, yp, ym, yw⟩ := y
    have HG := hide hg
    have hse := self_eql yi ym yw yp
    clear hg
    obtain ⟨q, c, rfl⟩ := HD.out.rd.len
    go_enter Tryz.func6, Tryz.ntmps6
    go_wp2_with (first
      | (go_at_call 11
         refine (get_some HD.out.s.q HD.out.s.srt id HG.out).mono ?_
         rintro e w1 ⟨rfl, hm1⟩
         have H1 := hide ((HD.out.same hm1).same (((Gr.refl w1).alloc (objE yi yp ym yw)).mod []))
         have b3 := hm1.at_ HB.out.2 (by simp)
         have C3 := blk_cell b3
         have C4 := blk_cell (heap_alloc_new w1 (objE yi yp ym yw))
         have hls : w.heap.size + 1 < w1.heap.size := lt_of_block b3
         have C5 := blk_cell (blk_alloc b3 (objE yi yp ym yw))
         clear hm1 b3 C0 C1 C2 HD)
      | (go_at_call 19
         refine (rfind_any H1.out.rd id).mono ?_
         rintro e w2 ⟨r, rfl, rfl, hr⟩
         obtain ⟨k, hk, rfl, hgk⟩ : ∃ k : Nat, k < L.length ∧ r = k ∧ L.getD k default = ⟨yi, yp, ym, yw⟩ := (by
           rcases hr with ⟨-, h1⟩ | ⟨k, h1, h2, h3⟩
           · rw [HG.out] at h1; cases h1
           · rw [HG.out] at h3; exact ⟨k, h1, h2, (Option.some.inj h3).symm⟩)
         obtain ⟨b, off, rfl, hbl, c0, c1, c2, c3⟩ := H1.out.rd.at_ hk
         rw [hgk] at c0 c1 c2 c3
         have i1 : (0 : Int) ≤ (k : Int) := by omega
         have i2 : (k : Int) < (L.length : Int) := by omega
         clear hr hgk)
      | fail)
    go_quiet (fail)
    go_wp2_with fail
    go_ret2
    exact ⟨_, _, rfl, H1.out.same ((Mod.refl [] _).drewN _)⟩
end Go.Proofs.YthkcbennfochmaaGreatDoor
