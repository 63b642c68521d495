/-
  THE LAW PathsetNil: its walk.
-/
import Derived.Test.YthkcbennfochmaaDoorPsK
namespace Go.Proofs.YthkcbennfochmaaDoor
open Go.RowKit Go.Maps

theorem zero_eql (W : World) : (binOp .eql 29 (.agg #[.int .i64 0, .string ByteArray.empty, .int .i64 0, .int .i64 0]) (.agg #[.int .i64 0, .string ByteArray.empty, .int .i64 0, .int .i64 0])).run Tryd.prog W = .ok (.bool true) W := eql_ent zeroE zeroE W
theorem nil_clash (p : List UInt8) (m who : Int) : clashS5 [] p m who = [] := List.perm_nil.1 (sortI_perm [])
theorem nil_over (p : List UInt8) : overS5 [] p = [] := List.perm_nil.1 (sortI_perm [])
theorem nil_under (p : List UInt8) : underS5 [] p = [] := List.perm_nil.1 (sortI_perm [])
set_option maxHeartbeats 2000000 in
set_option maxRecDepth 100000 in
theorem nil_any (id : Int) (p : ByteArray) (m who : Int) (hp : p.size ≤ 9223372036854775807) (w : World) :
    Calls Tryd.prog 5 #[.agg #[.int .i64 id, .string p, .int .i64 m, .int .i64 who]] w fun e w' => e = .returned (.bool true) ∧ Mod [] w w' := by
  have hgd := guard_ent
  have hze := zero_eql
  have HP := hide hp
  clear hp
  have B0 := hide (heap_alloc_new w (objE id p m who))
  have G0 := hide ((((Gr.refl w).alloc (objE id p m who))).mod [])
  go_enter Tryd.func5, Tryd.ntmps5
  go_wp2_with (first
    | (go_at_call 10
       refine (awake_any _).mono ?_
       rintro e w2 ⟨rfl, hm2⟩
       have G2 := hide (G0.out.then hm2)
       have B2 := hide (hm2.at_ B0.out (by simp))
       have C2 := blk_cell B2.out
       clear hm2 G0 B0)
    | (go_at_call 21
       refine (get_none (SetQ.none_ w2) List.Pairwise.nil id rfl).mono ?_
       rintro e w3 ⟨rfl, hm3⟩
       have G3 := hide ((G2.out.then hm3).then (((Gr.refl w3).alloc (objE 0 ByteArray.empty 0 0)).mod []))
       have b3 := hm3.at_ B2.out (by simp)
       have B3 := hide (And.intro (blk_alloc b3 (objE 0 ByteArray.empty 0 0)) (heap_alloc_new w3 (objE 0 ByteArray.empty 0 0)))
       have C3 := blk_cell b3
       have lt3 : w.heap.size < w3.heap.size := lt_of_block b3
       clear hm3 G2 B2 C2 b3)
    | (go_at_call 11
       refine (sput_nil id p m who _).mono ?_
       rintro e w4 ⟨rfl, hg4⟩
       have G4 := hide (G3.out.then (hg4.mod []))
       have B4 := hide (And.intro ((hg4.mod []).at_ B3.out.1 (by simp)) ((hg4.mod []).at_ B3.out.2 (by simp)))
       have C4 := blk_cell B4.out.1
       have D4 := blk_cell B4.out.2
       clear hg4 G3 B3 C3)
    | (go_at_call 12
       refine (sdrop_nil id _).mono ?_
       rintro e w5 ⟨rfl, hw⟩
       subst hw)
    | (go_at_call 13
       refine (len_eq (SetQ.none_ _) (k := 0) rfl).mono ?_
       rintro e w6 ⟨rfl, hw⟩
       subst hw)
    | (go_at_call 16
       refine (list_eq (SetQ.none_ _) List.Pairwise.nil).mono ?_
       rintro e w7 ⟨q7, c7, rfl, -, hm7⟩
       have G7 := hide (G4.out.then hm7)
       have B7 := hide (hm7.at_ B4.out.1 (by simp))
       have C7 := blk_cell B7.out
       clear hm7 G4 B4 C4 D4)
    | (go_at_call 18
       refine (clash_eq (SetQ.none_ _) p HP.out m who (nil_clash _ _ _)).mono ?_
       rintro e w8 ⟨q8, c8, rfl, -, hm8⟩
       have G8 := hide (G7.out.then hm8)
       have B8 := hide (hm8.at_ B7.out (by simp))
       have C8 := blk_cell B8.out
       clear hm8 G7 B7 C7)
    | (go_at_call 19
       refine (over_eq (SetQ.none_ _) p HP.out (nil_over _)).mono ?_
       rintro e w9 ⟨q9, c9, rfl, -, hm9⟩
       have G9 := hide (G8.out.then hm9)
       have B9 := hide (hm9.at_ B8.out (by simp))
       have C9 := blk_cell B9.out
       clear hm9 G8 B8 C8)
    | (go_at_call 20
       refine (under_eq (SetQ.none_ _) p HP.out (nil_under _)).mono ?_
       rintro e w10 ⟨q10, c10, rfl, -, hm10⟩
       have G10 := hide (G9.out.then hm10)
       clear hm10 G9 B9 C9)
    | fail)
  go_ret
  exact ⟨rfl, G10.out⟩
end Go.Proofs.YthkcbennfochmaaDoor
