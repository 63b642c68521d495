/-
  WALKS: layer 17: Use.
-/
import Derived.Test.YtifllaeldcimgaaGreatHoldU3
namespace Go.Proofs.YtifllaeldcimgaaGreat
open Go.RowKit

theorem uindex_none (p : Option Addr) (c : Nat) (fv : Value) (w : World) : Calls Tryz.prog 68 #[.slice p 0 c, fv] w fun e w' => e = .returned (.int .i64 (-1)) ∧ w' = w := by
  go_enter Tryz.func68, Tryz.ntmps68
  go_wp2_with fail
  refine wp_loop_rounds 1 ?_
  rw [rounds_succ]
  go_wp2_with fail
  go_ret
  exact ⟨rfl, rfl⟩
theorem udelete_none (p : Option Addr) (c : Nat) (fv : Value) (w : World) : Calls Tryz.prog 40 #[.slice p 0 c, fv] w fun e w' => e = .returned (.slice p 0 c) ∧ w' = w := by
  go_enter Tryz.func40, Tryz.ntmps40
  go_wp2_with fail
  refine (uindex_none _ _ _ _).mono ?_
  rintro e w' ⟨rfl, rfl⟩
  go_wp2_with fail
  go_ret
  exact ⟨rfl, rfl⟩
def minL (b : Lease) : List Lease → Lease
  | [] => b
  | x :: r => minL (if prefI x b < 0 then x else b) r
theorem minF_L (l : List SL) : ∀ b : SL, (minF b l).1 = minL b.1 (l.map Prod.fst) := by
  induction l with
  | nil => intro b; rfl
  | cons x r ih =>
    intro b
    rw [minF_cons, ih]
    show _ = minL (if prefI x.1 b.1 < 0 then x.1 else b.1) _
    by_cases h : prefI x.1 b.1 < 0
    · rw [if_pos h, if_pos h]
    · rw [if_neg h, if_neg h]
def bestL : List Lease → Option Lease
  | [] => none
  | x :: r => some (minL x r)
/-- the lease that bears a use -/
def useS (l : List Lease) (now : Int) (path : List UInt8) (md : Int) : Option Lease × Int :=
  if pathOk path = false then (none, 10) else if ¬ modeOk md then (none, 11)
  else match bestL (l.filter fun x => bearsB x now path md) with | some x => (some x, 0) | none => (none, 62)
def UsedL (w : World) (o : Option Lease × Int) (e : Ending) (w' : World) : Prop :=
  ∃ v f, e = .returned (.tuple #[aggL (o.1.getD Lease.zero) v, .int .i64 o.2]) ∧ LsV w' f (o.1.getD Lease.zero, v) ∧ (∀ k, k ∈ f → w.heap.size ≤ k ∧ k < w'.heap.size) ∧ Mod [] w w'
theorem rd_nil (w : World) : LsV w [] (Lease.zero, .slice none 0 0) := ⟨World.ownsRow_nil _ _ _ _, by simp [ob, Value.ownBlock]⟩
abbrev objI (n : Int) : Obj := .cells #[.int .i64 n] 3 (0, 0)
abbrev objM (n : Int) : Obj := .cells #[.int .i64 n] 33 (0, 0)
abbrev objT (s : ByteArray) : Obj := .cells #[.string s] 9 (0, 0)
abbrev objZ : Obj := .cells #[.int .i64 0, .int .i64 0, .string { data := #[] }, .int .i64 0, .slice none 0 0, .int .i64 0, .int .i64 0, .int .i64 0, .bool false] 36 (0, 0)
/-- the boxes of Use -/
abbrev useW (w : World) (now : Int) (path : ByteArray) (md : Int) : World := (((w.alloc (objI now)).alloc (objT path)).alloc (objM md)).alloc objZ
theorem useW_gr (w : World) (now : Int) (path : ByteArray) (md : Int) : Gr w (useW w now path md) := ((((Gr.refl w).alloc _).alloc _).alloc _).alloc _
theorem useW_ret (w : World) (now : Int) (path : ByteArray) (md : Int) : (useW w now path md).heap[w.heap.size + 3]? = some objZ := by
  have := heap_alloc_new (((w.alloc (objI now)).alloc (objT path)).alloc (objM md)) objZ
  have e : (((w.alloc (objI now)).alloc (objT path)).alloc (objM md)).heap.size = w.heap.size + 3 := by simp
  rw [e] at this
  exact this
theorem useW_box (w : World) (now : Int) (path : ByteArray) (md : Int) : UBox (useW w now path md) w.heap.size (w.heap.size + 1) (w.heap.size + 2) now path md := by
  have a1 := blk_alloc (blk_alloc (blk_alloc (heap_alloc_new w (objI now)) (objT path)) (objM md)) objZ
  have a2 := blk_alloc (blk_alloc (heap_alloc_new (w.alloc (objI now)) (objT path)) (objM md)) objZ
  have a3 := blk_alloc (heap_alloc_new ((w.alloc (objI now)).alloc (objT path)) (objM md)) objZ
  have e2 : (w.alloc (objI now)).heap.size = w.heap.size + 1 := by simp
  have e3 : ((w.alloc (objI now)).alloc (objT path)).heap.size = w.heap.size + 2 := by simp
  rw [e2] at a2
  rw [e3] at a3
  exact ⟨blk_cell a1 0, blk_cell a2 0, blk_cell a3 0⟩
set_option maxHeartbeats 400000 in
set_option maxRecDepth 100000 in
theorem huse_nil (now : Int) (path : ByteArray) (md : Int) (w : World) : Calls Tryz.prog 13 #[.pointer none, .int .i64 now, .string path, .int .i64 md] w fun e w' => UsedL w (none, 1) e w' := by
  have G := hide (useW_gr w now path md)
  have B := hide (useW_ret w now path md)
  go_enter Tryz.func13, Tryz.ntmps13
  go_wp2_with fail
  exact bodyPost_ret (v := .tuple #[aggL Lease.zero (.slice none 0 0), .int .i64 1]) (res_cell2 Tryz.results13 _ _ rfl B.out Tryz.isAgg36 Tryz.sizeOf36 rfl) rfl ⟨.slice none 0 0, [], rfl, rd_nil _, by simp, G.out.mod []⟩
set_option maxHeartbeats 2000000 in
set_option maxRecDepth 100000 in
theorem huse_any {w : World} {ph pm : Nat} {fs : List Nat} {rho : Int} {l : List Lease} (h : Hd w ph pm fs rho l) (now : Int) (path : ByteArray) (md : Int) (hq : path.size ≤ 9223372036854775807) :
    Calls Tryz.prog 13 #[.pointer (some ⟨ph, 0, none⟩), .int .i64 now, .string path, .int .i64 md] w fun e w' => UsedL w (useS l now path.data.toList md) e w' := by
  have G := hide (useW_gr w now path md)
  have B := hide (useW_ret w now path md)
  have h1 := h.gr (useW_gr w now path md)
  have hlt := h.lt
  cases hp : pathOk path.data.toList
  · have e0 : useS l now path.data.toList md = (none, 10) := by unfold useS; rw [if_pos hp]
    rw [e0]
    have HP := hide hp
    clear e0 hp h h1
    go_enter Tryz.func13, Tryz.ntmps13
    go_wp2_with fail
    refine (pvalid_any path hq _).mono ?_
    rintro e w' ⟨rfl, rfl⟩
    rw [HP.out]
    clear HP
    go_wp2_with fail
    exact bodyPost_ret (v := .tuple #[aggL Lease.zero (.slice none 0 0), .int .i64 10]) (res_cell2 Tryz.results13 _ _ rfl B.out Tryz.isAgg36 Tryz.sizeOf36 rfl) rfl ⟨.slice none 0 0, [], rfl, rd_nil _, by simp, G.out.mod []⟩
  · have HP := hide hp
    by_cases hm : modeOk md
    · have e0 : useS l now path.data.toList md = match bestL (l.filter fun x => bearsB x now path.data.toList md) with | some x => (some x, 0) | none => (none, 62) := by
        unfold useS
        rw [if_neg (by rw [hp]; decide), if_neg (fun x => x hm)]
      have E0 := hide e0
      clear e0 hp h
      rcases hm with rfl | rfl
      · go_enter Tryz.func13, Tryz.ntmps13
        go_wp2_with fail
        refine (pvalid_any path hq _).mono ?_
        rintro e w' ⟨rfl, rfl⟩
        rw [HP.out]
        clear HP
        go_wp2_with fail
        refine (hlist_any h1).mono ?_
        rintro e w2 ⟨v, sl, f, rfl, hrow, hsl, hls, hf, hm2⟩
        have hW0 : (useW w now path 1).heap.size = w.heap.size + 4 := by simp
        have hUB := (useW_box w now path 1).mod hm2 (by simp) (by simp) (by simp)
        have hrb := hm2.at_ B.out (by simp)
        have hm02 := (G.out.mod []).then hm2
        rw [hW0] at hrow hf
        have hszW := hm2.size
        rw [hW0] at hszW
        have hsm := h1.small
        have hsllen : sl.length ≤ 8 := by have e : sl.length = l.length := by rw [← hsl]; simp
                                          omega
        have hpth : ∀ s, s ∈ sl → s.1.path.size ≤ 27 := fun s hs => okL_path (h1.ok s.1 (by rw [← hsl]; exact List.mem_map.2 ⟨s, hs, rfl⟩))
        have hfl : (sl.filter (kpS now path.data.toList 1)).map Prod.fst = l.filter fun x => bearsB x now path.data.toList 1 := by
          rw [← hsl, List.filter_map]
          rfl
        clear hm2 h1 hW0
        rcases hrow.2 with ⟨rfl, hn0⟩ | ⟨g, cap, cur, rfl, hgb, hg, hh1, hh2, _⟩
        · have hsl0 : sl = [] := List.length_eq_zero_iff.1 hn0
          have e1 : useS l now path.data.toList 1 = (none, 62) := by
            rw [E0.out, ← hfl, hsl0]
            rfl
          have E1 := hide e1
          have HR := hide (And.intro hrb hm02)
          have hC := blk_cell hrb
          have hF := blk_free hrb
          have hlr := lt_of_block hrb
          clear e1 E0 hrow hsl hls hf hUB hrb hm02 hsllen hpth hfl hsl0 hn0 G B
          go_wp2_with fail
          refine (udelete_none none 0 _ _).mono ?_
          rintro e w3 ⟨rfl, rfl⟩
          go_wp2_with fail
          obtain ⟨hrb, hm02⟩ := HR.out
          have q := st9_heap hrb rfl (.int .i64 0) (.int .i64 0) (.string { data := #[] }) (.int .i64 0) (.slice none 0 0) (.int .i64 0) (.int .i64 0) (.int .i64 0) (.bool false)
          have qm := st9_mod w3 w3 (Mod.refl [w.heap.size + 3] w3) (w.heap.size + 3) (fun _ => by simp) (.int .i64 0) (.int .i64 0) (.string { data := #[] }) (.int .i64 0) (.slice none 0 0) (.int .i64 0) (.int .i64 0) (.int .i64 0) (.bool false)
          refine bodyPost_ret (v := .tuple #[aggL Lease.zero (.slice none 0 0), .int .i64 62]) (res_cell2 Tryz.results13 _ _ rfl q Tryz.isAgg36 Tryz.sizeOf36 rfl) rfl ?_
          rw [E1.out]
          exact ⟨.slice none 0 0, [], rfl, rd_nil _, by simp, hm02.trans qm (by simp) (fun x hx hlt => by simp at hx; omega)⟩
        · have hRS := RowS.of hrow rfl
          have hgl := lt_of_block hg
          have hgf : g ∉ f := fun x => (hf g x).2.2 (by simp [ob, Value.ownBlock])
          have HR := hide (And.intro hrb (And.intro hm02 (And.intro hls (And.intro hf hfl))))
          have hsp : ∀ s, s ∈ sl → LsV w2 f (pr s) ∧ s.1.path.size ≤ 27 := fun s hs => ⟨hls s hs, hpth s hs⟩
          clear hrow hsl hls hf hrb hm02 hpth hfl G B hg
          go_wp2_with fail
          refine (udelete_any hUB hq hRS (by omega) hh1 hsp ⟨hgf, by omega, by omega, by omega⟩).mono ?_
          rintro e w3 ⟨rfl, hRS3, hm3⟩
          obtain ⟨hrb, hm02, hls, hf, hfl⟩ := HR.out
          have hrb3 := hm3.at_ hrb (by simp; omega)
          have hm03 := hm02.trans hm3 (U := []) (by simp) (fun x hx hlt => by simp at hx; omega)
          have hls3 : ∀ s, s ∈ sl.filter (kpS now path.data.toList 1) → LsV w3 f (pr s) := fun s hs => (hls s (List.mem_filter.1 hs).1).mod hm3 (fun k hk e => by simp at e; exact hgf (e ▸ hk))
          have hle : (sl.filter (kpS now path.data.toList 1)).length ≤ sl.length := List.length_filter_le _ _
          have hlr3 := lt_of_block hrb3
          generalize sl.filter (kpS now path.data.toList 1) = d at hRS3 hls3 hle hfl ⊢
          have hm3s := hm3.size
          clear hrb hm02 hls hRS hUB hm3 hsp HR
          cases d with
          | nil =>
            have e1 : useS l now path.data.toList 1 = (none, 62) := by
              rw [E0.out, ← hfl]
              rfl
            have E1 := hide e1
            have HR := hide (And.intro hrb3 hm03)
            have hC := blk_cell hrb3
            have hF := blk_free hrb3
            simp only [List.length_nil]
            clear e1 E0 hrb3 hm03 hls3 hRS3 hfl hf
            go_wp2_with fail
            obtain ⟨hrb, hm02⟩ := HR.out
            have q := st9_heap hrb rfl (.int .i64 0) (.int .i64 0) (.string { data := #[] }) (.int .i64 0) (.slice none 0 0) (.int .i64 0) (.int .i64 0) (.int .i64 0) (.bool false)
            have qm := st9_mod w3 w3 (Mod.refl [w.heap.size + 3] w3) (w.heap.size + 3) (fun _ => by simp) (.int .i64 0) (.int .i64 0) (.string { data := #[] }) (.int .i64 0) (.slice none 0 0) (.int .i64 0) (.int .i64 0) (.int .i64 0) (.bool false)
            refine bodyPost_ret (v := .tuple #[aggL Lease.zero (.slice none 0 0), .int .i64 62]) (res_cell2 Tryz.results13 _ _ rfl q Tryz.isAgg36 Tryz.sizeOf36 rfl) rfl ?_
            rw [E1.out]
            exact ⟨.slice none 0 0, [], rfl, rd_nil _, by simp, hm02.trans qm (by simp) (fun x hx hlt => by simp at hx; omega)⟩
          | cons x0 d0 =>
            have hmn : minF x0 d0 ∈ x0 :: d0 := by
              rcases minF_mem d0 x0 with e | e
              · rw [e]; exact List.mem_cons_self
              · exact List.mem_cons_of_mem _ e
            have e1 : useS l now path.data.toList 1 = (some (minF x0 d0).1, 0) := by
              rw [E0.out, ← hfl]
              show (match bestL (x0.1 :: d0.map Prod.fst) with | some x => (some x, (0 : Int)) | none => (none, 62)) = _
              rw [minF_L]
              rfl
            have E1 := hide e1
            have hb0 : (((x0 :: d0).length : Int) == 0) = false := by rw [beq_eq_false_iff_ne]; simp; omega
            have hlsm := hls3 _ hmn
            have HR := hide (And.intro hrb3 (And.intro hm03 (And.intro hlsm hf)))
            have hmi := umin_any (cap := cap) hRS3 (by omega) (by simp) hls3
            change Calls _ _ _ _ (fun e w' => e = .returned (aggL (minF x0 d0).1 (pr (minF x0 d0)).2) ∧ Mod [] w3 w') at hmi
            clear e1 E0 hrb3 hm03 hls3 hRS3 hfl hf hmn hlsm
            generalize hlen : (x0 :: d0).length = N at hb0 hmi hle ⊢
            clear hlen
            go_wp2_with fail
            refine hmi.mono ?_
            rintro e w4 ⟨rfl, hm4⟩
            obtain ⟨hrb3, hm03, hlsm, hf⟩ := HR.out
            have hrb4 := hm4.at_ hrb3 (by simp)
            have hls4 := hlsm.mod hm4 (by simp)
            have hm04 := hm03.then hm4
            have hC := blk_cell hrb4
            have hF := blk_free hrb4
            have hlr4 := lt_of_block hrb4
            have hm4s := hm4.size
            generalize minF x0 d0 = s at E1 hls4 ⊢
            obtain ⟨⟨xf, xi, xp, xm, xa, xt, xs, xe, xr⟩, xq, xc⟩ := s
            simp only [pr, aggL, cellsL]
            have HR4 := hide (And.intro hrb4 (And.intro hls4 (And.intro hm04 hf)))
            clear HR hmi hrb3 hm03 hlsm hf hrb4 hls4 hm04 hm4
            go_wp2_with fail
            obtain ⟨hrb4, hls4, hm04, hf⟩ := HR4.out
            have q := st9_heap hrb4 rfl (.int .i64 xf) (.int .i64 xi) (.string xp) (.int .i64 xm) (.slice xq xa.length xc) (.int .i64 xt) (.int .i64 xs) (.int .i64 xe) (.bool xr)
            have qm := st9_mod w4 w4 (Mod.refl [w.heap.size + 3] w4) (w.heap.size + 3) (fun _ => by simp) (.int .i64 xf) (.int .i64 xi) (.string xp) (.int .i64 xm) (.slice xq xa.length xc) (.int .i64 xt) (.int .i64 xs) (.int .i64 xe) (.bool xr)
            have hsz := qm.size
            refine bodyPost_ret (v := .tuple #[aggL ⟨xf, xi, xp, xm, xa, xt, xs, xe, xr⟩ (.slice xq xa.length xc), .int .i64 0]) (res_cell2 Tryz.results13 _ _ rfl q Tryz.isAgg36 Tryz.sizeOf36 rfl) rfl ?_
            rw [E1.out]
            exact ⟨.slice xq xa.length xc, f, rfl, hls4.mod qm (fun k hk e => by have := hf k hk; simp at e; omega), fun k hk => ⟨by have := hf k hk; omega, Nat.lt_of_lt_of_le (show k < w4.heap.size by have := hf k hk; omega) hsz⟩, hm04.trans qm (by simp) (fun x hx hlt => by simp at hx; omega)⟩
      · go_enter Tryz.func13, Tryz.ntmps13
        go_wp2_with fail
        refine (pvalid_any path hq _).mono ?_
        rintro e w' ⟨rfl, rfl⟩
        rw [HP.out]
        clear HP
        go_wp2_with fail
        refine (hlist_any h1).mono ?_
        rintro e w2 ⟨v, sl, f, rfl, hrow, hsl, hls, hf, hm2⟩
        have hW0 : (useW w now path 2).heap.size = w.heap.size + 4 := by simp
        have hUB := (useW_box w now path 2).mod hm2 (by simp) (by simp) (by simp)
        have hrb := hm2.at_ B.out (by simp)
        have hm02 := (G.out.mod []).then hm2
        rw [hW0] at hrow hf
        have hszW := hm2.size
        rw [hW0] at hszW
        have hsm := h1.small
        have hsllen : sl.length ≤ 8 := by have e : sl.length = l.length := by rw [← hsl]; simp
                                          omega
        have hpth : ∀ s, s ∈ sl → s.1.path.size ≤ 27 := fun s hs => okL_path (h1.ok s.1 (by rw [← hsl]; exact List.mem_map.2 ⟨s, hs, rfl⟩))
        have hfl : (sl.filter (kpS now path.data.toList 2)).map Prod.fst = l.filter fun x => bearsB x now path.data.toList 2 := by
          rw [← hsl, List.filter_map]
          rfl
        clear hm2 h1 hW0
        rcases hrow.2 with ⟨rfl, hn0⟩ | ⟨g, cap, cur, rfl, hgb, hg, hh1, hh2, _⟩
        · have hsl0 : sl = [] := List.length_eq_zero_iff.1 hn0
          have e1 : useS l now path.data.toList 2 = (none, 62) := by
            rw [E0.out, ← hfl, hsl0]
            rfl
          have E1 := hide e1
          have HR := hide (And.intro hrb hm02)
          have hC := blk_cell hrb
          have hF := blk_free hrb
          have hlr := lt_of_block hrb
          clear e1 E0 hrow hsl hls hf hUB hrb hm02 hsllen hpth hfl hsl0 hn0 G B
          go_wp2_with fail
          refine (udelete_none none 0 _ _).mono ?_
          rintro e w3 ⟨rfl, rfl⟩
          go_wp2_with fail
          obtain ⟨hrb, hm02⟩ := HR.out
          have q := st9_heap hrb rfl (.int .i64 0) (.int .i64 0) (.string { data := #[] }) (.int .i64 0) (.slice none 0 0) (.int .i64 0) (.int .i64 0) (.int .i64 0) (.bool false)
          have qm := st9_mod w3 w3 (Mod.refl [w.heap.size + 3] w3) (w.heap.size + 3) (fun _ => by simp) (.int .i64 0) (.int .i64 0) (.string { data := #[] }) (.int .i64 0) (.slice none 0 0) (.int .i64 0) (.int .i64 0) (.int .i64 0) (.bool false)
          refine bodyPost_ret (v := .tuple #[aggL Lease.zero (.slice none 0 0), .int .i64 62]) (res_cell2 Tryz.results13 _ _ rfl q Tryz.isAgg36 Tryz.sizeOf36 rfl) rfl ?_
          rw [E1.out]
          exact ⟨.slice none 0 0, [], rfl, rd_nil _, by simp, hm02.trans qm (by simp) (fun x hx hlt => by simp at hx; omega)⟩
        · have hRS := RowS.of hrow rfl
          have hgl := lt_of_block hg
          have hgf : g ∉ f := fun x => (hf g x).2.2 (by simp [ob, Value.ownBlock])
          have HR := hide (And.intro hrb (And.intro hm02 (And.intro hls (And.intro hf hfl))))
          have hsp : ∀ s, s ∈ sl → LsV w2 f (pr s) ∧ s.1.path.size ≤ 27 := fun s hs => ⟨hls s hs, hpth s hs⟩
          clear hrow hsl hls hf hrb hm02 hpth hfl G B hg
          go_wp2_with fail
          refine (udelete_any hUB hq hRS (by omega) hh1 hsp ⟨hgf, by omega, by omega, by omega⟩).mono ?_
          rintro e w3 ⟨rfl, hRS3, hm3⟩
          obtain ⟨hrb, hm02, hls, hf, hfl⟩ := HR.out
          have hrb3 := hm3.at_ hrb (by simp; omega)
          have hm03 := hm02.trans hm3 (U := []) (by simp) (fun x hx hlt => by simp at hx; omega)
          have hls3 : ∀ s, s ∈ sl.filter (kpS now path.data.toList 2) → LsV w3 f (pr s) := fun s hs => (hls s (List.mem_filter.1 hs).1).mod hm3 (fun k hk e => by simp at e; exact hgf (e ▸ hk))
          have hle : (sl.filter (kpS now path.data.toList 2)).length ≤ sl.length := List.length_filter_le _ _
          have hlr3 := lt_of_block hrb3
          generalize sl.filter (kpS now path.data.toList 2) = d at hRS3 hls3 hle hfl ⊢
          have hm3s := hm3.size
          clear hrb hm02 hls hRS hUB hm3 hsp HR
          cases d with
          | nil =>
            have e1 : useS l now path.data.toList 2 = (none, 62) := by
              rw [E0.out, ← hfl]
              rfl
            have E1 := hide e1
            have HR := hide (And.intro hrb3 hm03)
            have hC := blk_cell hrb3
            have hF := blk_free hrb3
            simp only [List.length_nil]
            clear e1 E0 hrb3 hm03 hls3 hRS3 hfl hf
            go_wp2_with fail
            obtain ⟨hrb, hm02⟩ := HR.out
            have q := st9_heap hrb rfl (.int .i64 0) (.int .i64 0) (.string { data := #[] }) (.int .i64 0) (.slice none 0 0) (.int .i64 0) (.int .i64 0) (.int .i64 0) (.bool false)
            have qm := st9_mod w3 w3 (Mod.refl [w.heap.size + 3] w3) (w.heap.size + 3) (fun _ => by simp) (.int .i64 0) (.int .i64 0) (.string { data := #[] }) (.int .i64 0) (.slice none 0 0) (.int .i64 0) (.int .i64 0) (.int .i64 0) (.bool false)
            refine bodyPost_ret (v := .tuple #[aggL Lease.zero (.slice none 0 0), .int .i64 62]) (res_cell2 Tryz.results13 _ _ rfl q Tryz.isAgg36 Tryz.sizeOf36 rfl) rfl ?_
            rw [E1.out]
            exact ⟨.slice none 0 0, [], rfl, rd_nil _, by simp, hm02.trans qm (by simp) (fun x hx hlt => by simp at hx; omega)⟩
          | cons x0 d0 =>
            have hmn : minF x0 d0 ∈ x0 :: d0 := by
              rcases minF_mem d0 x0 with e | e
              · rw [e]; exact List.mem_cons_self
              · exact List.mem_cons_of_mem _ e
            have e1 : useS l now path.data.toList 2 = (some (minF x0 d0).1, 0) := by
              rw [E0.out, ← hfl]
              show (match bestL (x0.1 :: d0.map Prod.fst) with | some x => (some x, (0 : Int)) | none => (none, 62)) = _
              rw [minF_L]
              rfl
            have E1 := hide e1
            have hb0 : (((x0 :: d0).length : Int) == 0) = false := by rw [beq_eq_false_iff_ne]; simp; omega
            have hlsm := hls3 _ hmn
            have HR := hide (And.intro hrb3 (And.intro hm03 (And.intro hlsm hf)))
            have hmi := umin_any (cap := cap) hRS3 (by omega) (by simp) hls3
            change Calls _ _ _ _ (fun e w' => e = .returned (aggL (minF x0 d0).1 (pr (minF x0 d0)).2) ∧ Mod [] w3 w') at hmi
            clear e1 E0 hrb3 hm03 hls3 hRS3 hfl hf hmn hlsm
            generalize hlen : (x0 :: d0).length = N at hb0 hmi hle ⊢
            clear hlen
            go_wp2_with fail
            refine hmi.mono ?_
            rintro e w4 ⟨rfl, hm4⟩
            obtain ⟨hrb3, hm03, hlsm, hf⟩ := HR.out
            have hrb4 := hm4.at_ hrb3 (by simp)
            have hls4 := hlsm.mod hm4 (by simp)
            have hm04 := hm03.then hm4
            have hC := blk_cell hrb4
            have hF := blk_free hrb4
            have hlr4 := lt_of_block hrb4
            have hm4s := hm4.size
            generalize minF x0 d0 = s at E1 hls4 ⊢
            obtain ⟨⟨xf, xi, xp, xm, xa, xt, xs, xe, xr⟩, xq, xc⟩ := s
            simp only [pr, aggL, cellsL]
            have HR4 := hide (And.intro hrb4 (And.intro hls4 (And.intro hm04 hf)))
            clear HR hmi hrb3 hm03 hlsm hf hrb4 hls4 hm04 hm4
            go_wp2_with fail
            obtain ⟨hrb4, hls4, hm04, hf⟩ := HR4.out
            have q := st9_heap hrb4 rfl (.int .i64 xf) (.int .i64 xi) (.string xp) (.int .i64 xm) (.slice xq xa.length xc) (.int .i64 xt) (.int .i64 xs) (.int .i64 xe) (.bool xr)
            have qm := st9_mod w4 w4 (Mod.refl [w.heap.size + 3] w4) (w.heap.size + 3) (fun _ => by simp) (.int .i64 xf) (.int .i64 xi) (.string xp) (.int .i64 xm) (.slice xq xa.length xc) (.int .i64 xt) (.int .i64 xs) (.int .i64 xe) (.bool xr)
            have hsz := qm.size
            refine bodyPost_ret (v := .tuple #[aggL ⟨xf, xi, xp, xm, xa, xt, xs, xe, xr⟩ (.slice xq xa.length xc), .int .i64 0]) (res_cell2 Tryz.results13 _ _ rfl q Tryz.isAgg36 Tryz.sizeOf36 rfl) rfl ?_
            rw [E1.out]
            exact ⟨.slice xq xa.length xc, f, rfl, hls4.mod qm (fun k hk e => by have := hf k hk; simp at e; omega), fun k hk => ⟨by have := hf k hk; omega, Nat.lt_of_lt_of_le (show k < w4.heap.size by have := hf k hk; omega) hsz⟩, hm04.trans qm (by simp) (fun x hx hlt => by simp at hx; omega)⟩
    · have e0 : useS l now path.data.toList md = (none, 11) := by unfold useS; rw [if_neg (by rw [hp]; decide), if_pos hm]
      rw [e0]
      have b1 : (md != 1) = true := by simp; exact fun x => hm (.inl x)
      have b2 : (md != 2) = true := by simp; exact fun x => hm (.inr x)
      clear e0 hp h h1 hm
      go_enter Tryz.func13, Tryz.ntmps13
      go_wp2_with fail
      refine (pvalid_any path hq _).mono ?_
      rintro e w' ⟨rfl, rfl⟩
      rw [HP.out]
      clear HP
      go_wp2_with fail
      exact bodyPost_ret (v := .tuple #[aggL Lease.zero (.slice none 0 0), .int .i64 11]) (res_cell2 Tryz.results13 _ _ rfl B.out Tryz.isAgg36 Tryz.sizeOf36 rfl) rfl ⟨.slice none 0 0, [], rfl, rd_nil _, by simp, G.out.mod []⟩
end Go.Proofs.YtifllaeldcimgaaGreat
