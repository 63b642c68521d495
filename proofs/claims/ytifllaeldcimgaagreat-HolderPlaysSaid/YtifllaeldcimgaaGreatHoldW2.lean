/-
  WALKS: layer 17: New, Get.
-/
import Derived.Test.YtifllaeldcimgaaGreatHoldLaw
namespace Go.Proofs.YtifllaeldcimgaaGreat
open Go.RowKit

theorem hnew_bad (rho : Int) (h : ¬ (0 ≤ rho ∧ rho ≤ 999)) (w : World) : Calls Tryz.prog 5 #[.int .i64 rho] w fun e w' => e = .returned (.tuple #[.pointer none, .int .i64 2]) ∧ w' = w := by
  by_cases h1 : rho < 0
  · go_enter Tryz.func5, Tryz.ntmps5
    go_wp2
    go_ret2
    exact ⟨rfl, rfl⟩
  · have h2 : 999 < rho := by omega
    go_enter Tryz.func5, Tryz.ntmps5
    go_wp2
    go_ret2
    exact ⟨rfl, rfl⟩
theorem hnew_ok (rho : Int) (h : 0 ≤ rho ∧ rho ≤ 999) (w : World) : Calls Tryz.prog 5 #[.int .i64 rho] w fun e w' => e = .returned (.tuple #[.pointer (some ⟨w.heap.size + 1, 0, none⟩), .int .i64 0]) ∧ Hd w' (w.heap.size + 1) w.heap.size [] rho [] ∧ Gr w w' := by
  have hmm := @run_makeMap Tryz.prog
  obtain ⟨h1, h2⟩ := h
  go_enter Tryz.func5, Tryz.ntmps5
  go_wp2
  go_ret2
  have m0 : MapL nameT (w.alloc (.map #[] 0)) w.heap.size [] := MapL.made w
  have hb := heap_alloc_new (w.alloc (.map #[] 0)) (.cells #[.int .i64 rho, .map (some w.heap.size)] 64)
  have e : (w.alloc (.map #[] 0)).heap.size = w.heap.size + 1 := by simp
  rw [e] at hb
  exact ⟨rfl, ⟨⟨[], m0.mod (((Gr.refl _).alloc _).mod []) (by simp), .refl _, by simp⟩, hb, by simp, by simp, List.Pairwise.nil, by simp, ⟨h1, h2⟩, by simp⟩, ((Gr.refl w).alloc _).alloc _⟩

/-- the answer of Get: a lease whose stamp is a new row, or none -/
def GotL (w : World) (o : Option Lease) (e : Ending) (w' : World) : Prop :=
  ∃ v, e = .returned (.tuple #[aggL (o.getD Lease.zero) v, .bool o.isSome]) ∧ w'.ownsRow w.heap.size 3 1 v (o.getD Lease.zero).stamp.length ((o.getD Lease.zero).stamp.map (Value.int .i64)) ∧ Mod [] w w'
def boxL0 : Obj := .cells #[.int .i64 0, .int .i64 0, .string { data := #[] }, .int .i64 0, .slice none 0 0, .int .i64 0, .int .i64 0, .int .i64 0, .bool false] 36 (0, 0)
set_option maxRecDepth 100000 in
theorem hget_nil (f i : Int) (w : World) : Calls Tryz.prog 18 #[.pointer none, .int .i64 f, .int .i64 i] w fun e w' => GotL w none e w' := by
  go_enter Tryz.func18, Tryz.ntmps18
  go_wp2_with fail
  have q := heap_alloc_new w boxL0
  unfold boxL0 at q
  refine bodyPost_ret (v := .tuple #[aggL Lease.zero (.slice none 0 0), .bool false]) (res_cell2 Tryz.results18 _ _ rfl q Tryz.isAgg36 Tryz.sizeOf36 rfl) rfl ⟨.slice none 0 0, rfl, World.ownsRow_nil _ _ _ _, ((Gr.refl w).alloc _).mod []⟩
theorem zero_lease (w : World) : (zeroValue 36).run Tryz.prog w = .ok (aggL Lease.zero (.slice none 0 0)) w := by kernel_rfl
/-- what a look-up in the holder's map gives -/
theorem look_lease {w : World} {ph pm : Nat} {fs : List Nat} {rho : Int} {l : List Lease} (h : Hd w ph pm fs rho l) (k : Key) :
    ∃ (lv : List (Lease × Value)) (f i : Int) (p : ByteArray) (m : Int) (v : Value) (a : List Int) (t s e : Int) (r b : Bool), MapL nameT w pm (lv.map ent) ∧ LsV w fs (⟨f, i, p, m, a, t, s, e, r⟩, v) ∧ a.length ≤ 4 ∧ p.size ≤ 27 ∧ (getL l k).getD Lease.zero = ⟨f, i, p, m, a, t, s, e, r⟩ ∧ (getL l k).isSome = b ∧
      lookV true (aggL Lease.zero (.slice none 0 0)) (getM (lv.map ent) k) =
        .tuple #[.agg #[.int .i64 f, .int .i64 i, .string p, .int .i64 m, v, .int .i64 t, .int .i64 s, .int .i64 e, .bool r], .bool b] := by
  obtain ⟨lv, hm, hp, hr⟩ := h.rep
  rcases getM_ent hp hm k with ⟨e1, e2⟩ | ⟨⟨⟨xf, xi, xp, xm, xa, xt, xs, xe, xr⟩, v⟩, hpm, e1, e2, ek⟩
  · refine ⟨lv, 0, 0, ByteArray.empty, 0, .slice none 0 0, [], 0, 0, 0, false, false, hm, ⟨World.ownsRow_nil _ _ _ _, by simp [ob, Value.ownBlock]⟩, by simp, by decide, by rw [e2]; rfl, by rw [e2]; rfl, ?_⟩
    rw [e1]; rfl
  · have hx := h.ok _ (getL_some e2).1
    refine ⟨lv, xf, xi, xp, xm, v, xa, xt, xs, xe, xr, true, hm, hr _ hpm, okL_stamp hx, okL_path hx, by rw [e2]; rfl, by rw [e2]; rfl, ?_⟩
    rw [e1]; rfl
set_option maxHeartbeats 400000 in
set_option maxRecDepth 100000 in
theorem hget_any {w : World} {ph pm : Nat} {fs : List Nat} {rho : Int} {l : List Lease} (h : Hd w ph pm fs rho l) (f i : Int) (hf : i64w f) (hi : i64w i) :
    Calls Tryz.prog 18 #[.pointer (some ⟨ph, 0, none⟩), .int .i64 f, .int .i64 i] w fun e w' => GotL w (getL l (f, i)) e w' := by
  have hok : nameT.ok (f, i) := ⟨hf, hi⟩
  have hc := h.cell1
  have hlt := h.lt.1
  obtain ⟨lv, xf, xi, xp, xm, v, xa, xt, xs, xe, xr, b, hm, hv, ha, _, e1, e2, e3⟩ := look_lease h (f, i)
  obtain ⟨q0, c0, hv0⟩ := hv.rd.len
  simp only at hv0
  subst hv0
  have hm1 := hm.mod (((Gr.refl w).alloc boxL0).mod []) (by simp)
  have hv1 := (hv.mod ((((Gr.refl w).alloc boxL0).alloc (.cells #[.int .i64 xf, .int .i64 xi, .string xp, .int .i64 xm, .slice q0 xa.length c0, .int .i64 xt, .int .i64 xs, .int .i64 xe, .bool xr] 36)).mod []) (by simp)).rd
  have B1 := hide (heap_alloc_new w boxL0)
  unfold boxL0 at hm1 B1 hv1
  have E1 := hide e1
  have E2 := hide e2
  have E3 := hide e3
  clear e1 e2 e3 hm h hf hi hv
  go_enter Tryz.func18, Tryz.ntmps18
  go_wp2_with (
    at_lookup
    refine wpList_look_L (T := nameT) _ rfl _ _ true rfl Tryz.underlying62 (zero_lease _) rfl hm1 hok rfl ?_
    rw [E3.out]
    clear hm1 E3)
  refine (twin_any hv1 (by omega) _ _ _ _ _ _ _ _).mono ?_
  rintro e w3 ⟨v', rfl, hr3, hm3⟩
  have m2 := (((Gr.refl w).alloc boxL0).alloc (.cells #[.int .i64 xf, .int .i64 xi, .string xp, .int .i64 xm, .slice q0 xa.length c0, .int .i64 xt, .int .i64 xs, .int .i64 xe, .bool xr] 36)).mod []
  have b3 := hm3.at_ (blk_alloc B1.out _) (by simp)
  have hm4 := m2.then hm3
  have hr4 := row_base hr3 m2.size
  have hob : ∀ k, k ∈ ob v' → w.heap.size < k := fun k hk => by have := (ob_row hr3 k hk).1; simp at this; omega
  have HO := hide hob
  obtain ⟨p', c', hv'⟩ := (RdN.of_row hr4).len
  subst hv'
  simp only [aggL, cellsL]
  have C3 := blk_cell b3
  have F3 := blk_free b3
  have hlt3 := lt_of_block b3
  clear hob hr3 hm3 m2 B1 hv1
  go_wp2_with fail
  have q := st9_heap b3 rfl (.int .i64 xf) (.int .i64 xi) (.string xp) (.int .i64 xm) (.slice p' xa.length c') (.int .i64 xt) (.int .i64 xs) (.int .i64 xe) (.bool xr)
  have qm := st9_mod w3 w3 (Mod.refl [w.heap.size] w3) w.heap.size (fun _ => by simp) (.int .i64 xf) (.int .i64 xi) (.string xp) (.int .i64 xm) (.slice p' xa.length c') (.int .i64 xt) (.int .i64 xs) (.int .i64 xe) (.bool xr)
  refine bodyPost_ret (v := .tuple #[aggL ⟨xf, xi, xp, xm, xa, xt, xs, xe, xr⟩ (.slice p' xa.length c'), .bool b]) (res_cell2 Tryz.results18 _ _ rfl q Tryz.isAgg36 Tryz.sizeOf36 rfl) rfl ⟨.slice p' xa.length c', by rw [E1.out, E2.out], ?_, hm4.trans qm (by simp) (fun x hx hlt => by simp at hx; omega)⟩
  rw [E1.out]
  exact qm.row hr4 (fun k hk => by have := HO.out k (by simpa [ob] using hk); simp; omega)
end Go.Proofs.YtifllaeldcimgaaGreat
