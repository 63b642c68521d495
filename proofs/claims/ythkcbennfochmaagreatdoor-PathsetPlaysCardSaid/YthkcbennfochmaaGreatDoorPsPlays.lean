/-
  THE LAW PathsetPlays: its arguments opened, its walk.
-/
import Derived.Test.YthkcbennfochmaaGreatDoorPsPlay2
import Derived.Deep.Slices
import Derived.ChangeSlices
import Derived.Lib.SmallJoins
namespace Go.Proofs.YthkcbennfochmaaGreatDoor
open Go.ChangeShapes Go.WideShapes Go.ChangeAt Go.RowKit Go.Deep Go.Joins Go.Maps

/-- a call handed in -/
structure OpP where
  kind : Int
  e : Ent
instance : Inhabited OpP := ⟨⟨0, default⟩⟩
def inP (o : OpP) : Prop := (Lit.int .i64 o.e.id).wf = true ∧ o.e.path.size ≤ 9223372036854775806
theorem cells_opp : Tryz.prog.cellsOf 31 = 5 := by kernel_rfl
theorem opp_fields : ∃ f0 f1, Tryz.prog.underlying 31 = some (.struct #[f0, f1]) ∧ (f0.type = 3 ∧ f0.offset = 0) ∧ (f1.type = 29 ∧ f1.offset = 1) := ⟨_, _, Tryz.underlying31, ⟨rfl, rfl⟩, ⟨rfl, rfl⟩⟩
set_option maxRecDepth 100000 in
theorem trod_entW {H : Type} {enc : TypeId × Value → H} {W : World} {base : Nat} {spare : Nat → Bool} {held : Bool} {fuel : Nat} {cs : List Value} {x : DataW H × List MemPlace}
    (h : DataW.trod enc Tryz.prog W base spare held fuel 29 cs = some x) (hw : ∀ n, n ∈ x.1.weights Tryz.prog 29 → n ≤ reachBytes) : ∃ y : Ent, cs = [.int .i64 y.id, .string y.path, .int .i64 y.mode, .int .i64 y.who] ∧ (Lit.int .i64 y.id).wf = true ∧ y.path.size ≤ 9223372036854775806 := by
  obtain ⟨f0, f1, f2, f3, hs, ⟨t0, o0⟩, ⟨t1, o1⟩, ⟨t2, o2⟩, ⟨t3, o3⟩⟩ := ent_fields
  obtain ⟨xs, n, _, rfl, hl, hxl, hf⟩ := DataW.trod_struct hs h
  rw [cells_ent] at hl
  match cs, hl, xs, hxl with
  | [v0, v1, v2, v3], _, [y0, y1, y2, y3], _ =>
    have g0 := hf 0 f0 rfl
    have g1 := hf 1 f1 rfl
    have g2 := hf 2 f2 rfl
    have g3 := hf 3 f3 rfl
    simp [t0, t1, t2, t3, o0, o1, o2, o3, cells_int, cells_str, cells_mode] at g0 g1 g2 g3
    obtain ⟨a0, ha0, _, w0⟩ := DataW.trod_int Tryz.underlying3 g0
    obtain ⟨a1, ha1, hx1, _⟩ := DataW.trod_string Tryz.underlying9 g1
    have hlen : a1.size ≤ reachBytes := by
      have := hw a1.data.toList.length (by
        simp only [DataW.weights, hs, List.map_cons, List.map_nil, DataW.weightsEach, List.mem_append]
        have e : y1.1 = .lit (.string a1.data.toList) := congrArg Prod.fst hx1
        rw [e, t1]
        exact .inr (.inl (by simp [DataW.weights])))
      simpa using this
    obtain ⟨a2, ha2, _⟩ := DataW.trod_int Tryz.underlying27 g2
    obtain ⟨a3, ha3, _⟩ := DataW.trod_int Tryz.underlying3 g3
    simp at ha0 ha1 ha2 ha3
    unfold reachBytes at hlen
    clear hx1
    exact ⟨⟨a0, a1, a2, a3⟩, by rw [ha0, ha1, ha2, ha3], w0, by show a1.size ≤ _; omega⟩
def oppCells (o : OpP) : List Value := [.int .i64 o.kind, .int .i64 o.e.id, .string o.e.path, .int .i64 o.e.mode, .int .i64 o.e.who]
set_option maxRecDepth 100000 in
theorem trod_opp {H : Type} {enc : TypeId × Value → H} {W : World} {base : Nat} {spare : Nat → Bool} {held : Bool} {fuel : Nat} {cs : List Value} {x : DataW H × List MemPlace}
    (h : DataW.trod enc Tryz.prog W base spare held fuel 31 cs = some x) (hw : ∀ n, n ∈ x.1.weights Tryz.prog 31 → n ≤ reachBytes) : ∃ o : OpP, cs = oppCells o ∧ inP o := by
  obtain ⟨f0, f1, hs, ⟨t0, o0⟩, ⟨t1, o1⟩⟩ := opp_fields
  obtain ⟨xs, n, _, rfl, hl, hxl, hf⟩ := DataW.trod_struct hs h
  rw [cells_opp] at hl
  match cs, hl, xs, hxl with
  | [v0, v1, v2, v3, v4], _, [y0, y1], _ =>
    have g0 := hf 0 f0 rfl
    have g1 := hf 1 f1 rfl
    simp [t0, t1, o0, o1, cells_int, cells_ent] at g0 g1
    obtain ⟨a0, ha0, _, w0⟩ := DataW.trod_int Tryz.underlying3 g0
    obtain ⟨y, hy, hi⟩ := trod_entW g1 (fun n hn => hw n (by
      simp only [DataW.weights, hs, List.map_cons, List.map_nil, DataW.weightsEach, t1, List.mem_append]
      exact .inr (.inl hn)))
    simp at ha0
    simp only [List.cons.injEq, and_true] at hy
    obtain ⟨e0, e1, e2, e3⟩ := hy
    exact ⟨⟨a0, y⟩, by rw [ha0, e0, e1, e2, e3]; rfl, hi⟩
/-- a slice of calls that reads as the list l -/
def RdP (w : World) (v : Value) (l : List OpP) : Prop :=
  l.length ≤ maxLen ∧ ((∃ p c, v = .slice p 0 c ∧ l = []) ∨ ∃ b off cap, v = .slice (some ⟨b, off, none⟩) l.length cap ∧ b < w.heap.size ∧
    ∀ i, i < l.length → (∀ j, j < 5 → w.cell? ⟨b, off + i * 5 + j, none⟩ = (oppCells (l.getD i default))[j]?) ∧ inP (l.getD i default))
theorem RdP.same {w w' : World} {v : Value} {l : List OpP} (h : RdP w v l) (m : Mod [] w w') : RdP w' v l := by
  refine ⟨h.1, h.2.imp id ?_⟩
  rintro ⟨b, off, cap, rfl, hb, hc⟩
  exact ⟨b, off, cap, rfl, Nat.lt_of_lt_of_le hb m.size, fun i hi => ⟨fun j hj => (m.cell (x := ⟨b, off + i * 5 + j, none⟩) hb (by simp)).trans ((hc i hi).1 j hj), (hc i hi).2⟩⟩
theorem RdP.len {w : World} {v : Value} {l : List OpP} (h : RdP w v l) : ∃ p c, v = .slice p l.length c := by
  rcases h.2 with ⟨p, c, rfl, rfl⟩ | ⟨b, off, cap, rfl, _⟩
  · exact ⟨p, c, rfl⟩
  · exact ⟨_, cap, rfl⟩
theorem RdP.at_ {w : World} {p : Option Addr} {n c : Nat} {l : List OpP} (h : RdP w (.slice p n c) l) {i : Nat} (hi : i < l.length) : ∃ b off, p = some ⟨b, off, none⟩ ∧ b < w.heap.size ∧ w.cell? ⟨b, off + i * 5, none⟩ = some (.int .i64 (l.getD i default).kind) ∧ w.cell? ⟨b, off + i * 5 + 1, none⟩ = some (.int .i64 (l.getD i default).e.id) ∧
    w.cell? ⟨b, off + i * 5 + 2, none⟩ = some (.string (l.getD i default).e.path) ∧ w.cell? ⟨b, off + i * 5 + 3, none⟩ = some (.int .i64 (l.getD i default).e.mode) ∧ w.cell? ⟨b, off + i * 5 + 4, none⟩ = some (.int .i64 (l.getD i default).e.who) ∧ inP (l.getD i default) := by
  rcases h.2 with ⟨_, c, _, rfl⟩ | ⟨b, off, cap, hv, hb, hc⟩
  · simp at hi
  · simp only [Value.slice.injEq] at hv
    obtain ⟨h1, h2⟩ := hc i hi
    exact ⟨b, off, hv.1, hb, h1 0 (by omega), h1 1 (by omega), h1 2 (by omega), h1 3 (by omega), h1 4 (by omega), h2⟩
theorem weightsAll_mem {H : Type} {P : Program} {e : TypeId} {d : DataW H} {l : List (DataW H)} (hd : d ∈ l) {n : Nat} (hn : n ∈ d.weights P e) : n ∈ DataW.weightsAll P e l := by
  induction l with
  | nil => cases hd
  | cons x r ih =>
    simp only [DataW.weightsAll, List.mem_append]
    rcases List.mem_cons.1 hd with e | e
    · subst e; exact .inl hn
    · exact .inr (ih e)
theorem weights_cons {H : Type} {P : Program} {t : TypeId} {ts : List TypeId} {d : DataW H} {ds : List (DataW H)} (h : (DataW.weightsEach P (t :: ts) (d :: ds)).all (· ≤ reachBytes) = true) :
    (∀ n, n ∈ d.weights P t → n ≤ reachBytes) ∧ (DataW.weightsEach P ts ds).all (· ≤ reachBytes) = true := by
  simp only [DataW.weightsEach, List.all_append, Bool.and_eq_true] at h
  exact ⟨fun n hn => by have := List.all_eq_true.1 h.1 n hn; simpa using this, h.2⟩
set_option maxRecDepth 100000 in
theorem open_opps {H : Type} {enc : TypeId × Value → H} {W : World} {v : Value} {d : DataW H} {p : List MemPlace} {base : Nat}
    (hv : Value.okWide Tryz.prog W .any base 22 v) (h : DataW.Trod enc Tryz.prog W 0 (fun _ => true) true 22 v d p) (hw : ∀ n, n ∈ d.weights Tryz.prog 22 → n ≤ reachBytes) : ∃ (l : List OpP) (q : Option Addr) (c : Nat), v = .slice q l.length c ∧ RdP W (.slice q l.length c) l := by
  obtain ⟨a0, len, cap, rfl⟩ := okWide_slice Tryz.underlying22 hv
  obtain ⟨fuel, hf⟩ := h
  rcases open_slice Tryz.underlying22 hf with ⟨hcs, _⟩ | ⟨a, len', cap', m, n, D, Pl, hcs, _, hl, hm, hmm, hd, hx⟩
  · simp [Value.cells] at hcs
    obtain ⟨rfl, rfl, rfl⟩ := hcs
    exact ⟨[], none, 0, rfl, ⟨by simp, .inl ⟨none, 0, rfl, rfl⟩⟩⟩
  · simp [Value.cells] at hcs
    obtain ⟨rfl, rfl, rfl⟩ := hcs
    simp only [if_true] at hmm
    subst hmm
    by_cases h0 : len = 0
    · subst h0
      exact ⟨[], _, _, rfl, ⟨by simp, .inl ⟨_, _, rfl, rfl⟩⟩⟩
    · have hde := congrArg Prod.fst hd
      simp only at hde
      have each : ∀ i, i < len → ∃ y : OpP, (∀ j, j < 5 → W.cell? (a.add (i * 5 + j)) = (oppCells y)[j]?) ∧ inP y := by
        intro i hi
        obtain ⟨cs', h1, h2⟩ := hx i (by omega)
        rw [cells_opp] at h1
        obtain ⟨_, hlen, hcell⟩ := World.cells?_some h1
        obtain ⟨y, rfl, hin⟩ := trod_opp h2 (fun n' hn' => hw n' (by
          rw [hde]
          simp only [DataW.weights, Tryz.underlying22]
          refine List.mem_cons_of_mem _ (List.mem_append_left _ ?_)
          exact weightsAll_mem (List.mem_map.2 ⟨i, List.mem_range.2 hi, rfl⟩) hn'))
        refine ⟨y, fun j hj => ?_, hin⟩
        have e0 := hcell j (by simpa [oppCells] using hj)
        rw [add_add] at e0
        rw [e0]
      obtain ⟨f, hf'⟩ := choose_lt each
      obtain ⟨b, off, spot⟩ := a
      have hc00 : W.cell? ((⟨b, off, spot⟩ : Addr).add 0) = some (.int .i64 (f 0).kind) := by
        have := (hf' 0 (by omega)).1 0 (by omega)
        simpa [oppCells] using this
      have hsp : spot = none := by
        cases spot with
        | none => rfl
        | some s =>
          exfalso
          revert hc00
          simp only [Addr.add]
          unfold World.cell?
          split <;> simp
      subst hsp
      have hlenr : ((List.range len).map f).length = len := by simp
      refine ⟨(List.range len).map f, some ⟨b, off, none⟩, _, by rw [hlenr], ⟨by rw [hlenr]; omega, .inr ⟨b, off, _, rfl, ?_, fun i hi => ?_⟩⟩⟩
      · rw [Addr.add_lit] at hc00
        exact World.block_lt_of_cell? W _ hc00
      · rw [hlenr] at hi
        obtain ⟨q0, q1⟩ := hf' i hi
        have eg : ((List.range len).map f).getD i default = f i := by simp [hi]
        rw [eg]
        refine ⟨fun j hj => ?_, q1⟩
        have := q0 j hj
        rw [Addr.add_lit, ← Nat.add_assoc] at this
        exact this
/-! ### the walk -/
theorem one_any {W0 w : World} {sb wb : Nat} {N : List Nd} {L : List Ent} {v : Value} (d : Dy W0 w sb wb N L v) (kd id m who : Int) (p : ByteArray) (hi : (Lit.int .i64 id).wf = true) (hp : p.size ≤ 9223372036854775806) :
    Calls Tryz.prog 6 #[.pointer (some ⟨sb, 0, none⟩), v, .agg #[.int .i64 kd, .int .i64 id, .string p, .int .i64 m, .int .i64 who]] w fun e w' => ∃ L', OneTo W0 sb wb L' e w' := by
  by_cases k1 : kd = 1
  · subst k1; exact (one_drop d id m who p hi).mono fun _ _ h => ⟨_, h⟩
  · by_cases k2 : kd = 2
    · subst k2; exact (one_get d id m who p).mono fun _ _ h => ⟨_, h⟩
    · by_cases k3 : kd = 3
      · subst k3; exact (one_clash d id m who p hp).mono fun _ _ h => ⟨_, h⟩
      · by_cases k4 : kd = 4
        · subst k4; exact (one_over d id m who p hp).mono fun _ _ h => ⟨_, h⟩
        · by_cases k5 : kd = 5
          · subst k5; exact (one_under d id m who p hp).mono fun _ _ h => ⟨_, h⟩
          · exact (one_put d kd id m who p hi hp k1 k2 k3 k4 k5).mono fun _ _ h => ⟨_, h⟩
def PlayRel (w1 : World) (sb wb : Nat) (n : Nat) (u i : Value) (wr : World) : Prop := ∃ (k : Nat) (N : List Nd) (L : List Ent), k ≤ n ∧ i = .int .i64 k ∧ Dy w1 wr sb wb N L u
set_option maxHeartbeats 2000000 in
set_option maxRecDepth 100000 in
theorem plays_any {W : World} {q : Option Addr} {c : Nat} {l : List OpP} (h : RdP W (.slice q l.length c) l) : Calls Tryz.prog 3 #[.slice q l.length c] W fun e w' => e = .returned (.bool true) ∧ Mod [] W w' := by
  have hll : l.length ≤ 9223372036854775807 := h.1
  have HX := hide h
  clear h
  go_enter Tryz.func3, Tryz.ntmps3
  go_wp2_with (first
    | (go_at_call 4
       refine (awake_any _).mono ?_
       rintro e w1 ⟨rfl, hm1⟩
       have H1 := hide hm1
       clear hm1)
    | (go_at_call 5
       refine (new_eq (Mod.refl [] w1)).mono ?_
       rintro e w2 ⟨sb, wb, N0, rfl, s, -⟩
       have H2 := hide s
       clear s)
    | fail)
  go_loopw [4, 14] (fun u i wr => PlayRel w1 sb wb l.length u i wr) (fun _ i _ => l.length - (intOf i).toNat)
  case atStart => exact ⟨0, N0, [], Nat.zero_le _, rfl, H2.out, ⟨by simp, .inl ⟨none, 0, rfl, rfl⟩⟩, by simp [obl, Value.ownBlock], by simp [obl, Value.ownBlock]⟩
  case round =>
    clear H2
    obtain ⟨k, N, L, hk, rfl, hD⟩ := hrel
    have hmW := H1.out.then hD.s.mod
    obtain ⟨vq, vc, rfl⟩ := hD.rd.len
    by_cases hlt : k < l.length
    · obtain ⟨b, off, rfl, hb, c0, c1, c2, c3, c4, hin⟩ := (HX.out.same hmW).at_ hlt
      obtain ⟨⟨kd, ⟨xi, xp, xm, xw⟩⟩, he⟩ : ∃ e, l.getD k default = e := ⟨_, rfl⟩
      rw [he] at c0 c1 c2 c3 c4 hin
      dsimp only at c0 c1 c2 c3 c4
      have i1 : (0 : Int) ≤ (k : Int) := by omega
      have i2 : (k : Int) < (l.length : Int) := by omega
      have CB := blk_cell (heap_alloc_new wr (objOp kd xi xm xw xp))
      have HD := hide (And.intro (hD.same (((Gr.refl wr).alloc (objOp kd xi xm xw xp)).mod [])) hin)
      clear hD hin he hmW
      go_wp2_with (first
        | (go_at_call 6
           refine (one_any HD.out.1 kd xi xm xw xp HD.out.2.1 HD.out.2.2).mono ?_
           rintro e w3 ⟨L', v', N', rfl, hd'⟩
           obtain ⟨vq', vc', rfl⟩ := hd'.rd.len
           have H3 := hide hd'
           clear hd' c0 c1 c2 c3 c4 CB)
        | (go_at_call 7
           refine (len_eq H3.out.s.q rfl).mono ?_
           rintro e w4 ⟨rfl, hw⟩
           subst hw)
        | fail)
      go_roundw
      case rel => exact ⟨k + 1, N', L', by omega, by go_num, H3.out⟩
      case measure => simp [intOf]; omega
    · have HD := hide hD
      clear hD hmW
      go_wp2_with (first
        | (go_at_call 9
           refine (list_eq HD.out.s.q HD.out.s.srt).mono ?_
           rintro e w3 ⟨q3, c3, rfl, r3, m3⟩
           have H3 := hide (And.intro r3 m3)
           clear r3 m3)
        | (go_at_call 8
           refine (same_any (RdE.of_row H3.out.1) (HD.out.rd.same H3.out.2)).mono ?_
           rw [decide_eq_true rfl]
           rintro e w4 ⟨rfl, hg4⟩
           have H4 := hide ((H1.out.then HD.out.s.mod).then (H3.out.2.then (hg4.mod [])))
           clear hg4)
        | fail)
      go_ret
      exact ⟨rfl, H4.out⟩
end Go.Proofs.YthkcbennfochmaaGreatDoor
