/-
  E's SUMMARIES hold: scans that find nothing, chunks, a map's values, a map's keys.
-/
import Derived.Test.YtkfhapidoolfdaaGreatDoorEvY
import Derived.Test.YtkfhapidoolfdaaGreatDoorEvColl
import Derived.Test.YtkfhapidoolfdaaGreatDoorChunk
import Derived.Test.YtkfhapidoolfdaaGreatDoorShelfKeys
namespace Go.Proofs.YtkfhapidoolfdaaGreatDoor
open Go Go.RowKit Go.Maps Go.Shelf
namespace Ev

theorem sz_ys : szE Tryz.prog 152 = some 1 := by kernel_rfl
theorem sz_y : szE Tryz.prog 5 = some 1 := by kernel_rfl
theorem sz_ent : szE Tryz.prog 302 = some 4 := by kernel_rfl
theorem bytesL_D {ρ : Rn} {σ : St} : ∀ {es : List EV} {ls : List (List UInt8)} {vs : List Value}, bytesL σ es = some ls → Dens ρ es vs → ls.length = vs.length ∧ ∀ i, i < ls.length → ∃ e v, es[i]? = some e ∧ vs[i]? = some v ∧ Den ρ e v ∧ bytesS σ e = some (ls.getD i [])
  | [], ls, vs, e, d => by
    cases e
    rw [d.nil]
    exact ⟨rfl, fun i h => absurd h (Nat.not_lt_zero _)⟩
  | x :: es, ls, vs, e, d => by
    obtain ⟨u, r, d1, d2, rfl⟩ := d.cons
    unfold bytesL at e
    split at e
    · next a l h1 h2 =>
      cases e
      obtain ⟨g1, g2⟩ := bytesL_D h2 d2
      refine ⟨by simp [g1], ?_⟩
      intro i hi
      cases i with
      | zero => exact ⟨x, u, rfl, rfl, d1, h1⟩
      | succ i =>
        obtain ⟨e', v', q1, q2, q3, q4⟩ := g2 i (by simpa using hi)
        exact ⟨e', v', q1, q2, q3, q4⟩
    · cases e
theorem take_cells {w : World} {a : Nat} {cs : Array Value} {el : TypeId} (h : w.heap[a]? = some (.cells cs el (0, 0))) {vs : List Value} (_ : vs.length ≤ cs.size) (hc : ∀ j v, vs[j]? = some v → w.cell? ⟨a, 0 + j, none⟩ = some v) : cs.toList.take vs.length = vs := by
  apply List.ext_getElem?
  intro j
  rw [List.getElem?_take]
  by_cases g : j < vs.length
  · rw [if_pos g]
    have hv : vs[j]? = some vs[j] := List.getElem?_eq_getElem g
    have := hc j vs[j] hv
    simp [World.cell?, h] at this
    rw [hv, Array.getElem?_toList]
    exact this
  · rw [if_neg g, List.getElem?_eq_none (by omega)]
theorem scan_ok {ρ : Rn} {σ σ' : St} {w : World} {args : List EV} {vs : List Value} {v : EV} (R : Rep Tryz.prog ρ σ w) (da : Dens ρ args vs) (e : extScan σ args = some (.ok v σ')) : Runs Tryz.prog 193 vs.toArray w fun u w' => ∃ ρ', Den ρ' v u ∧ Stp Tryz.prog ρ σ w ρ' σ' w' := by
  unfold extScan at e
  split at e
  · next b n gen =>
    obtain ⟨u1, r1, d1, d2, rfl⟩ := da.cons
    obtain ⟨u2, r2, d3, d4, rfl⟩ := d2.cons
    rw [d4.nil, d3.s]
    split at e
    · next hop =>
      obtain ⟨ho, hn6⟩ := Bool.and_eq_true_iff.1 hop
      have hn6 := Nat.le_of_ble_eq_true hn6
      unfold openAt at ho
      split at ho
      · next tr m z el hk =>
        obtain ⟨hel, hnm⟩ := Bool.and_eq_true_iff.1 ho
        have hel : el = 152 := Nat.eq_of_beq_eq_true hel
        subst hel
        have hnm := Nat.le_of_ble_eq_true hnm
        obtain ⟨a, c, hr, hu⟩ := d1.sl
        obtain ⟨a', c', o, p1, p2, cs, q1, q2, _, q4, _⟩ := R.blk b _ hk
        rw [hr] at p1
        cases p1
        subst q1
        obtain ⟨sz, s1, s2, s3⟩ := q4 rfl
        have hsz : sz = 1 := by rw [sz_ys] at s1; cases s1; rfl
        subst hsz
        cases hl : loadN σ b 0 n with
        | none => rw [hl] at e; cases e
        | some row =>
          rw [hl] at e
          cases row with
          | y bs k => cases e
          | l es =>
            obtain ⟨xs, g1, g2, g3⟩ := R.load hr hl
            have e : scanL σ gen (bytesL σ es) = some (.ok v σ') := e
            cases hb : bytesL σ es with
            | none => rw [hb] at e; cases e
            | some ls =>
              rw [hb] at e
              have e : scanX σ (scanS ls gen) = some (.ok v σ') := e
              obtain ⟨k1, k2⟩ := bytesL_D hb g2
              have hlen : ls.length = n := by rw [k1, g1]
              have hrow : w.ownsRow 0 152 1 u1 ls.length xs := by
                refine ⟨by omega, .inr ⟨a, c, cs, ?_, Nat.zero_le _, p2, by omega, s3, s2, ?_⟩⟩
                · rw [hu, hlen]; rfl
                · have := take_cells p2 (vs := xs) (by omega) g3
                  rwa [g1, ← hlen, ← Nat.mul_one ls.length] at this
              have hrd : RdsY w 0 u1 xs ls := by
                refine ⟨hrow, ?_, ?_⟩
                · intro i hi
                  obtain ⟨e', v', m1, m2, m3, m4⟩ := k2 i hi
                  obtain ⟨y1, _, a2, _, _, _, _, _, _, _, y2⟩ := bytesS_D R m3 m4
                  have hg : xs.getD i nilS = v' := by rw [List.getD_eq_getElem?_getD, m2]; rfl
                  rw [hg]
                  refine ⟨y1, ?_⟩
                  intro k hkk
                  refine ⟨Nat.zero_le _, ?_⟩
                  rcases y1.2 with ⟨pp, cc, hv, _⟩ | ⟨bb, off, cap, hv, _, hlt, _⟩
                  · rw [y2] at hkk
                    rw [hv] at y2
                    cases pp with
                    | none => cases y2
                    | some ad =>
                      have h9 : ad.block = a2 := by simpa [ob, Value.ownBlock] using y2
                      obtain ⟨_, b9, a9, c9, _, _, _, _, r9, _, y9⟩ := bytesS_D R m3 m4
                      have h10 : k = a2 := by simpa using hkk
                      have h11 : a9 = a2 := by
                        rw [hv] at y9
                        have : ad.block = a9 := by simpa [ob, Value.ownBlock] using y9
                        omega
                      rw [h10, ← h11]
                      exact R.inb b9 a9 c9 r9
                  · rw [hv] at hkk
                    have : k = bb := by simpa [ob, Value.ownBlock] using hkk
                    rw [this]; exact hlt
                · intro i hi k hkk
                  obtain ⟨e', v', m1, m2, m3, m4⟩ := k2 i hi
                  obtain ⟨_, b2, a2, c2, bs2, m2', el2, op2, r2, hk2, y2⟩ := bytesS_D R m3 m4
                  have hg : xs.getD i nilS = v' := by rw [List.getD_eq_getElem?_getD, m2]; rfl
                  rw [hg, y2] at hkk
                  have hka : k = a2 := by simpa using hkk
                  rw [hu]
                  have hob : ob (.slice (some ⟨a, 0, none⟩) n (capR none c 0)) = [a] := rfl
                  rw [hob]
                  intro q
                  have hq : k = a := by simpa using q
                  have hbb : b2 = b := R.inj b2 b a c2 c (by rw [hk2]; simp) (by rw [hk]; simp) (by rw [r2, ← hka, hq]) hr
                  rw [hbb, hk] at hk2
                  cases hk2
              have hsc := scan_any hrd (by omega) gen
              cases hS : scanS ls gen with
              | mk recs used =>
                rw [hS] at e hsc
                cases recs with
                | cons x r => cases e
                | nil =>
                  cases e
                  refine runs_of (enters_of Tryz.func193 (by kernel_rfl) rfl _ w) (hsc.mono ?_)
                  rintro e w' ⟨q, cc, ys, rfl, _, _, _, hm⟩
                  refine ⟨_, rfl, ρ, ?_, stp_mod R hm⟩
                  refine Den.two ?_ (Den.sv _)
                  simp only [Den]
                  exact ⟨q, cc, rfl⟩
      · cases ho
    · cases e
  · cases e
/-! ### chunks -/
theorem pieces_D {ρ : Rn} {c C cC : Nat} (hr : ρ c = some (C, cC)) : ∀ (f co len : Nat), 1 ≤ len → len ≤ f → Dens ρ (pieces c co f len) ((List.range (chN len)).map (chV (some ⟨C, co, none⟩) len))
  | 0, co, len, h1, h2 => by omega
  | f + 1, co, len, h1, h2 => by
    unfold pieces
    cases hb : Nat.ble len 47 with
    | true =>
      have hle := Nat.le_of_ble_eq_true hb
      have hn : chN len = 1 := by unfold chN; omega
      rw [hn]
      have hm : min 47 (len - 47 * 0) = len := by omega
      refine Dens.mk ?_ Dens.nilm
      simp only [Den, chV, hm, Option.map_some]
      exact ⟨C, cC, hr, rfl⟩
    | false =>
      have hgt : 47 < len := by
        refine Nat.lt_of_not_le fun q => ?_
        rw [Nat.ble_eq_true_of_le q] at hb
        cases hb
      have hn : chN len = chN (len - 47) + 1 := by unfold chN; omega
      rw [hn, List.range_succ_eq_map, List.map_cons, List.map_map]
      have ih := pieces_D hr f (co + 47) (len - 47) (by omega) (by omega)
      refine Dens.mk ?_ ?_
      · have hm : min 47 (len - 47 * 0) = 47 := by omega
        simp only [Den, chV, hm, Option.map_some]
        exact ⟨C, cC, hr, rfl⟩
      · have he : (List.range (chN (len - 47))).map (chV (some ⟨C, co, none⟩) len ∘ Nat.succ) = (List.range (chN (len - 47))).map (chV (some ⟨C, co + 47, none⟩) (len - 47)) := by
          apply List.map_congr_left
          intro i _
          show chV (some ⟨C, co, none⟩) len (i + 1) = chV (some ⟨C, co + 47, none⟩) (len - 47) i
          unfold chV
          rw [Option.map_some, Option.map_some, addr_add, addr_add, show co + 47 * (i + 1) = co + 47 + 47 * i by omega, show len - 47 * (i + 1) = len - 47 - 47 * i by omega]
        rw [he]
        exact ih
/-- one cell, told by one number -/
theorem cell_D {P : Program} {ρ : Rn} {σ : St} {w : World} (R : Rep P ρ σ w) {b a c : Nat} {x : EV} (hr : ρ b = some (a, c)) (hl : loadN σ b 0 1 = some (.l [x])) : ∃ u, w.cell? ⟨a, 0, none⟩ = some u ∧ Den ρ x u := by
  obtain ⟨vs, g1, g2, g3⟩ := R.load hr hl
  obtain ⟨u, r, d1, d2, rfl⟩ := Dens.cons g2
  exact ⟨u, g3 0 u rfl, d1⟩
theorem len_pos {n m k : Nat} (h : n ≤ m) (e : m = k) : n ≤ k := e ▸ h
/-- a row of the new memory, told -/
theorem row_told {P : Program} {ρ : Rn} {σ : St} {w w' : World} (R : Rep P ρ σ w) (m : Mod [] w w') {el : TypeId} {sz n : Nat} {u : Value} {xs : List Value} {es : List EV} (hs : szE P el = some sz) (_ : 1 ≤ sz) (hn : 1 ≤ n) (hrow : w'.ownsRow w.heap.size el sz u n xs)
    (hd : ∀ g c, Dens (Rn.add ρ σ.nx g c) es xs) : ∃ ρ', Den ρ' (.sl σ.nx 0 n none 0) u ∧ Stp P ρ σ w ρ' (σ.new (rowE el true (.l es))) w' := by
  rcases hrow.2 with ⟨_, h0⟩ | ⟨g, cap, cur, rfl, hg, hb, h1, h2, h3, h4⟩
  · omega
  · have hlen : xs.length = n * sz := hrow.1
    have hfit : xs.length ≤ cur.size := by rw [hlen, h3]; exact Nat.mul_le_mul_right _ h1
    have hat : ∀ j, j < xs.length → cur[j]? = xs[j]? := by
      intro j hj
      rw [← h4, List.getElem?_take, if_pos (by omega), Array.getElem?_toList]
    exact ⟨_, open_at, stp_at R m hg hb (rowE_pre (hd g cap) hs h3 h2 hfit hat)⟩
theorem chunk_ok {ρ : Rn} {σ σ' : St} {w : World} {args : List EV} {vs : List Value} {v : EV} (R : Rep Tryz.prog ρ σ w) (da : Dens ρ args vs) (e : extChunk σ args = some (.ok v σ')) : Runs Tryz.prog 280 vs.toArray w fun u w' => ∃ ρ', Den ρ' v u ∧ Stp Tryz.prog ρ σ w ρ' σ' w' := by
  unfold extChunk at e
  split at e
  · next g a b =>
    obtain ⟨u1, r1, d1, d2, rfl⟩ := da.cons
    rw [d2.nil]
    split at e
    · next hg =>
      have hg : g = 359 := Nat.eq_of_beq_eq_true hg
      subst hg
      obtain ⟨us, ws, f1, f2, rfl⟩ := d1.f
      obtain ⟨pa, r3, d3, d4, rfl⟩ := f2.cons
      obtain ⟨pb, r4, d5, d6, rfl⟩ := d4.cons
      rw [f1.nil, d6.nil]
      obtain ⟨A, ca, hra, rfl⟩ := d3.p
      obtain ⟨B, cb, hrb, rfl⟩ := d5.p
      unfold chunkX at e
      split at e
      · next c co len cap k h1 h2 =>
        obtain ⟨x1, c1, y1⟩ := cell_D R hra h1
        obtain ⟨x2, c2, y2⟩ := cell_D R hrb h2
        obtain ⟨C, cC, hrc, rfl⟩ := y1.sl
        rw [y2.s] at c2
        split at e
        · next hok =>
          obtain ⟨ho, hl⟩ := Bool.and_eq_true_iff.1 hok
          obtain ⟨hl1, hl2⟩ := Bool.and_eq_true_iff.1 hl
          have hl1 := Nat.le_of_ble_eq_true hl1
          have hl2 := Nat.le_of_ble_eq_true hl2
          have hcap : len ≤ capR cap cC k := by
            cases cap with
            | some q => exact Nat.le_of_ble_eq_true ho
            | none =>
              unfold chunkOk openY at ho
              simp only at ho
              split at ho
              · next bs m el hk =>
                obtain ⟨ho1, ho2⟩ := Bool.and_eq_true_iff.1 ho
                obtain ⟨ho3, ho4⟩ := Bool.and_eq_true_iff.1 ho1
                have ho2 := Nat.le_of_ble_eq_true ho2
                have ho3 : el = 5 := Nat.eq_of_beq_eq_true ho3
                have ho4 : co = k := Nat.eq_of_beq_eq_true ho4
                subst ho3 ho4
                obtain ⟨a', c', o, p1, p2, cs, q1, q2, _, q4, _⟩ := R.blk c _ hk
                rw [hrc] at p1
                cases p1
                obtain ⟨sz, s1, s2, _⟩ := q4 rfl
                have hsz : sz = 1 := by rw [sz_y] at s1; cases s1; rfl
                subst hsz
                show len ≤ cC - co
                omega
              · cases ho
          have hv : v = .sl σ.nx 0 (lenL (pieces c co len len)) none 0 := by cases e; rfl
          have hσ : σ' = σ.new (rowE 152 true (.l (pieces c co len len))) := by cases e; rfl
          subst hv hσ
          have hpl : lenL (pieces c co len len) = chN len := by
            have := Dens_len (pieces_D hrc len co len hl1 (Nat.le_refl _))
            rw [List.length_map, List.length_range] at this
            rw [lenL_eq]; exact this.symm
          rw [hpl]
          refine runs_of (enters_of Tryz.func280 (by kernel_rfl) rfl _ w) ((collChunk_any hcap hl2 c1 c2).mono ?_)
          rintro e w' ⟨u, rfl, hrow, hm⟩
          have hcn : 1 ≤ chN len := by unfold chN; omega
          obtain ⟨ρ', t1, t2⟩ := row_told R hm sz_ys (Nat.le_refl _) hcn hrow (es := pieces c co len len) (fun g cc => pieces_D (R.le_add g cc c _ hrc) len co len hl1 (Nat.le_refl _))
          exact ⟨u, rfl, ρ', t1, t2⟩
        · cases e
      · cases e
    · cases e
  · cases e
/-! ### a map's values, a map's keys -/
theorem own_nil {P : Program} {k : TypeId} {w : World} {b cl : Nat} (hb : w.heap[b]? = some (.map #[] cl)) : w.ownsMap P k Raw b 0 (.map []) :=
  ⟨#[], cl, hb, ⟨by simp, by simp [MapKept.Stamped], by simp⟩, Nat.le_refl _, rfl⟩
theorem mapL_nil {w : World} {b cl : Nat} (hb : w.heap[b]? = some (.map #[] cl)) : MapL iK w b [] := ⟨by simp, List.Pairwise.nil, 0, own_nil hb⟩
theorem mapL_one {w : World} {b cl born : Nat} {x : Int} {v : Value} (hb : w.heap[b]? = some (.map #[⟨.int .i64 x, v, born⟩] cl)) (hlt : born < cl) (hx : (Lit.int .i64 x).wf = true) : MapL iK w b [(x, v)] := by
  have hk : keyOf Tryz.prog 3 (.int .i64 x) = some (.int .i64 x) := iK.of x hx
  have hrd : WideElems.rd Tryz.prog 3 Raw (⟨.int .i64 x, v, born⟩ : Go.MapEntry) = some (.int .i64 x, .held v) := by
    unfold WideElems.rd
    rw [hk]; rfl
  refine ⟨?_, by simp, 1, #[⟨.int .i64 x, v, born⟩], cl, hb, ⟨by simp [maxLen], ?_, ?_⟩, by simp, ?_⟩
  · intro p hp
    have : p = (x, v) := by simpa using hp
    rw [this]; exact hx
  · simp [MapKept.Stamped, hlt]
  · intro y hy
    have : y = ⟨.int .i64 x, v, born⟩ := by simpa using hy
    rw [this]; exact ⟨_, hrd⟩
  · have hg : WideElems.rg Tryz.prog 3 Raw (⟨.int .i64 x, v, born⟩ : Go.MapEntry) = (.int .i64 x, .held v) := by
      unfold WideElems.rg
      rw [hrd]; rfl
    unfold mapD
    simp only [List.map_cons, List.map_nil, hg]
    rfl
theorem intE_eq : ∀ {a b : Int}, collX.intE a b = true → a = b
  | .ofNat m, .ofNat n, h => by rw [Nat.eq_of_beq_eq_true (show Nat.beq m n = true from h)]
  | .negSucc m, .negSucc n, h => by rw [Nat.eq_of_beq_eq_true (show Nat.beq m n = true from h)]
  | .ofNat _, .negSucc _, h => by cases h
  | .negSucc _, .ofNat _, h => by cases h
theorem inInt_wf {x : Int} (h : inInt x = true) : (Lit.int .i64 x).wf = true := by
  have hb : -9223372036854775808 ≤ x ∧ x ≤ 9223372036854775807 := by
    cases x with
    | ofNat n =>
      have : n ≤ 9223372036854775807 := Nat.le_of_ble_eq_true h
      have e : Int.ofNat n = (n : Int) := rfl
      omega
    | negSucc n =>
      have : n ≤ 9223372036854775807 := Nat.le_of_ble_eq_true h
      have e : Int.negSucc n = -((n : Int) + 1) := Int.negSucc_eq n
      omega
  have h1 := RowKit.wrap64_wf x
  have h2 : RowKit.wrap64 x = x := by rw [← IntWalk.i64_left]; exact IntWalk.i64_in x hb
  rwa [h2] at h1
theorem mapAt_some {σ : St} {r : Option Row} {o : EO} (h : mapAt σ r = some o) : ∃ b, r = some (.l [.m b]) ∧ σ.h.get b = some o := by
  unfold mapAt at h
  split at h
  · next b => exact ⟨b, rfl, h⟩
  · cases h
/-- what a captured box names: a map -/
theorem boxed_map {P : Program} {ρ : Rn} {σ : St} {w : World} (R : Rep P ρ σ w) {a A c : Nat} {es : List ME} {cl : Nat} (hr : ρ a = some (A, c)) (h : mapAt σ (loadN σ a 0 1) = some (.m es cl)) : ∃ b l, w.cell? ⟨A, 0, none⟩ = some (.map (some b)) ∧ w.heap[b]? = some (.map l.toArray cl) ∧ EntD ρ es l := by
  obtain ⟨k, h1, h2⟩ := mapAt_some h
  obtain ⟨u, g1, g2⟩ := cell_D R hr h1
  obtain ⟨b, d, g3, rfl⟩ := g2.m
  obtain ⟨l, g4, g5⟩ := R.map g3 h2
  exact ⟨b, l, g1, g4, g5⟩
theorem coll_ok {ρ : Rn} {σ σ' : St} {w : World} {args : List EV} {vs : List Value} {v : EV} (R : Rep Tryz.prog ρ σ w) (da : Dens ρ args vs) (e : extColl σ args = some (.ok v σ')) : Runs Tryz.prog 343 vs.toArray w fun u w' => ∃ ρ', Den ρ' v u ∧ Stp Tryz.prog ρ σ w ρ' σ' w' := by
  unfold extColl at e
  split at e
  · next g a =>
    obtain ⟨u1, r1, d1, d2, rfl⟩ := da.cons
    rw [d2.nil]
    split at e
    · next hg =>
      have hg : g = 400 := Nat.eq_of_beq_eq_true hg
      subst hg
      obtain ⟨us, ws, f1, f2, rfl⟩ := d1.f
      obtain ⟨pa, r3, d3, d4, rfl⟩ := f2.cons
      rw [f1.nil, d4.nil]
      obtain ⟨A, ca, hra, rfl⟩ := d3.p
      unfold collX at e
      split at e
      · next cl hm =>
        cases e
        obtain ⟨b, l, g1, g2, g3⟩ := boxed_map R hra hm
        have g3 : l = [] := g3
        subst g3
        refine runs_of (enters_of Tryz.func343 (by kernel_rfl) rfl _ w) ((collect_any (L := []) List.Pairwise.nil (by simp) g1 (mapL_nil g2)).mono ?_)
        rintro e w' ⟨u, xs, rfl, hp, hrow, hm'⟩
        have hx : xs = [] := List.Perm.eq_nil hp
        subst hx
        refine ⟨u, rfl, ρ, ?_, stp_mod R hm'⟩
        simp only [Den]
        rcases hrow.2 with ⟨rfl, _⟩ | ⟨gg, cap, cur, rfl, _⟩
        · exact ⟨_, _, rfl⟩
        · exact ⟨_, _, rfl⟩
      · next k id p mode who born cl hm =>
        split at e
        · next hok =>
          obtain ⟨hk1, hk3⟩ := Bool.and_eq_true_iff.1 hok
          obtain ⟨hk1, hk2⟩ := Bool.and_eq_true_iff.1 hk1
          have hk1 := intE_eq hk1
          subst hk1
          have hk3 : born < cl := Nat.le_of_ble_eq_true hk3
          have hv : v = .sl σ.nx 0 1 none 0 := by cases e; rfl
          have hσ : σ' = σ.new (rowE 302 true (.l [.s (.int .i64 k), .s (.string p), .s (.int .i64 mode), .s (.int .i64 who)])) := by cases e; rfl
          subst hv hσ
          obtain ⟨b, l, g1, g2, kx, vx, r, g3, g4, g5, g6⟩ := boxed_map R hra hm
          have g5 : r = [] := g5
          subst g5
          obtain ⟨zs, z1, rfl⟩ := g4.a
          obtain ⟨c1, q1, y1, z2, rfl⟩ := z1.cons
          obtain ⟨c2, q2, y2, z3, rfl⟩ := z2.cons
          obtain ⟨c3, q3, y3, z4, rfl⟩ := z3.cons
          obtain ⟨c4, q4, y4, z5, rfl⟩ := z4.cons
          rw [z5.nil, y1.s, y2.s, y3.s, y4.s, g3.s] at g6
          subst g6
          refine runs_of (enters_of Tryz.func343 (by kernel_rfl) rfl _ w) ((collect_any (L := [⟨k, p, mode, who⟩]) (by simp) (by simp) g1 (mapL_one g2 hk3 (inInt_wf hk2))).mono ?_)
          rintro e w' ⟨u, xs, rfl, hp, hrow, hm'⟩
          have hx : xs = [⟨k, p, mode, who⟩] := List.Perm.eq_singleton hp
          subst hx
          obtain ⟨ρ', t1, t2⟩ := row_told R hm' sz_ent (by decide) (Nat.le_refl 1) hrow (es := [.s (.int .i64 k), .s (.string p), .s (.int .i64 mode), .s (.int .i64 who)]) (fun g cc => Dens.mk (Den.sv _) (Dens.mk (Den.sv _) (Dens.mk (Den.sv _) (Dens.mk (Den.sv _) Dens.nilm))))
          exact ⟨u, rfl, ρ', t1, t2⟩
        · cases e
      · cases e
    · cases e
  · cases e
theorem sorts_keys (m : Nat) : AnyZI.SortsIn Tryz.prog Tryz.laysSorted_ren Fence.wide m :=
  ⟨fun blk off cap ss W hH hblk hsz => callsIn_wide.2 (AnyM.slices_Sort_int Tryz.laysSortInt blk off cap ss W hH hblk hsz),
   fun p cap W => callsIn_wide.2 (AnyM.slices_Sort_int_none Tryz.laysSortInt p cap W)⟩
theorem keys_any {w : World} {A b cl : Nat} (hm : w.cell? ⟨A, 0, none⟩ = some (.map (some b))) (hb : w.heap[b]? = some (.map #[] cl)) :
    Calls Tryz.prog 184 #[.func (.func 275) #[] #[.pointer (some ⟨A, 0, none⟩)]] w fun e w' => e = .returned (.slice none 0 0) ∧ Mod [] w w' := by
  refine Calls.mono (R := fun e w' => ∃ (v : Value) (ss : List Int), e = .returned v ∧ ss.Perm (intKeys (.map [] : DataW Value)) ∧ (v = .slice none 0 0 ↔ ss = []) ∧ Below w.heap.size w w') ?_ ?_
  · refine (callsIn_wide (n := 5)).1 ?_
    have hown := own_nil (P := Tryz.prog) (k := 3) hb
    have hseq : SeqGives Fence.wide 2 Tryz.prog 275 #[.pointer (some ⟨A, 0, none⟩)] encZ (fun ss => ss.Perm (intKeys (.map [] : DataW Value))) (Maps.size (.map [] : DataW Value)) w :=
      AnyZI.keys_gives (ρ := Tryz.laysKeys_ren) { Tryz.laysKeys with } Fence.wide _ trivial rfl (by omega) A b 0 _ w (World.block_lt_of_cell? w ⟨A, 0, none⟩ hm) hm hown
    have cS := AnyZI.sorted_in Tryz.laysSorted Fence.wide 5 trivial trivial trivial trivial rfl (by omega) (sorts_keys _) (enters_of Tryz.func274 (by kernel_rfl) rfl) 275 #[.pointer (some ⟨A, 0, none⟩)] trivial (enters_of Tryz.func275 (by kernel_rfl) rfl) _ _ (by decide) (by decide) _ hseq
    change CallsIn _ _ Tryz.prog 184 _ _ _ at cS
    refine cS.mono ?_
    rintro e w' ⟨v, ss, rfl, hS, _, hnil, hbel⟩
    exact ⟨v, ss, rfl, hS, hnil, hbel⟩
  · rintro e w' ⟨v, ss, rfl, hS, hnil, h4⟩
    have hs : ss = [] := List.Perm.eq_nil hS
    rw [hnil.2 hs]
    exact ⟨rfl, ⟨h4.os, h4.tape, h4.output, h4.size, fun k hk _ => h4.block k hk⟩⟩
theorem keys_ok {ρ : Rn} {σ σ' : St} {w : World} {args : List EV} {vs : List Value} {v : EV} (R : Rep Tryz.prog ρ σ w) (da : Dens ρ args vs) (e : extKeys σ args = some (.ok v σ')) : Runs Tryz.prog 184 vs.toArray w fun u w' => ∃ ρ', Den ρ' v u ∧ Stp Tryz.prog ρ σ w ρ' σ' w' := by
  unfold extKeys at e
  split at e
  · next g a =>
    obtain ⟨u1, r1, d1, d2, rfl⟩ := da.cons
    rw [d2.nil]
    split at e
    · next hg =>
      have hg : g = 275 := Nat.eq_of_beq_eq_true hg
      subst hg
      obtain ⟨us, ws, f1, f2, rfl⟩ := d1.f
      obtain ⟨pa, r3, d3, d4, rfl⟩ := f2.cons
      rw [f1.nil, d4.nil]
      obtain ⟨A, ca, hra, rfl⟩ := d3.p
      unfold keysX at e
      split at e
      · next cl hm =>
        cases e
        obtain ⟨b, l, g1, g2, g3⟩ := boxed_map R hra hm
        have g3 : l = [] := g3
        subst g3
        refine runs_of (enters_of Tryz.func184 (by kernel_rfl) rfl _ w) ((keys_any g1 g2).mono ?_)
        rintro e w' ⟨rfl, hm'⟩
        refine ⟨_, rfl, ρ, ?_, stp_mod R hm'⟩
        simp only [Den]
        exact ⟨_, _, rfl⟩
      · cases e
    · cases e
  · cases e
/-! ### all of them -/
theorem ansE_some {r : Option (R EV)} {k : Nat} {v : EV} {σ : St} (h : ansE r k = some (.ok v σ)) : r = some (.ok v σ) := by
  cases r with
  | none => cases h
  | some x => exact h
theorem ext_ok : ExtOk Tryz.prog extX := by
  intro ρ f args σ w vs v σ' R da e
  unfold extX at e
  have step : ∀ (g : Nat) (k : ExtF) (l : List (Nat × ExtF)), extAt f args σ ((g, k) :: l) = some (.ok v σ') → (f = g ∧ k σ args = some (.ok v σ')) ∨ extAt f args σ l = some (.ok v σ') := by
    intro g k l h
    rw [extAt] at h
    cases hb : Nat.beq f g with
    | true =>
      rw [hb] at h
      exact .inl ⟨Nat.eq_of_beq_eq_true hb, ansE_some h⟩
    | false => rw [hb] at h; exact .inr h
  rcases step _ _ _ e with ⟨rfl, h⟩ | e
  · exact sum_ok R da h
  rcases step _ _ _ e with ⟨rfl, h⟩ | e
  · exact scan_ok R da h
  rcases step _ _ _ e with ⟨rfl, h⟩ | e
  · exact chunk_ok R da h
  rcases step _ _ _ e with ⟨rfl, h⟩ | e
  · exact coll_ok R da h
  rcases step _ _ _ e with ⟨rfl, h⟩ | e
  · exact keys_ok R da h
  rcases step _ _ _ e with ⟨rfl, h⟩ | e
  · exact cnt_ok R da h
  rcases step _ _ _ e with ⟨rfl, h⟩ | e
  · exact idx_ok R da h
  cases e
end Ev
end Go.Proofs.YtkfhapidoolfdaaGreatDoor
