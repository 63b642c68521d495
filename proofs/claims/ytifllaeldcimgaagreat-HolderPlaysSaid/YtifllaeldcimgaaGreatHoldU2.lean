/-
  WALKS: layer 17: slices.DeleteFunc at leases.
-/
import Derived.Test.YtifllaeldcimgaaGreatHoldU1
import Derived.Laws.IdiomCopy
namespace Go.Proofs.YtifllaeldcimgaaGreat
open Go.RowKit

theorem frozen_setCells (b : Nat) : ∀ (vs : List Value) (o : Nat) (w : World) (a : Addr), (w.setCells b o vs).frozen? a = w.frozen? a
  | [], _, _, _ => rfl
  | v :: r, o, w, a => by
    rw [World.setCells, frozen_setCells b r (o + 1) _ a]
    simp
theorem size_setCells (b : Nat) : ∀ (vs : List Value) (o : Nat) (w : World), (w.setCells b o vs).heap.size = w.heap.size
  | [], _, _ => rfl
  | v :: r, o, w => by
    rw [World.setCells, size_setCells b r (o + 1)]
    simp
theorem mod_setCells {S : List Nat} {w : World} (b : Nat) : ∀ (vs : List Value) (o : Nat) (w' : World), Mod S w w' → (b < w.heap.size → b ∈ S) → Mod S w (w'.setCells b o vs)
  | [], _, _, h, _ => h
  | v :: r, o, w', h, hb => by
    rw [World.setCells]
    exact mod_setCells b r (o + 1) _ (h.setCell hb v) hb
theorem RowS.set {w : World} {g : Nat} {d : List SL} (h : RowS w g d) (i : Nat) (hi : i < d.length) (x : SL) : RowS (w.setCells g (i * 9) (encS x)) g (d.set i x) := by
  have hin : ∀ j, j < (encS x).length → (w.cell? ⟨g, i * 9 + j, none⟩).isSome = true := fun j hj => by
    have hj9 : j < 9 := hj
    rw [h.cell i hi j hj9]
    simp [encS_len, hj9]
  refine ⟨fun k hk j hj => ?_, fun o => by rw [frozen_setCells]; exact h.free o, by rw [size_setCells]; exact h.lt⟩
  rw [List.length_set] at hk
  by_cases e : k = i
  · subst e
    rw [World.cell?_setCells_in g (encS x) (k * 9) w hin j hj]
    have : (d.set k x).getD k default = x := by simp [hk]
    rw [this, List.getElem?_eq_getElem (show j < (encS x).length from hj)]
    rfl
  · rw [World.cell?_setCells_out g (encS x) (i * 9) w ⟨g, k * 9 + j, none⟩ (fun _ _ => by simp only [encS_len]; omega)]
    have : (d.set i x).getD k default = d.getD k default := by simp [List.getD_eq_getElem?_getD, Ne.symm e]
    rw [this]
    exact h.cell k hk j hj
theorem run_clear_lease (w : World) (ty : TypeId) (b o n c : Nat) (hn : 0 < n) (hc : ∀ j, j < n * 9 → (w.cell? ⟨b, o + j, none⟩).isSome = true) (hf : ∀ x, w.frozen? ⟨b, x, none⟩ = false) :
    ∃ vs, vs.length = n * 9 ∧ (Builtin.clear_ #[28] ty #[.slice (some ⟨b, o, none⟩) n c]).run Tryz.prog w = .ok (.tuple #[]) (w.setCells b o vs) := by
  obtain ⟨m, rfl⟩ : ∃ m, n = m + 1 := ⟨n - 1, by omega⟩
  have hz := zero_lease w
  have hlen : (Builtin.zeroCells (aggL Lease.zero (.slice none 0 0)).cells (m + 1)).toList.length = (m + 1) * 9 := by
    simp [Builtin.zeroCells, Value.cells, aggL, cellsL]
  refine ⟨(Builtin.zeroCells (aggL Lease.zero (.slice none 0 0)).cells (m + 1)).toList, hlen, ?_⟩
  have hst := run_storeCells_cells (P := Tryz.prog) b o (Builtin.zeroCells (aggL Lease.zero (.slice none 0 0)).cells (m + 1)).toList 0 w (by rw [hlen]; simpa using hc) (fun j _ => hf _) (by
    intro v hv
    have h9 : ∀ r, r < 9 → ((cellsL Lease.zero (.slice none 0 0))[r]!).oneCell' = true := by decide
    rw [Array.mem_toList_iff] at hv
    obtain ⟨j, _, rfl⟩ := Array.mem_map.1 hv
    exact h9 (j % 9) (Nat.mod_lt _ (by omega)))
  simp only [Nat.add_zero] at hst
  simp [Builtin.clear_, run_underlying Tryz.underlying28, hz, Result.andThen]
  rw [hst]
theorem RowS.cut {w : World} {g : Nat} {d : List SL} (h : RowS w g d) (i : Nat) (vs : List Value) : RowS (w.setCells g (i * 9) vs) g (d.take i) :=
  ⟨fun k hk j hj => by
    have hk1 : k < i := by simp at hk; omega
    have hk2 : k < d.length := by simp at hk; omega
    rw [World.cell?_setCells_out g vs (i * 9) w ⟨g, k * 9 + j, none⟩ (fun _ _ => by left; simp only; omega), h.cell k hk2 j hj]
    have : (d.take i).getD k default = d.getD k default := by simp [List.getD_eq_getElem?_getD, hk1]
    rw [this], fun o => by rw [frozen_setCells]; exact h.free o, by rw [size_setCells]; exact h.lt⟩
/-- what Use's closure leaves -/
def kpS (now : Int) (path : List UInt8) (md : Int) (s : SL) : Bool := bearsB s.1 now path md
def UDel (w : World) (g : Nat) (d : List SL) (now : Int) (path : ByteArray) (md : Int) (gh : Nat) (s5 s6 : Value) (wr : World) : Prop :=
  ∃ (i j : Nat) (d' : List SL), s5 = .int .i64 i ∧ s6 = .int .i64 j ∧ j + gh = d.length ∧ i < j ∧ d'.length = d.length ∧ d'.take i = (d.take j).filter (kpS now path.data.toList md) ∧ (∀ k, j ≤ k → d'.getD k default = d.getD k default) ∧ RowS wr g d' ∧ Mod [g] w wr
set_option maxHeartbeats 2000000 in
set_option maxRecDepth 100000 in
theorem udelete_any {w : World} {bn bp bm : Nat} {now : Int} {path : ByteArray} {md : Int} (hb : UBox w bn bp bm now path md) (hq : path.size ≤ 9223372036854775807) {g cap : Nat} {d : List SL} {f : List Nat} (hR : RowS w g d) (hn : d.length ≤ 100000) (hcap : d.length ≤ cap)
    (hs : ∀ s, s ∈ d → LsV w f (pr s) ∧ s.1.path.size ≤ 27) (hg : g ∉ f ∧ bn ≠ g ∧ bp ≠ g ∧ bm ≠ g) :
    Calls Tryz.prog 40 #[.slice (some ⟨g, 0, none⟩) d.length cap, .func (.func 41) #[] #[.pointer (some ⟨bn, 0, none⟩), .pointer (some ⟨bp, 0, none⟩), .pointer (some ⟨bm, 0, none⟩)]] w fun e w' =>
      e = .returned (.slice (some ⟨g, 0, none⟩) (d.filter (kpS now path.data.toList md)).length cap) ∧ RowS w' g (d.filter (kpS now path.data.toList md)) ∧ Mod [g] w w' := by
  have HS := hide (And.intro hs hg)
  clear hs hg
  go_enter Tryz.func40, Tryz.ntmps40
  go_wp2_with fail
  refine (uindex_any hb hq hR hn HS.out.1).mono ?_
  rintro e w1 (⟨rfl, hall, hg1⟩ | ⟨k, hk, rfl, hall, hkd, hg1⟩)
  · have hfil : d.filter (kpS now path.data.toList md) = d := by
      refine List.filter_eq_self.2 fun s hs => ?_
      obtain ⟨j, hj, rfl⟩ := List.getElem_of_mem hs
      have := hall j hj
      simpa [delS, kpS, hj] using this
    have HF := hide hfil
    have hR1 := hR.gr hg1
    clear hfil hall hR hb
    go_wp2_with fail
    go_ret
    rw [HF.out]
    exact ⟨rfl, hR1, hg1.mod _⟩
  · have hR1 := hR.gr hg1
    have hb1 := hb.gr hg1
    have HA := hide (And.intro hall (And.intro hkd hg1))
    have hb0 := hb
    clear hall hkd hg1 hR hb
    go_wp2_with fail
    go_loopg [5, 6] (d.length - (k + 1)) (fun gh s5 s6 wr => UDel w g d now path md gh s5 s6 wr)
    case atStart =>
      obtain ⟨hall, hkd, hg1⟩ := HA.out
      refine ⟨k, k + 1, d, rfl, by go_num, by omega, by omega, rfl, ?_, fun _ _ => rfl, hR1, hg1.mod _⟩
      rw [List.take_succ_eq_append_getElem hk, List.filter_append]
      have e1 : (d.take k).filter (kpS now path.data.toList md) = d.take k := by
        refine List.filter_eq_self.2 fun s hs => ?_
        obtain ⟨j, hj, rfl⟩ := List.getElem_of_mem hs
        have hj' : j < k := by simp at hj; omega
        have := hall j hj'
        simpa [delS, kpS, show j < d.length by omega] using this
      have e2 : [d[k]].filter (kpS now path.data.toList md) = [] := by
        refine List.filter_eq_nil_iff.2 fun s hs => ?_
        obtain rfl : s = d[k] := List.mem_singleton.1 hs
        have : delS now path.data.toList md d[k] = true := by simpa [hk] using hkd
        simp only [delS] at this
        simp only [kpS]
        revert this
        cases bearsB d[k].1 now path.data.toList md <;> simp
      rw [e1, e2, List.append_nil]
    case round =>
      obtain ⟨i, j, d', rfl, rfl, hj, hij, hl, htk, hdr, hRr, hmr⟩ := hrel
      have i0 : (0 : Int) ≤ (i : Int) := by omega
      have j0 : (0 : Int) ≤ (j : Int) := by omega
      have HT := hide (And.intro htk (And.intro hdr hmr))
      obtain ⟨hs, hgf, hgn, hgp, hgm⟩ := HS.out
      have hbr := hb0.mod hmr (by simp; exact hgn) (by simp; exact hgp) (by simp; exact hgm)
      clear htk hdr hR1 hb1
      by_cases hlt : j < d.length
      · obtain ⟨f', i', p', m', a', t', s', e', r', q', c', hdk, k0, k1, k2, k3, k4, k5, k6, k7, k8⟩ := hRr.at_ j (by omega)
        have hdj : d.getD j default = (⟨f', i', p', m', a', t', s', e', r'⟩, q', c') := by rw [← HT.out.2.1 j (Nat.le_refl _)]; exact hdk
        have hmem : d.getD j default ∈ d := by simp [hlt]
        obtain ⟨hv, hpp⟩ := hs _ hmem
        rw [hdj] at hv hpp
        have hv1 := (hv.mod hmr (fun x hx e => by simp at e; exact hgf (e ▸ hx))).rd
        have hv2 := hv1.gr ((Gr.refl wr).alloc (objL f' i' p' m' (.slice q' a'.length c') t' s' e' r'))
        have hbr2 := hbr.gr ((Gr.refl wr).alloc (objL f' i' p' m' (.slice q' a'.length c') t' s' e' r'))
        have j1 : (j : Int) < (d.length : Int) := by omega
        have i1 : (i : Int) < (d.length : Int) := by omega
        have HJ := hide (And.intro hdj hRr)
        have hlg := hRr.lt
        have hB := heap_alloc_new wr (objL f' i' p' m' (.slice q' a'.length c') t' s' e' r')
        simp only [pr] at hv2
        simp only at hpp
        clear hdk hdj hmem hv hs hgf hgn hgp hgm hv1 hbr hRr hmr
        go_wp2_with fail
        refine (use1_any (x := ⟨f', i', p', m', a', t', s', e', r'⟩) hbr2 hq hv2 (Nat.le_trans hpp (by decide))).mono ?_
        rintro en w2 ⟨rfl, hg2⟩
        have hB2 := (hg2.mod []).at_ hB (by simp)
        have hC := blk_cell hB2
        have hgw := ((Gr.refl wr).alloc (objL f' i' p' m' (.slice q' a'.length c') t' s' e' r')).trans hg2
        have hR2 := HJ.out.2.gr hgw
        have hfr := hR2.free
        have hcg := hR2.cell i (by omega)
        clear k0 k1 k2 k3 k4 k5 k6 k7 k8 hbr2 hv2 hg2 hB hB2
        generalize hbe : bearsB ⟨f', i', p', m', a', t', s', e', r'⟩ now path.data.toList md = b
        have HBE := hide hbe
        clear hbe
        obtain ⟨gh, rfl⟩ : ∃ x, gk = x + 1 := ⟨gk - 1, by omega⟩
        cases b
        · clear hfr hcg hC
          go_wp2_with fail
          go_roundg gh
          case measure => omega
          case rel =>
            obtain ⟨htk, hdr, hmr⟩ := HT.out
            refine ⟨i, j + 1, d', rfl, by go_num, by omega, by omega, hl, ?_, fun x hx => hdr x (by omega), hR2, hmr.gr hgw⟩
            rw [htk, List.take_succ_eq_append_getElem hlt, List.filter_append]
            have e2 : [d[j]].filter (kpS now path.data.toList md) = [] := by
              refine List.filter_eq_nil_iff.2 fun s hs => ?_
              obtain rfl : s = d[j] := List.mem_singleton.1 hs
              have e3 : d[j] = (⟨f', i', p', m', a', t', s', e', r'⟩, q', c') := by have := HJ.out.1; simpa [hlt] using this
              rw [e3]
              simp [kpS, HBE.out]
            rw [e2, List.append_nil]
        · obtain ⟨u0, hu0⟩ : ∃ u, w2.cell? ⟨g, i * 9, none⟩ = some u := ⟨_, hcg 0 (by omega)⟩
          obtain ⟨u1, hu1⟩ : ∃ u, w2.cell? ⟨g, i * 9 + 1, none⟩ = some u := ⟨_, hcg 1 (by omega)⟩
          obtain ⟨u2, hu2⟩ : ∃ u, w2.cell? ⟨g, i * 9 + 2, none⟩ = some u := ⟨_, hcg 2 (by omega)⟩
          obtain ⟨u3, hu3⟩ : ∃ u, w2.cell? ⟨g, i * 9 + 3, none⟩ = some u := ⟨_, hcg 3 (by omega)⟩
          obtain ⟨u4, hu4⟩ : ∃ u, w2.cell? ⟨g, i * 9 + 4, none⟩ = some u := ⟨_, hcg 4 (by omega)⟩
          obtain ⟨u5, hu5⟩ : ∃ u, w2.cell? ⟨g, i * 9 + 5, none⟩ = some u := ⟨_, hcg 5 (by omega)⟩
          obtain ⟨u6, hu6⟩ : ∃ u, w2.cell? ⟨g, i * 9 + 6, none⟩ = some u := ⟨_, hcg 6 (by omega)⟩
          obtain ⟨u7, hu7⟩ : ∃ u, w2.cell? ⟨g, i * 9 + 7, none⟩ = some u := ⟨_, hcg 7 (by omega)⟩
          obtain ⟨u8, hu8⟩ : ∃ u, w2.cell? ⟨g, i * 9 + 8, none⟩ = some u := ⟨_, hcg 8 (by omega)⟩
          clear hcg
          go_wp2_with fail
          go_roundg gh
          case measure => omega
          case rel =>
            obtain ⟨htk, hdr, hmr⟩ := HT.out
            have e3 : d[j] = (⟨f', i', p', m', a', t', s', e', r'⟩, q', c') := by have := HJ.out.1; simpa [hlt] using this
            refine ⟨i + 1, j + 1, d'.set i (⟨f', i', p', m', a', t', s', e', r'⟩, q', c'), by go_num, by go_num, by omega, by omega, by rw [List.length_set]; exact hl, ?_, fun x hx => ?_, hR2.set i (by omega) (⟨f', i', p', m', a', t', s', e', r'⟩, q', c'), ?_⟩
            · rw [List.take_succ_eq_append_getElem hlt, List.filter_append, ← htk, e3]
              rw [List.take_succ_eq_append_getElem (by rw [List.length_set]; omega), List.take_set_of_le (Nat.le_refl _)]
              congr 1
              have e4 : (d'.set i (⟨f', i', p', m', a', t', s', e', r'⟩, q', c'))[i]'(by rw [List.length_set]; omega) = (⟨f', i', p', m', a', t', s', e', r'⟩, q', c') := by simp
              rw [e4, List.filter_cons, if_pos (by exact HBE.out)]
              rfl
            · rw [← hdr x (by omega)]
              simp [List.getD_eq_getElem?_getD, show i ≠ x by omega]
            · exact mod_setCells g (encS (⟨f', i', p', m', a', t', s', e', r'⟩, q', c')) (i * 9) w2 (hmr.gr hgw) (fun _ => by simp)
      · have hje : j = d.length := by omega
        subst hje
        obtain ⟨vs, hvs, hcl⟩ := run_clear_lease wr 0 g (i * 9) (d.length - i) (cap - i) (by omega) (fun x hx => by
          have h1 := hRr.cell (i + x / 9) (by omega) (x % 9) (Nat.mod_lt _ (by omega))
          have e : (i + x / 9) * 9 + x % 9 = i * 9 + x := by omega
          rw [e] at h1
          rw [h1]
          have h2 : x % 9 < (encS (d'.getD (i + x / 9) default)).length := Nat.mod_lt _ (by omega)
          rw [List.getElem?_eq_getElem h2]
          rfl) hRr.free
        have hRc := hRr.cut i vs
        have hmc := mod_setCells g vs (i * 9) wr hmr (fun _ => by simp)
        have htk := HT.out.1
        rw [List.take_length] at htk
        rw [htk] at hRc
        have hlen : (d.filter (kpS now path.data.toList md)).length = i := by rw [← htk, List.length_take]; omega
        have HL := hide (And.intro hlen (And.intro hRc hmc))
        have hilt : (i : Int) ≤ (d.length : Int) := by omega
        have hicp : (i : Int) ≤ (cap : Int) := by omega
        clear htk hlen hRc hmc hbr hs hvs hRr hmr
        go_wp2_with fail
        go_ret
        obtain ⟨hlen, hRc, hmc⟩ := HL.out
        rw [hlen]
        exact ⟨rfl, hRc, hmc⟩
end Go.Proofs.YtifllaeldcimgaaGreat
