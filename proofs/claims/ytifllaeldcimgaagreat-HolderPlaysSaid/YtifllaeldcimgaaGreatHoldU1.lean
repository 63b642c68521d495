/-
  WALKS: layer 17: Use's closure; slices.IndexFunc at leases.
-/
import Derived.Test.YtifllaeldcimgaaGreatHoldR
namespace Go.Proofs.YtifllaeldcimgaaGreat
open Go.RowKit

/-- the boxes that Use's closure reads -/
structure UBox (w : World) (bn bp bm : Nat) (now : Int) (path : ByteArray) (md : Int) : Prop where
  c1 : w.cell? ⟨bn, 0, none⟩ = some (.int .i64 now)
  c2 : w.cell? ⟨bp, 0, none⟩ = some (.string path)
  c3 : w.cell? ⟨bm, 0, none⟩ = some (.int .i64 md)
theorem UBox.mod {w w' : World} {bn bp bm : Nat} {now : Int} {path : ByteArray} {md : Int} (h : UBox w bn bp bm now path md) {S : List Nat} (m : Mod S w w') (h1 : bn ∉ S) (h2 : bp ∉ S) (h3 : bm ∉ S) : UBox w' bn bp bm now path md :=
  ⟨m.kept h.c1 h1, m.kept h.c2 h2, m.kept h.c3 h3⟩
theorem UBox.gr {w w' : World} {bn bp bm : Nat} {now : Int} {path : ByteArray} {md : Int} (h : UBox w bn bp bm now path md) (g : Gr w w') : UBox w' bn bp bm now path md := h.mod (g.mod []) (by simp) (by simp) (by simp)
set_option maxRecDepth 100000 in
theorem use1_any {w : World} {bn bp bm : Nat} {now : Int} {path : ByteArray} {md : Int} (hb : UBox w bn bp bm now path md) (hq : path.size ≤ 9223372036854775807) {x : Lease} {q : Option Addr} {c : Nat} (hv : RdN w (.slice q x.stamp.length c) x.stamp) (hp : x.path.size ≤ 9223372036854775807) :
    Calls Tryz.prog 41 #[.agg #[.int .i64 x.frm, .int .i64 x.id, .string x.path, .int .i64 x.mode, .slice q x.stamp.length c, .int .i64 x.term, .int .i64 x.sent, .int .i64 x.expiry, .bool x.recd], .pointer (some ⟨bn, 0, none⟩), .pointer (some ⟨bp, 0, none⟩), .pointer (some ⟨bm, 0, none⟩)] w fun e w' => e = .returned (.bool (!bearsB x now path.data.toList md)) ∧ Gr w w' := by
  obtain ⟨f, i, p, m, a, t, s, e, r⟩ := x
  simp only at hv hp ⊢
  obtain ⟨h1, h2, h3⟩ := hb
  have l1 : bn < w.heap.size := World.block_lt_of_cell? w _ h1
  have l2 : bp < w.heap.size := World.block_lt_of_cell? w _ h2
  have l3 : bm < w.heap.size := World.block_lt_of_cell? w _ h3
  have G := hide ((Gr.refl w).alloc (objL f i p m (.slice q a.length c) t s e r))
  obtain ⟨b, hbb⟩ : ∃ b, bearsB ⟨f, i, p, m, a, t, s, e, r⟩ now path.data.toList md = b := ⟨_, rfl⟩
  rw [hbb]
  have HB := hide hbb
  clear hbb
  have hv1 := hv.gr ((Gr.refl w).alloc (objL f i p m (.slice q a.length c) t s e r))
  clear hv
  go_enter Tryz.func41, Tryz.ntmps41
  go_wp2_with fail
  refine (bears_any hv1 f i m t s e p r hp now path hq md).mono ?_
  rintro en w' ⟨rfl, hg⟩
  rw [HB.out]
  clear h1 h2 h3 hv1 HB
  go_wp2_with fail
  go_ret
  exact ⟨rfl, G.out.trans hg⟩
/-- a row of leases, cell by cell -/
structure RowS (w : World) (g : Nat) (d : List SL) : Prop where
  cell : ∀ i, i < d.length → ∀ j, j < 9 → w.cell? ⟨g, i * 9 + j, none⟩ = (encS (d.getD i default))[j]?
  free : ∀ o, w.frozen? ⟨g, o, none⟩ = false
  lt : g < w.heap.size
theorem RowS.of {w : World} {base g n cap : Nat} {T : TypeId} {d : List SL} (h : w.ownsRow base T 9 (.slice (some ⟨g, 0, none⟩) n cap) n (d.flatMap encS)) (hn : n = d.length) : RowS w g d := by
  subst hn
  refine ⟨fun i hi j hj => ?_, fun o => h.frozenAt o, (h.lt g rfl).2⟩
  rw [h.cellAt _ (by omega), flat_get encS 9 encS_len d i j hi hj]
theorem RowS.mod {w w' : World} {g : Nat} {d : List SL} (h : RowS w g d) {S : List Nat} (m : Mod S w w') (hg : g ∉ S) : RowS w' g d :=
  ⟨fun i hi j hj => (m.cell (x := ⟨g, i * 9 + j, none⟩) h.lt hg).trans (h.cell i hi j hj), fun o => by
    have := m.block g h.lt hg
    have e : w'.frozen? ⟨g, o, none⟩ = w.frozen? ⟨g, o, none⟩ := by simp [World.frozen?, this]
    rw [e]; exact h.free o, Nat.lt_of_lt_of_le h.lt m.size⟩
theorem RowS.gr {w w' : World} {g : Nat} {d : List SL} (h : RowS w g d) (gr : Gr w w') : RowS w' g d := h.mod (gr.mod []) (by simp)
/-- the nine cells of one of the row's leases -/
theorem RowS.at_ {w : World} {g : Nat} {d : List SL} (h : RowS w g d) (k : Nat) (hk : k < d.length) :
    ∃ f i p m a t s e r q c, d.getD k default = (⟨f, i, p, m, a, t, s, e, r⟩, q, c) ∧ w.cell? ⟨g, k * 9, none⟩ = some (.int .i64 f) ∧ w.cell? ⟨g, k * 9 + 1, none⟩ = some (.int .i64 i) ∧ w.cell? ⟨g, k * 9 + 2, none⟩ = some (.string p) ∧
      w.cell? ⟨g, k * 9 + 3, none⟩ = some (.int .i64 m) ∧ w.cell? ⟨g, k * 9 + 4, none⟩ = some (.slice q a.length c) ∧ w.cell? ⟨g, k * 9 + 5, none⟩ = some (.int .i64 t) ∧ w.cell? ⟨g, k * 9 + 6, none⟩ = some (.int .i64 s) ∧
      w.cell? ⟨g, k * 9 + 7, none⟩ = some (.int .i64 e) ∧ w.cell? ⟨g, k * 9 + 8, none⟩ = some (.bool r) := by
  have hc := h.cell k hk
  generalize d.getD k default = x at hc
  obtain ⟨⟨f, i, p, m, a, t, s, e, r⟩, q, c⟩ := x
  exact ⟨f, i, p, m, a, t, s, e, r, q, c, rfl, hc 0 (by omega), hc 1 (by omega), hc 2 (by omega), hc 3 (by omega), hc 4 (by omega), hc 5 (by omega), hc 6 (by omega), hc 7 (by omega), hc 8 (by omega)⟩
/-- what Use's closure strikes -/
def delS (now : Int) (path : List UInt8) (md : Int) (s : SL) : Bool := !bearsB s.1 now path md
def UIdx (w : World) (d : List SL) (now : Int) (path : ByteArray) (md : Int) (i : Value) (wr : World) : Prop := ∃ k : Nat, k ≤ d.length ∧ i = .int .i64 k ∧ (∀ j, j < k → delS now path.data.toList md (d.getD j default) = false) ∧ Gr w wr
set_option maxHeartbeats 1000000 in
set_option maxRecDepth 100000 in
theorem uindex_any {w : World} {bn bp bm : Nat} {now : Int} {path : ByteArray} {md : Int} (hb : UBox w bn bp bm now path md) (hq : path.size ≤ 9223372036854775807) {g cap : Nat} {d : List SL} {f : List Nat} (hR : RowS w g d) (hn : d.length ≤ 100000)
    (hs : ∀ s, s ∈ d → LsV w f (pr s) ∧ s.1.path.size ≤ 27) :
    Calls Tryz.prog 68 #[.slice (some ⟨g, 0, none⟩) d.length cap, .func (.func 41) #[] #[.pointer (some ⟨bn, 0, none⟩), .pointer (some ⟨bp, 0, none⟩), .pointer (some ⟨bm, 0, none⟩)]] w fun e w' =>
      (e = .returned (.int .i64 (-1)) ∧ (∀ j, j < d.length → delS now path.data.toList md (d.getD j default) = false) ∧ Gr w w') ∨
      ∃ k : Nat, k < d.length ∧ e = .returned (.int .i64 k) ∧ (∀ j, j < k → delS now path.data.toList md (d.getD j default) = false) ∧ delS now path.data.toList md (d.getD k default) = true ∧ Gr w w' := by
  have HS := hide hs
  clear hs
  go_enter Tryz.func68, Tryz.ntmps68
  go_wp2_with fail
  go_loopw [8] (fun i wr => UIdx w d now path md i wr) (fun i _ => d.length - (intOf i).toNat)
  case atStart => exact ⟨0, Nat.zero_le _, rfl, by simp, Gr.refl _⟩
  case round =>
    obtain ⟨k, hk, rfl, hd, hg⟩ := hrel
    have HD := hide (And.intro hd hg)
    have hRr := hR.gr hg
    have hbr := hb.gr hg
    clear hd hR hb
    by_cases hlt : k < d.length
    · obtain ⟨f', i', p', m', a', t', s', e', r', q', c', hdk, k0, k1, k2, k3, k4, k5, k6, k7, k8⟩ := hRr.at_ k hlt
      have hmem : d.getD k default ∈ d := by simp [hlt]
      obtain ⟨hv, hpp⟩ := HS.out _ hmem
      rw [hdk] at hv hpp
      have hv1 := hv.rd.gr hg
      have i1 : (0 : Int) ≤ (k : Int) := by omega
      have i2 : (k : Int) < (d.length : Int) := by omega
      have HK := hide hdk
      simp only [pr] at hv1
      simp only at hpp
      clear hdk hmem hv hRr hg
      go_wp2_with fail
      refine (use1_any (x := ⟨f', i', p', m', a', t', s', e', r'⟩) hbr hq hv1 (Nat.le_trans hpp (by decide))).mono ?_
      rintro en w2 ⟨rfl, hg2⟩
      clear k0 k1 k2 k3 k4 k5 k6 k7 k8 hbr hv1
      generalize hbe : bearsB ⟨f', i', p', m', a', t', s', e', r'⟩ now path.data.toList md = b
      have HBE := hide hbe
      clear hbe
      cases b
      · go_wp2_with fail
        go_ret
        exact .inr ⟨k, hlt, rfl, HD.out.1, by rw [HK.out]; simp [delS, HBE.out], HD.out.2.trans hg2⟩
      · go_wp2_with fail
        go_roundw
        case rel => exact ⟨k + 1, by omega, by go_num, fun j hj => by
          by_cases e : j = k
          · subst e; rw [HK.out]; simp [delS, HBE.out]
          · exact HD.out.1 j (by omega), HD.out.2.trans hg2⟩
        case measure => simp [intOf]; omega
    · clear hRr hbr
      go_wp2_with fail
      go_ret
      exact .inl ⟨rfl, fun j hj => HD.out.1 j (by omega), HD.out.2⟩
end Go.Proofs.YtifllaeldcimgaaGreat
