/-
  WALKS: container/heap's up and down over the agenda's items, by the methods of *items.
-/
import Derived.Test.YtbaphdaipacihaaCmp
namespace Go.Proofs.Ytbaphdaipacihaa
open Go.RowKit

/-- the agenda at block pa holds the slice v, whose items are d -/
structure AgH (w : World) (pa : Nat) (v : Value) (d : List Item) : Prop where
  cell : ∃ T, w.heap[pa]? = some (.cells #[v] T (0, 0))
  row : w.ownsRow 0 29 3 v d.length (d.flatMap encI)
  apart : v.ownBlock ≠ some pa
def ob (v : Value) : List Nat := v.ownBlock.toList
def get (d : List Item) : Nat → Item := fun k => d.getD k default

section
variable {w w' : World} {pa : Nat} {v : Value} {d : List Item}
theorem AgH.c0 (h : AgH w pa v d) : w.cell? ⟨pa, 0, none⟩ = some v := let ⟨_, hc⟩ := h.cell; cell_of_one hc
theorem AgH.f0 (h : AgH w pa v d) : w.frozen? ⟨pa, 0, none⟩ = false := let ⟨_, hc⟩ := h.cell; free_of_one hc
theorem AgH.lt (h : AgH w pa v d) : pa < w.heap.size := let ⟨_, hc⟩ := h.cell; lt_of_block hc
theorem AgH.mod (h : AgH w pa v d) {S : List Nat} (m : Mod S w w') (h1 : pa ∉ S) (h2 : ∀ k, k ∈ ob v → k ∉ S) : AgH w' pa v d :=
  ⟨let ⟨T, hc⟩ := h.cell; ⟨T, m.at_ hc h1⟩, m.row h.row (fun k hk => h2 k (by simp [ob, hk])), h.apart⟩
theorem AgH.gr (h : AgH w pa v d) (m : Gr w w') : AgH w' pa v d := h.mod (m.mod []) (by simp) (by simp)
theorem AgH.form (h : AgH w pa v d) (i : Nat) (hi : i < d.length) : ∃ g cap, v = .slice (some ⟨g, 0, none⟩) d.length cap ∧ d.length ≤ maxLen := by
  rcases h.row.2 with ⟨_, hn⟩ | ⟨g, cap, cur, hv, _, _, h1, h2, _⟩
  · omega
  · exact ⟨g, cap, hv, by omega⟩
theorem AgH.slice (h : AgH w pa v d) : ∃ p cap, v = .slice p d.length cap ∧ d.length ≤ maxLen := by
  rcases h.row.2 with ⟨hv, hn⟩ | ⟨g, cap, cur, hv, _, _, h1, h2, _⟩
  · exact ⟨none, 0, by rw [hn]; exact hv, by omega⟩
  · exact ⟨_, cap, hv, by omega⟩
end

set_option maxHeartbeats 400000 in
theorem less_b {w : World} {pa : Nat} {v : Value} {d : List Item} (h : AgH w pa v d) (i j : Int) (ni nj : Nat) (hi : i = ni) (hj : j = nj) (hni : ni < d.length) (hnj : nj < d.length) (b : Bool) (hb : ltI (get d ni) (get d nj) = b) :
    Calls Try.prog 75 #[v, .int .i64 i, .int .i64 j] w fun e w' => e = .returned (.bool b) ∧ Gr w w' := by
  obtain ⟨g, cap, rfl, _⟩ := h.form ni hni
  obtain ⟨c1, c2, c3⟩ := row_cell h.row rfl ni hni
  obtain ⟨d1, d2, d3⟩ := row_cell h.row rfl nj hnj
  subst hi hj hb
  exact less_raw _ _ _ _ _ _ _ _ _ _ _ w hni hnj c1 c2 c3 d1 d2 d3

set_option maxHeartbeats 400000 in
set_option maxRecDepth 100000 in
theorem swap_same_raw (g n cap i : Nat) (a1 a2 a3 : Int) (w : World) (hi : i < n)
   (c1 : w.cell? ⟨g, i * 3, none⟩ = some (.int .i64 a1)) (c2 : w.cell? ⟨g, i * 3 + 1, none⟩ = some (.int .i64 a2)) (c3 : w.cell? ⟨g, i * 3 + 2, none⟩ = some (.int .i64 a3))
   (fz : ∀ o, w.frozen? ⟨g, o, none⟩ = false) :
    Calls Try.prog 76 #[.slice (some ⟨g, 0, none⟩) n cap, .int .i64 i, .int .i64 i] w
      fun e w' => e = .returned (.tuple #[]) ∧ w' = ((((((w.setCell ⟨g, i * 3, none⟩ (.int .i64 a1)).setCell ⟨g, i * 3 + 1, none⟩ (.int .i64 a2)).setCell ⟨g, i * 3 + 2, none⟩ (.int .i64 a3)).setCell ⟨g, i * 3, none⟩ (.int .i64 a1)).setCell ⟨g, i * 3 + 1, none⟩ (.int .i64 a2)).setCell ⟨g, i * 3 + 2, none⟩ (.int .i64 a3)).drew := by
  have i0 : (0 : Int) ≤ (i : Int) := by omega
  have i1 : (i : Int) < (n : Int) := by omega
  go_enter Try.func76, Try.ntmps76
  go_wp2_with fail
  go_region
  go_end0
  exact ⟨rfl, rfl⟩

theorem set_self (d : List Item) (i : Nat) : d.set i (d.getD i default) = d := by
  apply List.ext_getElem?
  intro k
  simp only [List.getElem?_set, List.getD_eq_getElem?_getD]
  by_cases h : i = k
  · subst h
    by_cases hi : i < d.length
    · simp [hi]
    · simp [hi]
  · simp [h]

theorem drew_row {w : World} {base : Nat} {e : TypeId} {size : Nat} {v : Value} {n : Nat} {xs : List Value} (h : w.ownsRow base e size v n xs) : w.drew.ownsRow base e size v n xs := h

theorem swap_b {w : World} {pa : Nat} {v : Value} {d : List Item} (h : AgH w pa v d) (i j : Int) (ni nj : Nat) (hi : i = ni) (hj : j = nj) (hni : ni < d.length) (hnj : nj < d.length) :
    Calls Try.prog 76 #[v, .int .i64 i, .int .i64 j] w fun e w' => e = .returned (.tuple #[]) ∧ AgH w' pa v (swl d ni nj) ∧ Mod (ob v) w w' := by
  obtain ⟨g, cap, rfl, _⟩ := h.form ni hni
  obtain ⟨c1, c2, c3⟩ := row_cell h.row rfl ni hni
  obtain ⟨d1, d2, d3⟩ := row_cell h.row rfl nj hnj
  have fz : ∀ o, w.frozen? ⟨g, o, none⟩ = false := fun o => h.row.frozenAt o
  subst hi hj
  have m : ∀ (W : World) (o1 o2 o3 o4 o5 o6 : Nat) (v1 v2 v3 v4 v5 v6 : Value), Mod (ob (.slice (some ⟨g, 0, none⟩) d.length cap)) W (((((((W.setCell ⟨g, o1, none⟩ v1).setCell ⟨g, o2, none⟩ v2).setCell ⟨g, o3, none⟩ v3).setCell ⟨g, o4, none⟩ v4).setCell ⟨g, o5, none⟩ v5).setCell ⟨g, o6, none⟩ v6).drew) := by
    intro W o1 o2 o3 o4 o5 o6 v1 v2 v3 v4 v5 v6
    exact ((((((((Mod.refl _ W).setCell (by simp [ob, Value.ownBlock]) _).setCell (by simp [ob, Value.ownBlock]) _).setCell (by simp [ob, Value.ownBlock]) _).setCell (by simp [ob, Value.ownBlock]) _).setCell (by simp [ob, Value.ownBlock]) _).setCell (by simp [ob, Value.ownBlock]) _).drew)
  have hp : pa ∉ ob (.slice (some ⟨g, 0, none⟩) d.length cap) := fun hx => by
    have e : pa = g := by simpa [ob, Value.ownBlock] using hx
    exact h.apart (by rw [e]; rfl)
  have key : ∀ W', Mod (ob (.slice (some ⟨g, 0, none⟩) d.length cap)) w W' → W'.ownsRow 0 29 3 (.slice (some ⟨g, 0, none⟩) d.length cap) d.length ((swl d ni nj).flatMap encI) → AgH W' pa (.slice (some ⟨g, 0, none⟩) d.length cap) (swl d ni nj) := fun W' hm hr =>
    ⟨let ⟨T, hc⟩ := h.cell; ⟨T, hm.at_ hc hp⟩, by rw [swl_length]; exact hr, h.apart⟩
  by_cases e : ni = nj
  · subst e
    refine (swap_same_raw _ _ _ _ _ _ _ w hni c1 c2 c3 fz).mono ?_
    rintro e w' ⟨rfl, rfl⟩
    refine ⟨rfl, key _ (m _ _ _ _ _ _ _ _ _ _ _ _ _) ?_, m _ _ _ _ _ _ _ _ _ _ _ _ _⟩
    exact drew_row (row_set (row_set h.row ni (d.getD ni default) hni) ni (d.getD ni default) (by simpa using hni))
  · refine (swap_raw _ _ _ _ _ _ _ _ _ _ _ w hni hnj e c1 c2 c3 d1 d2 d3 fz).mono ?_
    rintro e w' ⟨rfl, rfl⟩
    refine ⟨rfl, key _ (m _ _ _ _ _ _ _ _ _ _ _ _ _) ?_, m _ _ _ _ _ _ _ _ _ _ _ _ _⟩
    exact drew_row (row_set (row_set h.row ni (d.getD nj default) hni) nj (d.getD ni default) (by simpa using hnj))

section
variable (pa : Nat) (v : Value) (w : World)
theorem meth_less (h : w.cell? ⟨pa, 0, none⟩ = some v) : (method 220 60 (.pointer (some ⟨pa, 0, none⟩)) "Less").run Try.prog w = .ok (75, v) w := by
  have e : (method 220 60 (.pointer (some ⟨pa, 0, none⟩)) "Less").run Try.prog w = (Sem.load .plain ⟨pa, 0, none⟩ fun v => Sem.pure (75, v)).run Try.prog w := by kernel_rfl
  rw [e]; simp [Sem.run, h]
theorem meth_swap (h : w.cell? ⟨pa, 0, none⟩ = some v) : (method 220 60 (.pointer (some ⟨pa, 0, none⟩)) "Swap").run Try.prog w = .ok (76, v) w := by
  have e : (method 220 60 (.pointer (some ⟨pa, 0, none⟩)) "Swap").run Try.prog w = (Sem.load .plain ⟨pa, 0, none⟩ fun v => Sem.pure (76, v)).run Try.prog w := by kernel_rfl
  rw [e]; simp [Sem.run, h]
theorem meth_len (h : w.cell? ⟨pa, 0, none⟩ = some v) : (method 220 60 (.pointer (some ⟨pa, 0, none⟩)) "Len").run Try.prog w = .ok (74, v) w := by
  have e : (method 220 60 (.pointer (some ⟨pa, 0, none⟩)) "Len").run Try.prog w = (Sem.load .plain ⟨pa, 0, none⟩ fun v => Sem.pure (74, v)).run Try.prog w := by kernel_rfl
  rw [e]; simp [Sem.run, h]
theorem meth_push : (method 220 60 (.pointer (some ⟨pa, 0, none⟩)) "Push").run Try.prog w = .ok (78, .pointer (some ⟨pa, 0, none⟩)) w := by kernel_rfl
theorem meth_pop : (method 220 60 (.pointer (some ⟨pa, 0, none⟩)) "Pop").run Try.prog w = .ok (77, .pointer (some ⟨pa, 0, none⟩)) w := by kernel_rfl
end

/-- between two states of the heap: the items are the same, those from n on stand where they stood, and nothing but the row was written -/
structure Sifted (w : World) (pa : Nat) (v : Value) (d : List Item) (n : Nat) (w' : World) (d' : List Item) : Prop where
  ag : AgH w' pa v d'
  perm : d'.Perm d
  far : ∀ k, n ≤ k → get d' k = get d k
  mod : Mod (ob v) w w'
theorem Sifted.refl {w : World} {pa : Nat} {v : Value} {d : List Item} (h : AgH w pa v d) (n : Nat) : Sifted w pa v d n w d := ⟨h, .refl _, fun _ _ => rfl, Mod.refl _ _⟩
theorem Sifted.trans {w w1 w2 : World} {pa : Nat} {v : Value} {d d1 d2 : List Item} {n : Nat} (a : Sifted w pa v d n w1 d1) (b : Sifted w1 pa v d1 n w2 d2) : Sifted w pa v d n w2 d2 :=
  ⟨b.ag, b.perm.trans a.perm, fun k hk => (b.far k hk).trans (a.far k hk), a.mod.then b.mod⟩
theorem Sifted.gr {w w1 w2 : World} {pa : Nat} {v : Value} {d d1 : List Item} {n : Nat} (a : Sifted w pa v d n w1 d1) (g : Gr w1 w2) : Sifted w pa v d n w2 d1 :=
  ⟨a.ag.gr g, a.perm, a.far, a.mod.gr g⟩
theorem Sifted.swap {w w1 w2 : World} {pa : Nat} {v : Value} {d d1 : List Item} {n i j : Nat} (a : Sifted w pa v d n w1 d1) (hi : i < n) (hj : j < n) (hn : n ≤ d.length) (h : AgH w2 pa v (swl d1 i j)) (m : Mod (ob v) w1 w2) : Sifted w pa v d n w2 (swl d1 i j) := by
  have hl := a.perm.length_eq
  refine ⟨h, (swl_perm d1 i j (by omega) (by omega)).trans a.perm, fun k hk => ?_, a.mod.then m⟩
  rw [← a.far k hk]
  have := congrFun (swl_get d1 i j (by omega) (by omega)) k
  simp only [HeapLaw.sw] at this
  rw [if_neg (by omega), if_neg (by omega)] at this
  exact this
theorem Sifted.len {w w1 : World} {pa : Nat} {v : Value} {d d1 : List Item} {n : Nat} (a : Sifted w pa v d n w1 d1) : d1.length = d.length := a.perm.length_eq
theorem get_swl (d : List Item) (i j : Nat) (hi : i < d.length) (hj : j < d.length) : get (swl d i j) = HeapLaw.sw (get d) i j := swl_get d i j hi hj

def UpRel (w : World) (pa : Nat) (v : Value) (d : List Item) (n : Nat) (j : Value) (wr : World) : Prop :=
  ∃ (jn : Nat) (dk : List Item), j = .int .i64 jn ∧ Sifted w pa v d n wr dk ∧ HeapLaw.UpInv ltI (get dk) n jn
/-- what up and down leave: a heap up to n -/
def Heaped (w : World) (pa : Nat) (v : Value) (d : List Item) (n : Nat) (w' : World) : Prop := ∃ d', Sifted w pa v d n w' d' ∧ HeapLaw.Heap ltI (get d') n

set_option maxHeartbeats 1000000 in
set_option maxRecDepth 100000 in
theorem up_any {w : World} {pa : Nat} {v : Value} {d : List Item} (h : AgH w pa v d) (n : Nat) (hn : n ≤ d.length) (j : Int) (nj : Nat) (hj : j = nj) (hu : HeapLaw.UpInv ltI (get d) n nj) :
    Calls Try.prog 34 #[.iface 60 (.pointer (some ⟨pa, 0, none⟩)), .int .i64 j] w fun e w' => e = .returned (.tuple #[]) ∧ Heaped w pa v d n w' := by
  subst hj
  have hm : d.length ≤ 9223372036854775807 := by obtain ⟨_, _, _, hm⟩ := h.slice; exact hm
  have m1 := meth_less pa v
  have m2 := meth_swap pa v
  go_enter Try.func34, Try.ntmps34
  go_wp2
  go_loopw [1, 4] (fun j _ wr => UpRel w pa v d n j wr) (fun j _ _ => (intOf j).toNat)
  case atStart => exact ⟨nj, d, rfl, Sifted.refl h n, hu⟩
  case round =>
    obtain ⟨jn, dk, rfl, hs, hinv⟩ := hrel
    have hl := hs.len
    have HL := hide hl
    clear hl hu h
    have hA := hs.ag
    have hc := hA.c0
    have hat := hinv.at_
    by_cases hj0 : jn = 0
    · subst hj0
      go_wp2
      go_end0
      exact ⟨rfl, dk, hs, HeapLaw.up_done hinv (.inl rfl)⟩
    · have hp : (((jn : Int) - 1) / 2) = ((HeapLaw.par jn : Nat) : Int) := by unfold HeapLaw.par; omega
      have hpl : HeapLaw.par jn < jn := HeapLaw.par_lt (by omega)
      have hb : (((jn : Int) - 1) / 2 == (jn : Int)) = false := by simp; omega
      have HP := hide hp
      have hlt1 : jn < dk.length := by rw [HL.out]; omega
      clear hp
      by_cases hl : ltI (get dk jn) (get dk (HeapLaw.par jn)) = true
      · go_wp2_with fail
        refine (less_b hA _ _ jn (HeapLaw.par jn) rfl HP.out hlt1 (by omega) true hl).mono ?_
        rintro e w1 ⟨rfl, hg⟩
        have hA1 := hA.gr hg
        have hc1 := hA1.c0
        go_wp2_with fail
        refine (swap_b hA1 _ _ (HeapLaw.par jn) jn HP.out rfl (by omega) hlt1).mono ?_
        rintro e w2 ⟨rfl, hA2, hm2⟩
        have hs2 := (hs.gr hg).swap (i := HeapLaw.par jn) (j := jn) (by omega) hat hn hA2 hm2
        have hi2 := HeapLaw.up_step lo hinv (by omega) hl
        rw [← get_swl dk _ _ (by omega) hlt1] at hi2
        clear hc hc1 hA hA1 hA2 hm2 hg hs hinv m1 m2
        go_wp2_with fail
        go_roundw
        case rel => exact ⟨HeapLaw.par jn, swl dk (HeapLaw.par jn) jn, by rw [HP.out], hs2, hi2⟩
        case measure => rw [show intOf (.int .i64 (((jn : Int) - 1) / 2)) = ((HeapLaw.par jn : Nat) : Int) from HP.out]; simp [intOf]; omega
      · have hl' : ltI (get dk jn) (get dk (HeapLaw.par jn)) = false := by simpa using hl
        go_wp2_with fail
        refine (less_b hA _ _ jn (HeapLaw.par jn) rfl HP.out hlt1 (by omega) false hl').mono ?_
        rintro e w1 ⟨rfl, hg⟩
        go_wp2_with fail
        go_end0
        exact ⟨rfl, dk, hs.gr hg, HeapLaw.up_done hinv (.inr hl')⟩

/-- what down leaves: it says whether it moved; if it did the heap is one, if not only the place i0 may be out of order against what is above it -/
def DownRel (w : World) (pa : Nat) (v : Value) (d : List Item) (n i0 : Nat) (i : Value) (wr : World) : Prop :=
  ∃ (jn : Nat) (dk : List Item), i = .int .i64 jn ∧ jn < n ∧ Sifted w pa v d n wr dk ∧ HeapLaw.DownInv ltI (get dk) n i0 jn
def Downed (w : World) (pa : Nat) (v : Value) (d : List Item) (n i0 : Nat) (e : Ending) (w' : World) : Prop :=
  ∃ (b : Bool) (dk : List Item) (i : Nat), e = .returned (.bool b) ∧ Sifted w pa v d n w' dk ∧ i0 ≤ i ∧ (b = true ↔ i0 < i) ∧ (i0 < i → HeapLaw.Heap ltI (get dk) n) ∧ (i = i0 → HeapLaw.UpInv ltI (get dk) n i0)
theorem kids_of {n jn : Nat} {p : Nat → Prop} (h1 : p (2 * jn + 1)) (h2 : 2 * jn + 1 + 1 < n → p (2 * jn + 1 + 1)) : ∀ k, 0 < k → k < n → HeapLaw.par k = jn → p k := by
  intro k k0 kn kp
  rcases (HeapLaw.par_two k0).1 kp with rfl | rfl
  · exact h1
  · exact h2 kn

set_option maxHeartbeats 4000000 in
set_option maxRecDepth 100000 in
theorem down_any {w : World} {pa : Nat} {v : Value} {d : List Item} (h : AgH w pa v d) (n : Nat) (hn : n ≤ d.length) (hsm : d.length ≤ 1000000) (i nn : Int) (ni : Nat) (hi : i = ni) (hnn : nn = n) (hin : ni < n) (hu : HeapLaw.DownInv ltI (get d) n ni ni) :
    Calls Try.prog 33 #[.iface 60 (.pointer (some ⟨pa, 0, none⟩)), .int .i64 i, .int .i64 nn] w fun e w' => Downed w pa v d n ni e w' := by
  subst hi hnn
  have m1 := meth_less pa v
  have m2 := meth_swap pa v
  go_enter Try.func33, Try.ntmps33
  go_wp2
  go_loopw [7] (fun j wr => DownRel w pa v d n ni j wr) (fun j _ => n - (intOf j).toNat)
  case atStart => exact ⟨ni, d, rfl, hin, Sifted.refl h n, hu⟩
  case round =>
    obtain ⟨jn, dk, rfl, hjn, hs, hinv⟩ := hrel
    have hl := hs.len
    have HL := hide hl
    clear hl hu h
    have hA := hs.ag
    have hc := hA.c0
    by_cases hj0 : n ≤ 2 * jn + 1
    · have hfin := HeapLaw.down_done hinv (fun k k0 kn kp => by have := (HeapLaw.par_two k0).1 kp; omega) hin
      have hge := hinv.ge
      clear hc hA hinv m1 m2
      go_wp2_with fail
      go_ret
      exact ⟨_, dk, jn, rfl, hs, hge, by simp, hfin⟩
    · have hil : jn < dk.length := by rw [HL.out]; omega
      have hj1l : 2 * jn + 1 < dk.length := by rw [HL.out]; omega
      have hp1 : HeapLaw.par (2 * jn + 1) = jn := (HeapLaw.par_two (by omega)).2 (.inl rfl)
      have hp2 : HeapLaw.par (2 * jn + 1 + 1) = jn := (HeapLaw.par_two (by omega)).2 (.inr rfl)
      by_cases hj2 : 2 * jn + 1 + 1 < n
      · have hj2l : 2 * jn + 1 + 1 < dk.length := by rw [HL.out]; omega
        by_cases h12 : ltI (get dk (2 * jn + 1 + 1)) (get dk (2 * jn + 1)) = true
        · have hpc : Hid (HeapLaw.par (2 * jn + 1 + 1) = jn) := hp2
          have hmin := kids_of (n := n) (jn := jn) (p := fun k => ltI (get dk k) (get dk (2 * jn + 1 + 1)) = false) (lo.asym h12) (fun _ => lo.irr _)
          clear hp1 hp2
          have hcl : 2 * jn + 1 + 1 < dk.length := by rw [HL.out]; omega
          by_cases hl : ltI (get dk (2 * jn + 1 + 1)) (get dk jn) = true
          · go_wp2_with fail
            refine (less_b hA _ _ (2 * jn + 1 + 1) (2 * jn + 1) (by simp) (by simp) hj2l hj1l true h12).mono ?_
            rintro e w1 ⟨rfl, hg1⟩
            have hA1 := hA.gr hg1
            have hc1 := hA1.c0
            go_wp2_with fail
            refine (less_b hA1 _ _ (2 * jn + 1 + 1) jn (by simp) rfl hcl hil true hl).mono ?_
            rintro e w2 ⟨rfl, hg2⟩
            have hA2 := hA1.gr hg2
            have hc2 := hA2.c0
            go_wp2_with fail
            refine (swap_b hA2 _ _ jn (2 * jn + 1 + 1) rfl (by simp) hil hcl).mono ?_
            rintro e w3 ⟨rfl, hA3, hm3⟩
            have hs3 := ((hs.gr hg1).gr hg2).swap (i := jn) (j := 2 * jn + 1 + 1) (by omega) (by omega) hn hA3 hm3
            have hi3 := HeapLaw.down_step lo hinv (j := 2 * jn + 1 + 1) (by omega) (by omega) hpc hmin hl
            rw [← get_swl dk _ _ hil hcl] at hi3
            clear hc hc1 hc2 hA hA1 hA2 hA3 hm3 hg1 hg2 hs hinv m1 m2
            go_wp2_with fail
            go_roundw
            case rel => exact ⟨2 * jn + 1 + 1, swl dk jn (2 * jn + 1 + 1), by simp, by omega, hs3, hi3⟩
            case measure => simp [intOf]; omega
          · have hl' : ltI (get dk (2 * jn + 1 + 1)) (get dk jn) = false := by simpa using hl
            go_wp2_with fail
            refine (less_b hA _ _ (2 * jn + 1 + 1) (2 * jn + 1) (by simp) (by simp) hj2l hj1l true h12).mono ?_
            rintro e w1 ⟨rfl, hg1⟩
            have hA1 := hA.gr hg1
            have hc1 := hA1.c0
            go_wp2_with fail
            refine (less_b hA1 _ _ (2 * jn + 1 + 1) jn (by simp) rfl hcl hil false hl').mono ?_
            rintro e w2 ⟨rfl, hg2⟩
            have hfin := HeapLaw.down_done hinv (fun k k0 kn kp => lo.le_tr hl' (hmin k k0 kn kp)) (by have := hinv.ge; omega)
            have hs2 := (hs.gr hg1).gr hg2
            have hge := hinv.ge
            clear hc hc1 hA hA1 hg1 hg2 hs hinv m1 m2
            go_wp2_with fail
            go_ret
            exact ⟨_, dk, jn, rfl, hs2, hge, by simp, hfin⟩
        · have h12 : ltI (get dk (2 * jn + 1 + 1)) (get dk (2 * jn + 1)) = false := by simpa using h12
          have hpc : Hid (HeapLaw.par (2 * jn + 1) = jn) := hp1
          have hmin := kids_of (n := n) (jn := jn) (p := fun k => ltI (get dk k) (get dk (2 * jn + 1)) = false) (lo.irr _) (fun _ => h12)
          clear hp1 hp2
          have hcl : 2 * jn + 1 < dk.length := by rw [HL.out]; omega
          by_cases hl : ltI (get dk (2 * jn + 1)) (get dk jn) = true
          · go_wp2_with fail
            refine (less_b hA _ _ (2 * jn + 1 + 1) (2 * jn + 1) (by simp) (by simp) hj2l hj1l false h12).mono ?_
            rintro e w1 ⟨rfl, hg1⟩
            have hA1 := hA.gr hg1
            have hc1 := hA1.c0
            go_wp2_with fail
            refine (less_b hA1 _ _ (2 * jn + 1) jn (by simp) rfl hcl hil true hl).mono ?_
            rintro e w2 ⟨rfl, hg2⟩
            have hA2 := hA1.gr hg2
            have hc2 := hA2.c0
            go_wp2_with fail
            refine (swap_b hA2 _ _ jn (2 * jn + 1) rfl (by simp) hil hcl).mono ?_
            rintro e w3 ⟨rfl, hA3, hm3⟩
            have hs3 := ((hs.gr hg1).gr hg2).swap (i := jn) (j := 2 * jn + 1) (by omega) (by omega) hn hA3 hm3
            have hi3 := HeapLaw.down_step lo hinv (j := 2 * jn + 1) (by omega) (by omega) hpc hmin hl
            rw [← get_swl dk _ _ hil hcl] at hi3
            clear hc hc1 hc2 hA hA1 hA2 hA3 hm3 hg1 hg2 hs hinv m1 m2
            go_wp2_with fail
            go_roundw
            case rel => exact ⟨2 * jn + 1, swl dk jn (2 * jn + 1), by simp, by omega, hs3, hi3⟩
            case measure => simp [intOf]; omega
          · have hl' : ltI (get dk (2 * jn + 1)) (get dk jn) = false := by simpa using hl
            go_wp2_with fail
            refine (less_b hA _ _ (2 * jn + 1 + 1) (2 * jn + 1) (by simp) (by simp) hj2l hj1l false h12).mono ?_
            rintro e w1 ⟨rfl, hg1⟩
            have hA1 := hA.gr hg1
            have hc1 := hA1.c0
            go_wp2_with fail
            refine (less_b hA1 _ _ (2 * jn + 1) jn (by simp) rfl hcl hil false hl').mono ?_
            rintro e w2 ⟨rfl, hg2⟩
            have hfin := HeapLaw.down_done hinv (fun k k0 kn kp => lo.le_tr hl' (hmin k k0 kn kp)) (by have := hinv.ge; omega)
            have hs2 := (hs.gr hg1).gr hg2
            have hge := hinv.ge
            clear hc hc1 hA hA1 hg1 hg2 hs hinv m1 m2
            go_wp2_with fail
            go_ret
            exact ⟨_, dk, jn, rfl, hs2, hge, by simp, hfin⟩
      · have hpc : Hid (HeapLaw.par (2 * jn + 1) = jn) := hp1
        have hmin := kids_of (n := n) (jn := jn) (p := fun k => ltI (get dk k) (get dk (2 * jn + 1)) = false) (lo.irr _) (fun x => absurd x hj2)
        clear hp1 hp2
        have hcl : 2 * jn + 1 < dk.length := by rw [HL.out]; omega
        by_cases hl : ltI (get dk (2 * jn + 1)) (get dk jn) = true
        · have hg1 := Gr.refl wr
          have hA1 := hA
          have hc1 := hc
          go_wp2_with fail
          refine (less_b hA1 _ _ (2 * jn + 1) jn (by simp) rfl hcl hil true hl).mono ?_
          rintro e w2 ⟨rfl, hg2⟩
          have hA2 := hA1.gr hg2
          have hc2 := hA2.c0
          go_wp2_with fail
          refine (swap_b hA2 _ _ jn (2 * jn + 1) rfl (by simp) hil hcl).mono ?_
          rintro e w3 ⟨rfl, hA3, hm3⟩
          have hs3 := ((hs.gr hg1).gr hg2).swap (i := jn) (j := 2 * jn + 1) (by omega) (by omega) hn hA3 hm3
          have hi3 := HeapLaw.down_step lo hinv (j := 2 * jn + 1) (by omega) (by omega) hpc hmin hl
          rw [← get_swl dk _ _ hil hcl] at hi3
          clear hc hc1 hc2 hA hA1 hA2 hA3 hm3 hg1 hg2 hs hinv m1 m2
          go_wp2_with fail
          go_roundw
          case rel => exact ⟨2 * jn + 1, swl dk jn (2 * jn + 1), by simp, by omega, hs3, hi3⟩
          case measure => simp [intOf]; omega
        · have hl' : ltI (get dk (2 * jn + 1)) (get dk jn) = false := by simpa using hl
          have hg1 := Gr.refl wr
          have hA1 := hA
          have hc1 := hc
          go_wp2_with fail
          refine (less_b hA1 _ _ (2 * jn + 1) jn (by simp) rfl hcl hil false hl').mono ?_
          rintro e w2 ⟨rfl, hg2⟩
          have hfin := HeapLaw.down_done hinv (fun k k0 kn kp => lo.le_tr hl' (hmin k k0 kn kp)) (by have := hinv.ge; omega)
          have hs2 := (hs.gr hg1).gr hg2
          have hge := hinv.ge
          clear hc hc1 hA hA1 hg1 hg2 hs hinv m1 m2
          go_wp2_with fail
          go_ret
          exact ⟨_, dk, jn, rfl, hs2, hge, by simp, hfin⟩
end Go.Proofs.Ytbaphdaipacihaa
