/-
  WALKS: the agenda's Take, Put, Drop, said of the list that it stands for.
-/
import Derived.Test.YtbaphdaipacihaaAgWalk
import Derived.BigRegion
namespace Go.Proofs.Ytbaphdaipacihaa
open Go.RowKit Go.Sort Go.Shelf

theorem Ag.gr {w w' : World} {pa : Nat} {own : List Nat} {l : List Item} (h : Ag w pa own l) (g : Gr w w') : Ag w' pa own l := h.mod (g.mod []) (by simp) (by simp)

/-- the first one gone -/
theorem Ag.gone {w w' : World} {pa : Nat} {own : List Nat} {y : Item} {r : List Item} (h : Ag w pa own (y :: r)) {v v' : Value} {d d' : List Item} (hp : d.Perm (y :: r)) (hd : get d 0 = y)
    (hr : AgR w' pa v' d') (hp' : (get d 0 :: d').Perm d) (ho : ob v' = ob v) : Ag w' pa (ob v) r :=
  ⟨⟨v', d', hr, by rw [hd] at hp'; exact (List.perm_cons y).1 (hp'.trans hp), ho.symm⟩, (List.pairwise_cons.1 h.srt).2, (List.pairwise_cons.1 h.keyed).2, by have := h.small; simp at this; omega⟩

def Took (w : World) (pa : Nat) (own : List Nat) (l : List Item) (now : Int) (e : Ending) (w' : World) : Prop :=
  e = .returned (optV (takeI l now).2) ∧ ∃ own', Ag w' pa own' (takeI l now).1 ∧ AgTo w pa own w' own'

set_option maxHeartbeats 1000000 in
theorem take_any {w : World} {pa : Nat} {own : List Nat} {l : List Item} (h : Ag w pa own l) (now : Int) :
    Calls Try.prog 18 #[.pointer (some ⟨pa, 0, none⟩), .int .i64 now] w fun e w' => Took w pa own l now e w' := by
  have hA := h.gr ((Gr.refl w).alloc (.cells #[.int .i64 0, .int .i64 0, .int .i64 0] 29))
  have lp := h.lt.1
  have lo' := h.lt.2
  cases l with
  | nil =>
    go_enter Try.func18, Try.ntmps18
    go_wp2_with fail
    refine (first_any hA).mono ?_
    rintro e w1 ⟨rfl, hg⟩
    have hA1 := hA.mod hg (by simp) (by simp)
    have hb := hg.at_ (heap_alloc_new w _) (by simp)
    have hC := blk_cell hb
    have hF := blk_free hb
    have hm := (((Gr.refl w).alloc (.cells #[.int .i64 0, .int .i64 0, .int .i64 0] 29)).mod []).then hg
    have hs2 := lt_of_block hb
    clear hg h hA
    simp only [optV, itvO, itv, List.head?_nil]
    go_wp2
    have q := blk_alloc (blk_set (blk_set (blk_set hb 0 (.int .i64 0)) 1 (.int .i64 0)) 2 (.int .i64 0)) (.cells #[.int .i64 0, .int .i64 0, .int .i64 0] 29)
    have q2 := (((hm.setCell (p := ⟨w.heap.size, 0, none⟩) (by simp) (.int .i64 0)).setCell (p := ⟨w.heap.size, 1, none⟩) (by simp) (.int .i64 0)).setCell (p := ⟨w.heap.size, 2, none⟩) (by simp) (.int .i64 0)).alloc (.cells #[.int .i64 0, .int .i64 0, .int .i64 0] 29)
    refine bodyPost_ret (v := optV none) (res_cell2 Try.results18 _ _ rfl q Try.isAgg29 Try.sizeOf29 rfl) rfl ⟨rfl, own, ?_, AgTo.same q2⟩
    exact hA1.mod (S := [w.heap.size]) ((((Mod.refl [w.heap.size] w1).setCell (fun _ => by simp) _).setCell (fun _ => by simp) _).setCell (fun _ => by simp) _ |>.alloc _) (by simp; omega) (fun k hk => by have := lo' k hk; simp; omega)
  | cons y r =>
    obtain ⟨x1, x2, x3⟩ := y
    by_cases hd : x1 ≤ now
    · go_enter Try.func18, Try.ntmps18
      go_wp2_with fail
      refine (first_any hA).mono ?_
      rintro e w1 ⟨rfl, hg⟩
      have hA1 := hA.mod hg (by simp) (by simp)
      have hb := hg.at_ (heap_alloc_new w _) (by simp)
      have hC := blk_cell hb
      have hF := blk_free hb
      have hm := (((Gr.refl w).alloc (.cells #[.int .i64 0, .int .i64 0, .int .i64 0] 29)).mod []).then hg
      have hs2 := lt_of_block hb
      clear hg hA
      simp only [optV, itvO, itv, List.head?_cons]
      have hA2 := hA1.gr ((Gr.refl w1).alloc (.cells #[.int .i64 x1, .int .i64 x2, .int .i64 x3] 29))
      go_wp2_with fail
      obtain ⟨v, d, hr, hp, rfl⟩ := hA2.rep
      have hl := hp.length_eq
      have hsm := h.small
      have hh := head_at hr.heap hp h.srt
      refine (hpop_any hr (by omega) r.length (by rw [hl]; simp)).mono ?_
      rintro e w3 ⟨u, v', d', rfl, hr3, hp3, hm3, ho3⟩
      have hA3 := Ag.gone h hp hh hr3 hp3 ho3
      have hb3 : w3.heap[w1.heap.size]? = some (.cells #[.int .i64 x1, .int .i64 x2, .int .i64 x3] 29 (0, 0)) := hm3.at_ (heap_alloc_new w1 _) (by
        intro hx
        rcases List.mem_cons.1 hx with e | e
        · have := hA1.lt.1; omega
        · have := hA1.lt.2 _ e; omega)
      have hc3 : w3.heap[w.heap.size]? = some (.cells #[.int .i64 0, .int .i64 0, .int .i64 0] 29 (0, 0)) := hm3.at_ (blk_alloc hb _) (by
        intro hx
        rcases List.mem_cons.1 hx with e | e
        · omega
        · have := lo' _ e; omega)
      have hCb := blk_cell hb3
      have hCc := blk_cell hc3
      have hFc := blk_free hc3
      clear hr hp hl hh hr3 hp3 hC hF hA1 hA2
      go_wp2
      have q := blk_set (blk_set (blk_set hc3 0 (.int .i64 x1)) 1 (.int .i64 x2)) 2 (.int .i64 x3)
      refine bodyPost_ret (v := optV (some (x1, x2, x3))) (res_cell2 Try.results18 _ _ rfl q Try.isAgg29 Try.sizeOf29 rfl) rfl ⟨by simp [takeI, hd], ob v, ?_, ?_⟩
      · simp only [takeI, if_pos hd]
        exact hA3.mod (S := [w.heap.size]) (((Mod.refl [w.heap.size] w3).setCell (fun _ => by simp) _).setCell (fun _ => by simp) _ |>.setCell (fun _ => by simp) _) (by simp; omega) (fun k hk => by have := lo' k hk; simp; omega)
      · refine AgTo.of ?_
        have m0 := ((hm.mono (T := pa :: ob v) (by simp)).alloc (.cells #[.int .i64 x1, .int .i64 x2, .int .i64 x3] 29)).then hm3
        exact ((m0.setCell (fun x => absurd x (by simp)) _).setCell (fun x => absurd x (by simp)) _).setCell (fun x => absurd x (by simp)) _
    · go_enter Try.func18, Try.ntmps18
      go_wp2_with fail
      refine (first_any hA).mono ?_
      rintro e w1 ⟨rfl, hg⟩
      have hA1 := hA.mod hg (by simp) (by simp)
      have hb := hg.at_ (heap_alloc_new w _) (by simp)
      have hC := blk_cell hb
      have hF := blk_free hb
      have hm := (((Gr.refl w).alloc (.cells #[.int .i64 0, .int .i64 0, .int .i64 0] 29)).mod []).then hg
      have hs2 := lt_of_block hb
      clear hg h hA
      simp only [optV, itvO, itv, List.head?_cons]
      go_wp2
      have q := blk_alloc (blk_set (blk_set (blk_set hb 0 (.int .i64 0)) 1 (.int .i64 0)) 2 (.int .i64 0)) (.cells #[.int .i64 x1, .int .i64 x2, .int .i64 x3] 29)
      have q2 := (((hm.setCell (p := ⟨w.heap.size, 0, none⟩) (by simp) (.int .i64 0)).setCell (p := ⟨w.heap.size, 1, none⟩) (by simp) (.int .i64 0)).setCell (p := ⟨w.heap.size, 2, none⟩) (by simp) (.int .i64 0)).alloc (.cells #[.int .i64 x1, .int .i64 x2, .int .i64 x3] 29)
      have hd2 : ¬ x1 ≤ now := by omega
      refine bodyPost_ret (v := optV none) (res_cell2 Try.results18 _ _ rfl q Try.isAgg29 Try.sizeOf29 rfl) rfl ⟨by simp [takeI, hd2], own, ?_, AgTo.same q2⟩
      simp only [takeI, if_neg hd2]
      exact hA1.mod (S := [w.heap.size]) ((((Mod.refl [w.heap.size] w1).setCell (fun _ => by simp) _).setCell (fun _ => by simp) _).setCell (fun _ => by simp) _ |>.alloc _) (by simp; omega) (fun k hk => by have := lo' k hk; simp; omega)

def PutTo (w : World) (pa : Nat) (own : List Nat) (l : List Item) (x : Item) (e : Ending) (w' : World) : Prop :=
  e = .returned (.int .i64 (putI l x).2) ∧ ∃ own', Ag w' pa own' (putI l x).1 ∧ AgTo w pa own w' own'

theorem put_nil (x1 x2 x3 : Int) (w : World) : Calls Try.prog 10 #[.pointer none, .agg #[.int .i64 x1, .int .i64 x2, .int .i64 x3]] w fun e w' => e = .returned (.int .i64 1) ∧ Gr w w' := by
  go_enter Try.func10, Try.ntmps10
  go_wp2_with fail
  go_ret
  exact ⟨rfl, by repeat (first | exact Gr.refl _ | apply Gr.drew | apply Gr.alloc)⟩

set_option maxHeartbeats 1000000 in
set_option maxRecDepth 100000 in
theorem put_bad {w : World} {pa : Nat} {own : List Nat} {l : List Item} (h : Ag w pa own l) (x1 x2 x3 : Int) (hb : ¬ okI (x1, x2, x3)) :
    Calls Try.prog 10 #[.pointer (some ⟨pa, 0, none⟩), .agg #[.int .i64 x1, .int .i64 x2, .int .i64 x3]] w fun e w' => PutTo w pa own l (x1, x2, x3) e w' := by
  have fin : ∀ w', Gr w w' → PutTo w pa own l (x1, x2, x3) (.returned (.int .i64 2)) w' := fun w' g =>
    ⟨by simp [putI, hb], own, by simp only [putI, if_pos hb]; exact h.gr g, AgTo.same (g.mod _)⟩
  have F := hide fin
  unfold okI at hb
  simp only at hb
  clear h fin
  by_cases h1 : x1 < 0
  · clear hb
    go_enter Try.func10, Try.ntmps10
    go_wp2_with fail
    go_ret
    exact F.out _ (by repeat (first | exact Gr.refl _ | apply Gr.drew | apply Gr.alloc))
  · by_cases h2 : 4611686018427387904 < x1
    · clear hb
      go_enter Try.func10, Try.ntmps10
      go_wp2_with fail
      go_ret
      exact F.out _ (by repeat (first | exact Gr.refl _ | apply Gr.drew | apply Gr.alloc))
    · by_cases h3 : x2 < 1
      · clear hb
        go_enter Try.func10, Try.ntmps10
        go_wp2_with fail
        go_ret
        exact F.out _ (by repeat (first | exact Gr.refl _ | apply Gr.drew | apply Gr.alloc))
      · have h4 : 4 < x2 := by omega
        clear hb
        go_enter Try.func10, Try.ntmps10
        go_wp2_with fail
        go_ret
        exact F.out _ (by repeat (first | exact Gr.refl _ | apply Gr.drew | apply Gr.alloc))

set_option maxHeartbeats 1000000 in
set_option maxRecDepth 100000 in
theorem put_ok {w : World} {pa : Nat} {own : List Nat} {l : List Item} (h : Ag w pa own l) (x1 x2 x3 : Int) (hk : okI (x1, x2, x3)) :
    Calls Try.prog 10 #[.pointer (some ⟨pa, 0, none⟩), .agg #[.int .i64 x1, .int .i64 x2, .int .i64 x3]] w fun e w' => PutTo w pa own l (x1, x2, x3) e w' := by
  have hk' := hk
  unfold okI at hk'
  simp only at hk'
  obtain ⟨k1, k2, k3, k4⟩ := hk'
  have h0 := h.gr ((Gr.refl w).alloc (.cells #[.int .i64 x1, .int .i64 x2, .int .i64 x3] 29))
  have HK := hide hk
  clear hk
  obtain ⟨v, d, hr, hp, rfl⟩ := h0.rep
  rcases idxD_cases d x2 x3 with ⟨hi, hn⟩ | ⟨k, hkl, hi, hb⟩
  · have hdl : dropI l x2 x3 = l := dropI_none (fun y hy => hn y (hp.mem_iff.2 hy))
    go_enter Try.func10, Try.ntmps10
    go_wp2_with fail
    refine (place_any hr.ag x2 x3).mono ?_
    rintro e w1 ⟨rfl, hg⟩
    rw [hi]
    have hA1 := hr.ag.mod hg (by simp) (by simp)
    have hc := hA1.c0
    have hB := hg.at_ (heap_alloc_new w _) (by simp)
    have hC := blk_cell hB
    have hF := blk_free hB
    obtain ⟨p, cap, rfl, hml⟩ := hA1.slice
    by_cases hfull : d.length = 32
    · have b0 : ((d.length : Int) == 32) = true := by rw [beq_iff_eq]; omega
      clear hn hi
      go_wp2_with fail
      go_ret
      have hfl : l.length = 32 := by rw [← hp.length_eq]; exact hfull
      have e1 : putI l (x1, x2, x3) = (l, 51) := by unfold putI; rw [if_neg (fun x => x HK.out), if_pos ⟨by rw [hdl], hfl⟩]
      have m := (((Gr.refl w).alloc (.cells #[.int .i64 x1, .int .i64 x2, .int .i64 x3] 29)).mod []).then hg
      exact ⟨by rw [e1]; rfl, _, by rw [e1]; exact h0.mod hg (by simp) (by simp), AgTo.same m⟩
    · have b0 : ((d.length : Int) == 32) = false := by rw [beq_eq_false_iff_ne]; omega
      clear hn hi
      go_wp2_with fail
      go_still_tail 6, (by kernel_rfl)
      change wpList _ _ _ _ _ w1.drew
      have hr1 : AgR w1.drew pa (.slice p d.length cap) d := ⟨hA1.gr (Gr.refl w1).drew, hr.heap⟩
      have hsm := h.small
      have hle := hp.length_eq
      have HL := hide hle
      have hm : Mod [] w w1.drew := ((((Gr.refl w).alloc (.cells #[.int .i64 x1, .int .i64 x2, .int .i64 x3] 29)).mod []).then hg).drew
      clear hc hC hF hA1 hle b0
      generalize w1.drew = w2 at hr1 hm ⊢
      go_wp2_with fail
      refine (hpush_any hr1 (by rw [HL.out]; omega) x1 x2 x3).mono ?_
      rintro e w3 ⟨rfl, v', d', hr3, hp3, hm3, ho3⟩
      go_wp2_with fail
      go_ret
      have e1 : putI l (x1, x2, x3) = (insI (x1, x2, x3) l, 0) := by
        unfold putI
        rw [if_neg (fun x => x HK.out), if_neg (fun x => hfull (by rw [HL.out]; exact x.2))]
        show (insI _ (dropI l x2 x3), (0 : Int)) = _
        rw [hdl]
      have q1 := insI_drop_srt (x1, x2, x3) l h.srt
      have q2 := insI_keyed (x1, x2, x3) l h.keyed
      rw [show dropI l ((x1, x2, x3) : Item).2.1 ((x1, x2, x3) : Item).2.2 = l from hdl] at q1 q2
      have hAg : Ag w3 pa (ob v') (insI (x1, x2, x3) l) := ⟨⟨v', d', hr3, hp3.trans ((List.Perm.cons _ hp).trans (insI_perm _ _).symm), rfl⟩, q1, q2, by rw [insI_len]; have := HL.out; omega⟩
      exact ⟨by rw [e1]; rfl, _, by rw [e1]; exact hAg, hm.trans hm3 (by simp) (fun _ a _ => a), fun k hk => (ho3 k hk).imp id (fun a => by have := hm.size; omega)⟩
  · have hkd : Keyed1 d := keyed_perm h.keyed hp.symm
    have i0 : (0 : Int) ≤ (k : Int) := by omega
    have i1 : (k : Int) < (d.length : Int) := by omega
    go_enter Try.func10, Try.ntmps10
    go_wp2_with fail
    refine (place_any hr.ag x2 x3).mono ?_
    rintro e w1 ⟨rfl, hg⟩
    rw [hi]
    have hA1 := hr.ag.mod hg (by simp) (by simp)
    have hc := hA1.c0
    have hB := hg.at_ (heap_alloc_new w _) (by simp)
    have hC := blk_cell hB
    have hF := blk_free hB
    obtain ⟨g, cap, y1, y2, y3, rfl, hx, hml, c1, c2, c3⟩ := item_row hA1 k hkl
    have fz : ∀ o, w1.frozen? ⟨g, o, none⟩ = false := fun o => hA1.row.frozenAt o
    have HX := hide hx
    have HI := hide hi
    have hm : Mod [] w w1 := (((Gr.refl w).alloc (.cells #[.int .i64 x1, .int .i64 x2, .int .i64 x3] 29)).mod []).then hg
    clear hx hi hg
    go_wp2_with fail
    go_region
    have hpn : pa ∉ ob (.slice (some ⟨g, 0, none⟩) d.length cap) := fun hx => by
      have e : pa = g := by simpa [ob, Value.ownBlock] using hx
      exact hA1.apart (by rw [e]; rfl)
    have hm2 : Mod (ob (.slice (some ⟨g, 0, none⟩) d.length cap)) w1 ((((w1.setCell ⟨g, k * 3, none⟩ (.int .i64 x1)).setCell ⟨g, k * 3 + 1, none⟩ (.int .i64 x2)).setCell ⟨g, k * 3 + 2, none⟩ (.int .i64 x3)).drew) :=
      ((((Mod.refl _ w1).setCell (by simp [ob, Value.ownBlock]) _).setCell (by simp [ob, Value.ownBlock]) _).setCell (by simp [ob, Value.ownBlock]) _).drew
    have hA2 : AgH ((((w1.setCell ⟨g, k * 3, none⟩ (.int .i64 x1)).setCell ⟨g, k * 3 + 1, none⟩ (.int .i64 x2)).setCell ⟨g, k * 3 + 2, none⟩ (.int .i64 x3)).drew) pa (.slice (some ⟨g, 0, none⟩) d.length cap) (d.set k (x1, x2, x3)) :=
      ⟨let ⟨T, hT⟩ := hA1.cell; ⟨T, hm2.at_ hT hpn⟩, by rw [List.length_set]; exact drew_row (row_set hA1.row k (x1, x2, x3) hkl), hA1.apart⟩
    generalize (((w1.setCell ⟨g, k * 3, none⟩ (.int .i64 x1)).setCell ⟨g, k * 3 + 1, none⟩ (.int .i64 x2)).setCell ⟨g, k * 3 + 2, none⟩ (.int .i64 x3)).drew = w2 at hA2 hm2 ⊢
    have hgs : ∀ j, j ≠ k → get (d.set k (x1, x2, x3)) j = get d j := fun j hj => by simp [get, Ne.symm hj]
    have hu : HeapLaw.DownInv ltI (get (d.set k (x1, x2, x3))) (d.set k (x1, x2, x3)).length k k := HeapLaw.DownInv.of_set lo hr.heap (by simp) (fun j _ hj => hgs j hj) (by simpa using hkl)
    have hsm := h.small
    have hle := hp.length_eq
    have hp2 : (d.set k (x1, x2, x3)).Perm (insI (x1, x2, x3) (dropI l x2 x3)) := by
      obtain ⟨a, b, e1, ea, e2⟩ := dropI_at hkd hkl hb
      obtain ⟨a', b', e3, e4, ea'⟩ := set_split d k (x1, x2, x3) hkl
      have : a = a' ∧ get d k :: b = get d k :: b' := by
        have := e1.symm.trans e3
        exact List.append_inj this (by omega)
      obtain ⟨rfl, hbb⟩ := this
      have hbb' : b = b' := (List.cons.inj hbb).2
      subst hbb'
      rw [e4]
      refine List.perm_middle.trans ?_
      refine List.Perm.trans (List.Perm.cons _ ?_) (insI_perm _ _).symm
      rw [← e2]
      exact dropI_perm hp x2 x3
    have hlt := dropI_len_lt hkd hkl hb
    have hldp := (dropI_perm hp x2 x3).length_eq
    have HS := hide hsm
    have HLE := hide hle
    have HLT := hide hlt
    have HLD := hide hldp
    clear hle hlt hldp hu hgs hC hF c1 c2 c3 fz hc
    have hu : Hid (HeapLaw.DownInv ltI (get (d.set k (x1, x2, x3))) (d.set k (x1, x2, x3)).length k k) := HeapLaw.DownInv.of_set lo hr.heap (by simp) (fun j _ hj => by simp [get, Ne.symm hj]) (by simpa using hkl)
    go_wp2_with fail
    refine (hfix_any hA2 (by rw [List.length_set, HLE.out]; omega) _ k rfl (by simpa using hkl) hu.out).mono ?_
    rintro e w3 ⟨rfl, d', hs, hh⟩
    go_wp2_with fail
    go_ret
    have e1 : putI l (x1, x2, x3) = (insI (x1, x2, x3) (dropI l x2 x3), 0) := by
      unfold putI
      rw [if_neg (fun x => x HK.out), if_neg (fun x => by
        have a := x.1
        simp only at a
        have := HLT.out
        have := HLD.out
        have := HLE.out
        omega)]
    have hAg : Ag w3 pa (ob (.slice (some ⟨g, 0, none⟩) d.length cap)) (insI (x1, x2, x3) (dropI l x2 x3)) :=
      ⟨⟨_, d', ⟨hs.ag, by rw [hs.len]; exact hh⟩, hs.perm.trans hp2, rfl⟩, insI_drop_srt (x1, x2, x3) l h.srt, insI_keyed (x1, x2, x3) l h.keyed, by
        rw [insI_len]
        have := HLT.out
        have := HLD.out
        have := HLE.out
        omega⟩
    have m1 := hm.trans hm2 (U := pa :: ob (.slice (some ⟨g, 0, none⟩) d.length cap)) (by simp) (fun _ a _ => List.mem_cons_of_mem _ a)
    exact ⟨by rw [e1]; rfl, _, by rw [e1]; exact hAg, AgTo.of (m1.trans hs.mod (fun _ a _ => a) (fun _ a _ => List.mem_cons_of_mem _ a))⟩

theorem put_any {w : World} {pa : Nat} {own : List Nat} {l : List Item} (h : Ag w pa own l) (x1 x2 x3 : Int) :
    Calls Try.prog 10 #[.pointer (some ⟨pa, 0, none⟩), .agg #[.int .i64 x1, .int .i64 x2, .int .i64 x3]] w fun e w' => PutTo w pa own l (x1, x2, x3) e w' := by
  by_cases hk : okI (x1, x2, x3)
  · exact put_ok h x1 x2 x3 hk
  · exact put_bad h x1 x2 x3 hk

theorem drop_nil (kd key : Int) (w : World) : Calls Try.prog 13 #[.pointer none, .int .i64 kd, .int .i64 key] w fun e w' => e = .returned (.bool false) ∧ Gr w w' := by
  go_enter Try.func13, Try.ntmps13
  go_wp2_with fail
  refine (place_nil _ _ _).mono ?_
  rintro e w1 ⟨rfl, hg⟩
  go_wp2_with fail
  go_ret
  exact ⟨rfl, hg⟩
def DropTo (w : World) (pa : Nat) (own : List Nat) (l : List Item) (kd key : Int) (e : Ending) (w' : World) : Prop :=
  e = .returned (.bool (decide ((dropI l kd key).length < l.length))) ∧ ∃ own', Ag w' pa own' (dropI l kd key) ∧ AgTo w pa own w' own'
set_option maxHeartbeats 1000000 in
theorem drop_any {w : World} {pa : Nat} {own : List Nat} {l : List Item} (h : Ag w pa own l) (kd key : Int) :
    Calls Try.prog 13 #[.pointer (some ⟨pa, 0, none⟩), .int .i64 kd, .int .i64 key] w fun e w' => DropTo w pa own l kd key e w' := by
  obtain ⟨v, d, hr, hp, rfl⟩ := h.rep
  have hkd : Keyed1 d := keyed_perm h.keyed hp.symm
  rcases idxD_cases d kd key with ⟨hi, hn⟩ | ⟨k, hkl, hi, hb⟩
  · have hdl : dropI l kd key = l := dropI_none (fun y hy => hn y (hp.mem_iff.2 hy))
    have HD := hide hdl
    clear hdl hn
    go_enter Try.func13, Try.ntmps13
    go_wp2_with fail
    refine (place_any hr.ag kd key).mono ?_
    rintro e w1 ⟨rfl, hg⟩
    rw [hi]
    clear hi
    go_wp2_with fail
    go_ret
    exact ⟨by rw [HD.out]; simp, _, by rw [HD.out]; exact h.mod hg (by simp) (by simp), AgTo.same hg⟩
  · obtain ⟨a, b, e1, ea, e2⟩ := dropI_at hkd hkl hb
    have hlt := dropI_len_lt hkd hkl hb
    have hldp := (dropI_perm hp kd key).length_eq
    have hle := hp.length_eq
    have hsm := h.small
    have hn : d.length = (d.length - 1) + 1 := by omega
    have HN := hide hn
    have hfin : Hid ((dropI l kd key).length < l.length) := by show (dropI l kd key).length < l.length; omega
    have hds : d.length ≤ 100000 := by omega
    have E1 := hide e1
    have E2 := hide e2
    clear hn hlt hldp hle e1 e2
    go_enter Try.func13, Try.ntmps13
    go_wp2_with fail
    refine (place_any hr.ag kd key).mono ?_
    rintro e w1 ⟨rfl, hg⟩
    rw [hi]
    clear hi
    have hr1 : AgR w1 pa v d := ⟨hr.ag.mod hg (by simp) (by simp), hr.heap⟩
    go_wp2_with fail
    refine (hremove_any hr1 hds (d.length - 1) HN.out _ k rfl (by omega)).mono ?_
    rintro e w3 ⟨u, v', d', rfl, hr3, hp3, hm3, ho3⟩
    go_wp2_with fail
    go_ret
    have hpd : d'.Perm (dropI l kd key) := by
      refine List.Perm.trans ?_ (dropI_perm hp kd key)
      rw [E2.out]
      have := hp3.trans ((List.Perm.of_eq E1.out).trans List.perm_middle)
      exact (List.perm_cons _).1 this
    refine ⟨by rw [decide_eq_true hfin.out]; rfl, _, ⟨⟨v', d', hr3, hpd, rfl⟩, dropI_srt h.srt _ _, dropI_keyed h.keyed _ _, by have := hfin.out; omega⟩, hg.trans hm3 (by simp) (fun _ a _ => a), fun k hk => .inl (by rw [← ho3]; exact hk)⟩
end Go.Proofs.Ytbaphdaipacihaa
