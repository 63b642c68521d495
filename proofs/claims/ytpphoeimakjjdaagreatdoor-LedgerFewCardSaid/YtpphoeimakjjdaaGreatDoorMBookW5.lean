/-
  BookW4 BookW5: see the remarks below.
-/
import Derived.Test.YtpphoeimakjjdaaGreatDoorMBookW3
import Derived.Test.YtpphoeimakjjdaaGreatDoorMResC
import Derived.Test.YtpphoeimakjjdaaGreatDoorMAppend
import Derived.Test.YtpphoeimakjjdaaGreatDoorMTerm
/-
  WALKS: layer 11: stamps cloned, twins; the place of an Id; is it the new book; limits.
-/
namespace Go.Proofs.YtpphoeimakjjdaaGreatDoor
open Go.RowKit

section
variable {P : Program}
/-- a copy, laid behind an empty row of one's own -/
theorem wpList_append_copy2 {ops : Array Oper} {rest : List Oper} {o : Oper} {a : Act} {Q : Exit → Act → World → Prop} (w : World) (hgd : o.guard = none) (s x : Operand) (t : TypeId)
    (ho : o.op = .call { callee := .builtin .append, args := #[s, x], argTypes := #[t, t] })
    (base : Nat) (e : TypeId) (i : TypeInfo) (ht : P.underlying t = some (.slice e)) (hi : P.info? e = some i) (hz : i.zero = some (.int .i64 0)) (hsize : i.size = 1) (hby : i.bytes = 8)
    {b0 c0 : Nat} (hs : a.eval s = .slice (some ⟨b0, 0, none⟩) 0 c0) (hown : w.ownsRow base e 1 (.slice (some ⟨b0, 0, none⟩) 0 c0) 0 []) (hbase : base ≤ w.heap.size) {v : Value} {m : List Int} (hx : a.eval x = v) (hv : RdN w v m) (hsm : m.length ≤ 1000000)
    (h : ∀ v' w', w'.ownsRow base e 1 v' m.length (m.map (Value.int .i64)) → Mod [b0] w w' → wpList P ops Q rest (a.put o.dst v') w') : wpList P ops Q (o :: rest) a w := by
  by_cases hm : m = []
  · subst hm
    obtain ⟨p, c, rfl⟩ := hv.len
    have src : Src P i.size t (.slice p 0 c) 0 [] w := by
      cases p with
      | none => exact Src.ofNil w ht c
      | some ad => exact Src.ofSlice w ht ad 0 c [] (by simp) (fun _ _ h => by simp at h) (fun _ h => by cases h)
    have hr := run_append_nothing w t t o.type e i ht hi (some ⟨b0, 0, none⟩) 0 c0 (Nat.zero_le _) _ src
    refine wpList_plain hgd fun K hK => ?_
    unfold Oper.wp execOp
    simp only [List.length_nil] at hx
    simp only [ho, resolve, invoke, builtin, Sem.run_bind, Sem.run_pure, Result.andThen_ok, List.map_toArray, List.map_cons, List.map_nil, hs, hx, hr]
    exact hK _ _ (h _ _ hown (Mod.refl _ _))
  · have hpos : 0 < m.length := List.length_pos_iff.2 hm
    rcases hv.2 with ⟨p, c, _, rfl⟩ | ⟨b, off, cap, rfl, hb, hc⟩
    · exact absurd rfl hm
    · refine wpList_append_lies w hgd s x t ho base e i (.int .i64 0) 1 8 ht hi hz hsize hby rfl (by decide) _ 0 [] hs hown ⟨b, off, none⟩ m.length cap (m.map (Value.int .i64)) hx (by simp) ?_ (by simp [Value.oneCell']) hpos (by unfold maxLen; omega) (by omega) hbase ?_
      · intro j u hu
        obtain ⟨hj, rfl⟩ := List.getElem?_eq_some_iff.1 hu
        rw [List.length_map] at hj
        have := hc j hj
        rw [Addr.add_lit, this]
        simp [hj]
      · intro g cap' w' hown hg hat
        simp only [Nat.zero_add, List.nil_append] at hown ⊢
        exact h _ _ hown ((Mod.refl [b0] w).grown hg (fun k e _ => by simp [Value.ownBlock] at e; simp [e]))
end
/-- a list of counters in a row of its own -/
def NewI (w : World) (s : List Int) (e : Ending) (w' : World) : Prop := ∃ v, e = .returned v ∧ w'.ownsRow w.heap.size 3 1 v s.length (s.map (Value.int .i64)) ∧ Mod [] w w'
set_option maxRecDepth 100000 in
theorem clone_any {w : World} {v : Value} {s : List Int} (h : RdN w v s) (hs : s.length ≤ 1000000) :
    Calls Tryz.prog 124 #[v] w fun e w' => NewI w s e w' := by
  obtain ⟨i0, hi0, hz0, hs0, hb0⟩ := info_parts info_int
  obtain ⟨q, c, rfl⟩ := h.len
  cases q with
  | none =>
    have h0 : s = [] := by
      rcases h.2 with ⟨p, c', _, h0⟩ | ⟨b, off, cap, hv, _⟩
      · exact h0
      · simp at hv
    subst h0
    clear h
    have hn : ∀ w, (binOp BinOp.eql 38 (.slice none 0 c) (.slice none 0 0)).run Tryz.prog w = .ok (.bool true) w := fun w => by kernel_rfl
    go_enter Tryz.func124, Tryz.ntmps124
    go_wp2_with fail
    go_ret
    exact ⟨_, rfl, World.ownsRow_nil _ _ _ _, Mod.refl _ _⟩
  | some a =>
    have hv1 := h.gr ((Gr.refl w).alloc (.cells #[] 3))
    have hown : (w.alloc (.cells #[] 3)).ownsRow w.heap.size 3 1 (.slice (some ⟨w.heap.size, 0, none⟩) 0 0) 0 [] := World.ownsRow_made w #[] 0 (Nat.le_refl _) (Nat.zero_le _) rfl
    clear h
    have hn : ∀ w, (binOp BinOp.eql 38 (.slice (some a) s.length c) (.slice none 0 0)).run Tryz.prog w = .ok (.bool false) w := fun w => by kernel_rfl
    go_enter Tryz.func124, Tryz.ntmps124
    go_wp2_with (
      at_builtin
      refine wpList_append_copy2 _ rfl _ _ 38 rfl w.heap.size 3 i0 Tryz.underlying38 hi0 hz0 hs0 hb0 rfl hown (by simp) rfl hv1 hs ?_
      intro v' w2 ho hm)
    go_ret
    exact ⟨_, rfl, ho, ((Mod.refl [] w).alloc _).trans hm (by simp) (fun x hx hlt => by simp at hx; omega)⟩
/-- a grant whose stamp is a new row -/
def NewG (w : World) (g : Grt) (e : Ending) (w' : World) : Prop := ∃ v, e = .returned (aggG g v) ∧ w'.ownsRow w.heap.size 3 1 v g.stamp.length (g.stamp.map (Value.int .i64)) ∧ Mod [] w w'
set_option maxRecDepth 100000 in
theorem twinG_any {w : World} {g : Grt} {v : Value} (hv : RdN w v g.stamp) (hs : g.stamp.length ≤ 1000000) :
    Calls Tryz.prog 91 #[aggG g v] w fun e w' => NewG w g e w' := by
  obtain ⟨id, ho, pa, mo, st, te⟩ := g
  simp only at hv hs
  unfold aggG cellsG NewG
  simp only
  have g2 := ((Gr.refl w).alloc (.cells #[.int .i64 id, .int .i64 ho, .string pa, .int .i64 mo, v, .int .i64 te] 40)).alloc (.cells #[.int .i64 0, .int .i64 0, .string { data := #[] }, .int .i64 0, .slice none 0 0, .int .i64 0] 40)
  have b1 := blk_alloc (heap_alloc_new w (.cells #[.int .i64 id, .int .i64 ho, .string pa, .int .i64 mo, v, .int .i64 te] 40)) (.cells #[.int .i64 0, .int .i64 0, .string { data := #[] }, .int .i64 0, .slice none 0 0, .int .i64 0] 40)
  have b2 := heap_alloc_new (w.alloc (.cells #[.int .i64 id, .int .i64 ho, .string pa, .int .i64 mo, v, .int .i64 te] 40)) (.cells #[.int .i64 0, .int .i64 0, .string { data := #[] }, .int .i64 0, .slice none 0 0, .int .i64 0] 40)
  have hv2 := hv.gr g2
  have e2 : (w.alloc (.cells #[.int .i64 id, .int .i64 ho, .string pa, .int .i64 mo, v, .int .i64 te] 40)).heap.size = w.heap.size + 1 := by simp
  rw [e2] at b2
  have B := hide (And.intro b1 (And.intro b2 g2))
  have hcl := clone_any hv2 hs
  clear b1 b2 hv g2 hv2
  go_enter Tryz.func91, Tryz.ntmps91
  go_wp2_with fail
  refine hcl.mono ?_
  rintro e w2 ⟨v', rfl, ho, hm⟩
  obtain ⟨b1, b2, g2⟩ := B.out
  have c1 := hm.at_ b1 (by simp)
  have c2 := hm.at_ b2 (by simp)
  have hm0 := (g2.mod []).then hm
  have ho' : w2.ownsRow w.heap.size 3 1 v' st.length (st.map (Value.int .i64)) := row_base ho g2.size
  have ho2 : ∀ k, k ∈ ob v' → w.heap.size + 1 < k := fun k hk => by have := (ob_of_row ho k hk).1; simp at this; omega
  have HO2 := hide ho2
  obtain ⟨p', c', hv'⟩ := (rdN_of_row ho').len
  subst hv'
  have C := hide (And.intro c1 c2)
  have C1 := blk_cell c1
  have C2 := blk_cell c2
  have F1 := blk_free c1
  have F2 := blk_free c2
  have hb2 : w.heap.size + 1 < w2.heap.size := lt_of_block c2
  clear B b1 b2 e2 hcl hm ho g2 ho2 c1 c2
  go_wp2_with fail
  have q := stL_all (blk_other C.out.2 (a := ⟨w.heap.size, 4, none⟩) (by simp) (.slice p' st.length c')) [.int .i64 id, .int .i64 ho, .string pa, .int .i64 mo, .slice p' st.length c', .int .i64 te] rfl
  have qm := stL_mod (S := [w.heap.size, w.heap.size + 1]) (w0 := w2) (r := w.heap.size + 1) (fun _ => by simp) [.int .i64 id, .int .i64 ho, .string pa, .int .i64 mo, .slice p' st.length c', .int .i64 te] 0 _ ((Mod.refl [w.heap.size, w.heap.size + 1] w2).setCell (p := ⟨w.heap.size, 4, none⟩) (fun _ => by simp) (.slice p' st.length c'))
  refine bodyPost_ret (v := .agg #[.int .i64 id, .int .i64 ho, .string pa, .int .i64 mo, .slice p' st.length c', .int .i64 te]) (res_cell1 Tryz.results91 _ _ rfl q Tryz.isAgg40 Tryz.sizeOf40) rfl ⟨_, rfl, ?_, ?_⟩
  · exact qm.row ho' (fun k hk => by have := HO2.out k (by simpa [ob] using hk); simp; omega)
  · exact hm0.trans qm (by simp) (fun x hx hlt => by simp at hx; omega)
end Go.Proofs.YtpphoeimakjjdaaGreatDoor
/-
  WALKS: layer 11: the place of an Id; is it the new book; limits.
-/
namespace Go.Proofs.YtpphoeimakjjdaaGreatDoor
open Go.RowKit

theorem pos_eq {id : Int} : ∀ (l : List Grt) (k : Nat), k ≤ l.length → (∀ t, t < k → (l.getD t default).id < id) → (k < l.length → id ≤ (l.getD k default).id) → posG l id = k
  | [], k, hk, _, _ => by
    have : k = 0 := by simpa using hk
    subst this; rfl
  | x :: r, 0, _, _, h2 => by
    have := h2 (by simp)
    simp only [List.getD_cons_zero] at this
    rw [posG_cons, if_neg (by omega)]
  | x :: r, k + 1, hk, h1, h2 => by
    have h0 := h1 0 (by omega)
    simp only [List.getD_cons_zero] at h0
    rw [posG_cons, if_pos h0, pos_eq r k (by simpa using hk) (fun t ht => by simpa using h1 (t + 1) (by omega)) (fun h => by simpa using h2 (by simpa using h))]
theorem srt_at {l : List Grt} (hs : SrtG l) {a b : Nat} (h : a < b) (hb : b < l.length) : (l.getD a default).id < (l.getD b default).id := by
  have := (List.pairwise_iff_getElem.1 hs) a b (by omega) hb h
  simp [List.getD, hb, show a < l.length by omega]
  exact this
theorem has_eq {l : List Grt} (hs : SrtG l) {id : Int} {k : Nat} (hp : posG l id = k) : hasG l id = (decide (k < l.length) && decide ((l.getD k default).id = id)) := by
  rw [Bool.eq_iff_iff, has_at hs, hp]
  simp
set_option maxRecDepth 100000 in
theorem at1_any (g : Grt) (v : Value) (id : Int) (w : World) :
    Calls Tryz.prog 156 #[aggG g v, .int .i64 id] w fun e w' => e = .returned (.int .i64 (cmpInt g.id id)) ∧ Mod [] w w' := by
  obtain ⟨i, ho, pa, mo, st, te⟩ := g
  unfold aggG cellsG
  simp only
  generalize hc : cmpInt i id = c
  have hcm := fun W : World => compare_int i id W
  rw [hc] at hcm
  clear hc
  go_enter Tryz.func156, Tryz.ntmps156
  go_wp2_with (go_at_call 157; refine (hcm _).mono ?_; rintro e w1 ⟨rfl, rfl⟩)
  go_ret
  exact ⟨rfl, (Mod.refl _ _).alloc _⟩
def SeaRel (w : World) (n : Nat) (ids : Nat → Int) (id : Int) (i j : Value) (wr : World) : Prop :=
  ∃ lo hi : Nat, i = .int .i64 lo ∧ j = .int .i64 hi ∧ lo ≤ hi ∧ hi ≤ n ∧ (∀ t, t < lo → ids t < id) ∧ (∀ t, hi ≤ t → t < n → id ≤ ids t) ∧ Mod [] w wr
set_option maxHeartbeats 2000000 in
set_option maxRecDepth 100000 in
theorem sea_any {w : World} {base : Nat} {v : Value} {lv : List (Grt × Value)} (h : GrM w base v lv) (hs : SrtG (lv.map Prod.fst)) (hn : lv.length ≤ 1000000) (id : Int) :
    Calls Tryz.prog 155 #[v, .int .i64 id, .func (.func 156) #[] #[]] w fun e w' =>
      e = .returned (.tuple #[.int .i64 (posG (lv.map Prod.fst) id : Nat), .bool (hasG (lv.map Prod.fst) id)]) ∧ Mod [] w w' := by
  obtain ⟨q, c, rfl, _⟩ := h.shape
  have hlm : (lv.map Prod.fst).length = lv.length := by simp
  have hget : ∀ t, t < lv.length → (lv.map Prod.fst).getD t default = (lv.getD t default).1 := fun t ht => by simp [ht]
  obtain ⟨PP, hPP⟩ : ∃ PP, posG (lv.map Prod.fst) id = PP := ⟨_, rfl⟩
  obtain ⟨BB, hBB⟩ : ∃ BB, hasG (lv.map Prod.fst) id = BB := ⟨_, rfl⟩
  rw [hPP, hBB]
  have HP := hide (And.intro hPP hBB)
  have HH := hide (And.intro h (And.intro hs (And.intro hlm hget)))
  clear h hs hlm hget hPP hBB
  go_enter Tryz.func155, Tryz.ntmps155
  go_wp2_with fail
  go_loopw [9, 10] (fun i j wr => SeaRel w lv.length (fun t => (lv.getD t default).1.id) id i j wr) (fun i j _ => (intOf j).toNat - (intOf i).toNat)
  case atStart => exact ⟨0, lv.length, rfl, rfl, Nat.zero_le _, Nat.le_refl _, fun t ht => absurd ht (Nat.not_lt_zero _), fun t h1 h2 => by omega, Mod.refl _ _⟩
  case round =>
    obtain ⟨lo, hi, rfl, rfl, hlh, hhn, h1, h2, hm⟩ := hrel
    have I := hide (And.intro h1 h2)
    have HM := hide hm
    clear h1 h2
    by_cases hlt : lo < hi
    · obtain ⟨m, hmid⟩ : ∃ m, m = (lo + hi) / 2 := ⟨_, rfl⟩
      have hm1 : lo ≤ m := by omega
      have hm2 : m < hi := by omega
      obtain ⟨b, rfl, _, _, hc, hf, _⟩ := (HH.out.1.mod hm (by simp)).at_ m (by omega)
      have c0 := hc 0 (by decide)
      have c1 := hc 1 (by decide)
      have c2 := hc 2 (by decide)
      have c3 := hc 3 (by decide)
      have c4 := hc 4 (by decide)
      have c5 := hc 5 (by decide)
      generalize hg : lv.getD m default = pr at c0 c1 c2 c3 c4 c5
      obtain ⟨⟨gi, ho, pa, mo, st, te⟩, sv⟩ := pr
      simp [encG, cellsG] at c0 c1 c2 c3 c4 c5
      have HG := hide hg
      have HMID := hide hmid
      have hsh : ((lo : Int) + (hi : Int)) / 2 = (m : Int) := by omega
      have hmn : (m : Int) < (lv.length : Int) := by omega
      have hmn' : m < lv.length := by omega
      have hat := fun (W : World) => at1_any ⟨gi, ho, pa, mo, st, te⟩ sv id W
      unfold aggG cellsG at hat
      simp only at hat
      generalize hcmp : cmpInt gi id = cc at hat
      have HC := hide hcmp
      clear hc hg hmid hcmp hm
      go_wp2_with (go_at_call 156; refine (hat _).mono ?_; rintro e w1 ⟨rfl, hm1⟩)
      · rename_i hlt0
        have hgi : gi < id := by
          rcases cmpInt_cases gi id with ⟨a, _⟩ | ⟨a, e⟩ | ⟨a, e⟩
          · exact a
          · have := HC.out; omega
          · have := HC.out; omega
        refine ⟨⟨m + 1, hi, by go_num, rfl, by omega, hhn, fun t ht => ?_, I.out.2, HM.out.then hm1⟩, by simp [intOf]; omega⟩
        have hs := HH.out.2.1
        by_cases e : t = m
        · subst e
          show (lv.getD t default).1.id < id
          rw [HG.out]; exact hgi
        · have := srt_at hs (a := t) (b := m) (by omega) (by rw [HH.out.2.2.1]; omega)
          rw [HH.out.2.2.2 t (by omega), HH.out.2.2.2 m hmn', HG.out] at this
          exact Int.lt_trans this hgi
      · rename_i hlt0
        have hgi : id ≤ gi := by
          rcases cmpInt_cases gi id with ⟨a, e⟩ | ⟨a, e⟩ | ⟨a, e⟩
          · have := HC.out; omega
          · omega
          · omega
        refine ⟨⟨lo, m, rfl, rfl, by omega, by omega, I.out.1, fun t ht htn => ?_, HM.out.then hm1⟩, by simp [intOf]; omega⟩
        have hs := HH.out.2.1
        by_cases e : t = m
        · subst e
          show id ≤ (lv.getD t default).1.id
          rw [HG.out]; exact hgi
        · have := srt_at hs (a := m) (b := t) (by omega) (by rw [HH.out.2.2.1]; omega)
          rw [HH.out.2.2.2 t (by omega), HH.out.2.2.2 m hmn', HG.out] at this
          exact Int.le_trans hgi (Int.le_of_lt this)
    · have hlo : hi = lo := by omega
      subst hlo
      have hp : posG (lv.map Prod.fst) id = hi := pos_eq _ hi (by rw [HH.out.2.2.1]; exact hhn) (fun t ht => by rw [HH.out.2.2.2 t (by omega)]; exact I.out.1 t ht) (fun hx => by
        rw [HH.out.2.2.1] at hx
        rw [HH.out.2.2.2 hi hx]; exact I.out.2 hi (Nat.le_refl _) hx)
      have hh := has_eq HH.out.2.1 hp
      rw [HH.out.2.2.1, HP.out.2] at hh
      rw [HP.out.1] at hp
      subst hp
      by_cases hx : PP < lv.length
      · obtain ⟨b, rfl, _, _, hc, hf, _⟩ := (HH.out.1.mod hm (by simp)).at_ PP hx
        rw [HH.out.2.2.2 PP hx] at hh
        have c0 := hc 0 (by decide)
        have c1 := hc 1 (by decide)
        have c2 := hc 2 (by decide)
        have c3 := hc 3 (by decide)
        have c4 := hc 4 (by decide)
        have c5 := hc 5 (by decide)
        generalize hg : lv.getD PP default = pr at c0 c1 c2 c3 c4 c5 hh
        obtain ⟨⟨gi, ho, pa, mo, st, te⟩, sv⟩ := pr
        simp [encG, cellsG] at c0 c1 c2 c3 c4 c5
        simp only [hx, decide_true, Bool.true_and] at hh
        subst hh
        have hmn : (PP : Int) < (lv.length : Int) := by omega
        have hat := fun (W : World) => at1_any ⟨gi, ho, pa, mo, st, te⟩ sv id W
        unfold aggG cellsG at hat
        simp only at hat
        have hce : (cmpInt gi id == 0) = decide (gi = id) := by
          rw [Bool.eq_iff_iff, beq_iff_eq, decide_eq_true_eq]
          rcases cmpInt_cases gi id with ⟨a, e⟩ | ⟨a, e⟩ | ⟨a, e⟩ <;> omega
        generalize hcmp : cmpInt gi id = cc at hat hce
        have HC := hide hce
        clear hc hg hcmp hm hce
        go_wp2_with (go_at_call 156; refine (hat _).mono ?_; rintro e w1 ⟨rfl, hm1⟩)
        all_goals (go_ret2; refine ⟨?_, HM.out.then hm1⟩; rw [← HC.out]; first | done | (simp [*]; done))
      · have hh2 : BB = false := by rw [hh, decide_eq_false hx]; rfl
        subst hh2
        have hx' : ¬ (PP : Int) < (lv.length : Int) := by omega
        clear hh hm
        go_wp2_with fail
        go_ret2
        exact ⟨rfl, HM.out⟩
theorem at_any {w : World} {base : Nat} {v : Value} {lv : List (Grt × Value)} (h : GrM w base v lv) (hs : SrtG (lv.map Prod.fst)) (hn : lv.length ≤ 1000000) (id : Int) :
    Calls Tryz.prog 121 #[v, .int .i64 id] w fun e w' =>
      e = .returned (.tuple #[.int .i64 (posG (lv.map Prod.fst) id : Nat), .bool (hasG (lv.map Prod.fst) id)]) ∧ Mod [] w w' := by
  have hsea := sea_any h hs hn id
  obtain ⟨q, c, rfl, _⟩ := h.shape
  generalize posG (lv.map Prod.fst) id = k at hsea
  generalize hasG (lv.map Prod.fst) id = B at hsea
  clear h hs
  go_enter Tryz.func121, Tryz.ntmps121
  go_wp2_with fail
  refine hsea.mono ?_
  rintro e w1 ⟨rfl, hm⟩
  clear hsea
  go_wp2_with fail
  go_ret2
  exact ⟨rfl, hm⟩
set_option maxRecDepth 100000 in
theorem eqf_nil (q : Option Addr) (n c : Nat) (hn : n ≤ 1000000) (w : World) :
    Calls Tryz.prog 158 #[.slice q n c, .slice none 0 0, .func (.func 118) #[] #[]] w fun e w' => e = .returned (.bool (decide (n = 0))) ∧ w' = w := by
  by_cases h : n = 0
  · subst h
    go_enter Tryz.func158, Tryz.ntmps158
    go_wp2_with fail
    go_loopw [17] (fun i wr => i = .int .i64 0 ∧ wr = w) (fun _ _ => 0)
    case atStart => exact ⟨rfl, rfl⟩
    case round =>
      obtain ⟨rfl, rfl⟩ := hrel
      go_wp2_with fail
      go_ret
      exact ⟨rfl, rfl⟩
  · rw [decide_eq_false h]
    have hb : ((n : Int) != 0) = true := by rw [bne_iff_ne]; omega
    clear h
    go_enter Tryz.func158, Tryz.ntmps158
    go_wp2_with fail
    go_ret
    exact ⟨rfl, rfl⟩
theorem bk_dec (b : Bk) (n : Nat) (hn : b.grants.length = n) : decide (b = Bk.new) = ((b.next == 1) && ((b.boots == 0) && ((b.longest == 0) && decide (n = 0)))) := by
  rw [Bool.eq_iff_iff]
  simp only [Bool.and_eq_true, decide_eq_true_eq, beq_iff_eq]
  constructor
  · rintro rfl
    exact ⟨rfl, rfl, rfl, hn.symm⟩
  · rintro ⟨h1, h2, h3, h4⟩
    exact bk_ext ⟨h1, h2, h3, List.length_eq_zero_iff.1 (by omega)⟩
set_option maxRecDepth 100000 in
theorem same_new {w : World} {base : Nat} {v : Value} {b : Bk} {lv : List (Grt × Value)} (h : BkM w base v b lv) (hn : lv.length ≤ 1000000) :
    Calls Tryz.prog 122 #[aggB b v, aggB Bk.new (.slice none 0 0)] w fun e w' => e = .returned (.bool (decide (b = Bk.new))) ∧ Mod [] w w' := by
  obtain ⟨q, c, rfl, _⟩ := h.gr.shape
  have hl : b.grants.length = lv.length := by rw [h.eq]; simp
  have hd := bk_dec b _ hl
  obtain ⟨nx, bo, lo, gs⟩ := b
  simp only at hd
  rw [hd]
  have hq := fun (W : World) => eqf_nil q lv.length c hn W
  unfold aggB Bk.new
  simp only
  generalize decide (lv.length = 0) = B at hq hd
  clear hd hl h
  by_cases h1 : nx = 1
  · subst h1
    by_cases h2 : bo = 0
    · subst h2
      by_cases h3 : lo = 0
      · subst h3
        go_enter Tryz.func122, Tryz.ntmps122
        go_wp2_with (go_at_call 158; refine (hq _).mono ?_; rintro e w1 ⟨rfl, rfl⟩)
        go_ret
        exact ⟨by simp, ((Mod.refl _ _).alloc _).alloc _⟩
      · have e3 : (lo == 0) = false := by simpa using h3
        clear h3
        go_enter Tryz.func122, Tryz.ntmps122
        go_wp2_with fail
        go_ret
        exact ⟨by simp [e3], ((Mod.refl _ _).alloc _).alloc _⟩
    · have e2 : (bo == 0) = false := by simpa using h2
      clear h2
      go_enter Tryz.func122, Tryz.ntmps122
      go_wp2_with fail
      go_ret
      exact ⟨by simp [e2], ((Mod.refl _ _).alloc _).alloc _⟩
  · have e1 : (nx == 1) = false := by simpa using h1
    clear h1
    go_enter Tryz.func122, Tryz.ntmps122
    go_wp2_with fail
    go_ret
    exact ⟨by simp [e1], ((Mod.refl _ _).alloc _).alloc _⟩
set_option maxHeartbeats 1000000 in
set_option maxRecDepth 100000 in
theorem limits_any {w : World} {v : Value} (b : Bk) (k : Int) {q : Option Addr} {c : Nat} (hv : v = .slice q b.grants.length c) (hn : b.grants.length ≤ 1000000) :
    Calls Tryz.prog 81 #[aggB b v, .int .i64 k] w fun e w' => e = .returned (.int .i64 (limitI b k)) ∧ Mod [] w w' := by
  subst hv
  obtain ⟨nx, bo, lo, gs⟩ := b
  unfold aggB
  simp only at hn ⊢
  obtain ⟨R, hR⟩ : ∃ R, limitI ⟨nx, bo, lo, gs⟩ k = R := ⟨_, rfl⟩
  rw [hR]
  unfold limitI at hR
  simp only at hR
  generalize gs.length = n at hR hn
  have HR := hide hR
  clear hR
  have hk : k = 4 ∨ k = 5 ∨ k = 7 ∨ k = 3 ∨ (k ≠ 4 ∧ k ≠ 5 ∧ k ≠ 7 ∧ k ≠ 3) := by omega
  rcases hk with rfl | rfl | rfl | rfl | ⟨k1, k2, k3, k4⟩
  · go_enter Tryz.func81, Tryz.ntmps81
    go_wp2_with fail
    all_goals (go_ret; refine ⟨?_, (Mod.refl _ _).alloc _⟩; show Ending.returned (.int .i64 _) = Ending.returned (.int .i64 _); congr 2; rw [← HR.out]; (repeat' split) <;> first | omega | (simp_all; done) | (simp_all; omega))
  · go_enter Tryz.func81, Tryz.ntmps81
    go_wp2_with fail
    all_goals (go_ret; refine ⟨?_, (Mod.refl _ _).alloc _⟩; show Ending.returned (.int .i64 _) = Ending.returned (.int .i64 _); congr 2; rw [← HR.out]; (repeat' split) <;> first | omega | (simp_all; done) | (simp_all; omega))
  · go_enter Tryz.func81, Tryz.ntmps81
    go_wp2_with fail
    all_goals (go_ret; refine ⟨?_, (Mod.refl _ _).alloc _⟩; show Ending.returned (.int .i64 _) = Ending.returned (.int .i64 _); congr 2; rw [← HR.out]; (repeat' split) <;> first | omega | (simp_all; done) | (simp_all; omega))
  · go_enter Tryz.func81, Tryz.ntmps81
    go_wp2_with fail
    all_goals (go_ret; refine ⟨?_, (Mod.refl _ _).alloc _⟩; show Ending.returned (.int .i64 _) = Ending.returned (.int .i64 _); congr 2; rw [← HR.out]; (repeat' split) <;> first | omega | (simp_all; done) | (simp_all; omega))
  · have e1 : (k == 4) = false := by simpa using k1
    have e2 : (k == 5) = false := by simpa using k2
    have e3 : (k == 7) = false := by simpa using k3
    have e4 : (k == 3) = false := by simpa using k4
    have HK := hide (And.intro k1 (And.intro k2 (And.intro k3 k4)))
    clear k1 k2 k3 k4
    go_enter Tryz.func81, Tryz.ntmps81
    go_wp2_with fail
    go_ret
    exact ⟨by rw [← HR.out]; simp [HK.out.1, HK.out.2.1, HK.out.2.2.1, HK.out.2.2.2], (Mod.refl _ _).alloc _⟩
end Go.Proofs.YtpphoeimakjjdaaGreatDoor
