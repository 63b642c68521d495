/-
  WALKS: layer 11: counters: a stamp taken up.
-/
import Derived.Test.YtpphoeimakjjdaaGreatDoorMBookD
import Derived.Test.YtpphoeimakjjdaaGreatDoorMGrA
namespace Go.Proofs.YtpphoeimakjjdaaGreatDoor
open Go.RowKit

theorem readK_snoc : ∀ (k : Nat) (s : RS), readK (k + 1) s = ((readK k s).1 ++ [(nxt (readK k s).2).1], (nxt (readK k s).2).2)
  | 0, s => rfl
  | k + 1, s => by
    have ih := readK_snoc k (nxt s).2
    conv => lhs; rw [readK]
    rw [ih]
    rfl
theorem readK_len : ∀ (k : Nat) (s : RS), (readK k s).1.length = k
  | 0, s => rfl
  | k + 1, s => by simp [readK, readK_len k]
theorem nxt_ge (s : RS) : 0 ≤ (nxt s).1 ∧ (nxt s).1 ≤ 9223372036854775807 := by
  unfold nxt rdNum
  split
  · have := (takeN_bound s.1).1
    simp only
    omega
  · exact ⟨Int.le_refl _, by show (0 : Int) ≤ _; decide⟩
/-- one number more, in a row of one's own -/
theorem wpList_app_int {ops : Array Oper} {rest : List Oper} {o : Oper} {a : Act} {Q : Exit → Act → World → Prop} (w : World) (hgd : o.guard = none) (s x : Operand)
    (ho : o.op = .call { callee := .builtin .append, args := #[s, x], argTypes := #[38, 38] })
    {base : Nat} {u : Value} {l : List Int} (hs : a.eval s = u) (h : w.ownsRow base 3 1 u l.length (l.map (Value.int .i64))) (hn : l.length ≤ 1000000) (hbase : base ≤ w.heap.size) {k : Nat} (hx : a.eval x = .slice (some ⟨k, 0, none⟩) 1 1) {n : Int}
    (hk : w.heap[k]? = some (.cells #[.int .i64 n] 3 (0, 0)))
    (hK : ∀ u' w', w'.ownsRow base 3 1 u' (l ++ [n]).length ((l ++ [n]).map (Value.int .i64)) → Mod (ob u) w w' → (∃ p c, u' = .slice p (l.length + 1) c) → (∀ k, k ∈ ob u' → k ∈ ob u ∨ w.heap.size ≤ k) → wpList Tryz.prog ops Q rest (a.put o.dst u') w') : wpList Tryz.prog ops Q (o :: rest) a w := by
  obtain ⟨i0, hi0, hz0, hs0, hb0⟩ := info_parts info_int
  refine wpList_append_lies w hgd s x 38 ho base 3 i0 _ 1 8 Tryz.underlying38 hi0 hz0 hs0 hb0 rfl (by decide) _ _ _ hs h ⟨k, 0, none⟩ 1 1 [.int .i64 n] hx rfl (World.news_of_block (cs := #[.int .i64 n]) (t := 3) (fr := (0, 0)) hk) (by simp [Value.oneCell']) (by decide) (by unfold maxLen; omega) (by omega) hbase ?_
  intro g' cap w' hr hg hat
  have hm : Mod (ob u) w w' := (Mod.refl (ob u) w).grown hg (fun k e _ => by simp [ob, e])
  refine hK _ _ (by simpa using hr) hm ⟨_, _, rfl⟩ (fun k hk => ?_)
  have : k = g' := by simpa [ob, Value.ownBlock] using hk
  subst this
  rcases hat with e | e
  · exact .inl (by simp [ob, e])
  · exact .inr (by omega)
/-- a stamp of its own, and the reader -/
def CtrTo (w : World) (p : Nat) (v : Value) (t : List Int × RS) (e : Ending) (w' : World) : Prop :=
  ∃ u v', e = .returned u ∧ w'.ownsRow w.heap.size 3 1 u t.1.length (t.1.map (Value.int .i64)) ∧ RrM w' p v' t.2.1 t.2.2 ∧ (∀ k, k ∈ ob v' → k ∈ ob v) ∧ Mod [p] w w'
def CtrRel (w : World) (p : Nat) (v : Value) (s : RS) (n : Nat) (u i : Value) (wr : World) : Prop :=
  ∃ (k : Nat) (v' : Value), i = .int .i64 (k : Int) ∧ k ≤ n ∧ wr.ownsRow w.heap.size 3 1 u (readK k s).1.length ((readK k s).1.map (Value.int .i64)) ∧ RrM wr p v' (readK k s).2.1 (readK k s).2.2 ∧ (∀ x, x ∈ ob v' → x ∈ ob v) ∧ Mod [p] w wr
set_option maxHeartbeats 1000000 in
set_option maxRecDepth 100000 in
theorem counters_any {w : World} {p : Nat} {v : Value} {l : B8} {x : Int} (h : RrM w p v l x) (hpv : ∀ k, k ∈ ob v → k < w.heap.size) :
    Calls Tryz.prog 113 #[.pointer (some ⟨p, 0, none⟩)] w fun e w' => CtrTo w p v (countersS (l, x)) e w' := by
  have hpw := lt_of_block h.blk
  have hn := readNum_any h
  have hge := nxt_ge (l, x)
  unfold countersS
  unfold nxt at hge ⊢
  simp only at hge ⊢
  generalize rdNum l x = t at hn hge ⊢
  obtain ⟨a, l1, x1⟩ := t
  simp only at hn hge ⊢
  obtain ⟨n, hN⟩ : ∃ n : Nat, (min a 5).toNat = n := ⟨_, rfl⟩
  have hN2 : min a 5 = (n : Int) := by omega
  have hN5 : n ≤ 5 := by omega
  rw [hN]
  have HH := hide (And.intro h hpv)
  clear h hpv hN
  go_enter Tryz.func113, Tryz.ntmps113
  go_wp2_with (go_at_call 111; refine hn.mono ?_; rintro e w1 ⟨rfl, v1, hr1, ho1, hm1⟩
               have H1 := hide (And.intro hr1 (And.intro ho1 hm1))
               clear hr1 ho1 hm1 hn)
  go_loopw [3, 7] (fun u i wr => CtrRel w p v (l1, x1) n u i wr) (fun _ i _ => n - (intOf i).toNat)
  case atStart => exact ⟨0, v1, rfl, Nat.zero_le _, World.ownsRow_nil _ _ _ _, H1.out.1, H1.out.2.1, H1.out.2.2⟩
  case round =>
    obtain ⟨k, v', rfl, hk, hrow, hr, ho, hm⟩ := hrel
    by_cases hlt : k < n
    · have hkn : (k : Int) < (n : Int) := by omega
      have hnum := readNum_any hr
      have hsn := readK_snoc k (l1, x1)
      have hln := readK_len k (l1, x1)
      have hnx : (nxt (readK k (l1, x1)).2) = ((rdNum (readK k (l1, x1)).2.1 (readK k (l1, x1)).2.2).1, ((rdNum (readK k (l1, x1)).2.1 (readK k (l1, x1)).2.2).2.1, (rdNum (readK k (l1, x1)).2.1 (readK k (l1, x1)).2.2).2.2)) := rfl
      rw [hnx] at hsn
      generalize rdNum (readK k (l1, x1)).2.1 (readK k (l1, x1)).2.2 = t at hnum hsn
      obtain ⟨y, l2, x2⟩ := t
      simp only at hnum hsn
      have HS := hide (And.intro hsn (And.intro hln (And.intro hrow (And.intro ho hm))))
      clear hsn hln hrow ho hm hr hnx
      go_wp2_with (first
        | (go_at_call 111; refine hnum.mono ?_; rintro e w2 ⟨rfl, v2, hr2, ho2, hm2⟩
           obtain ⟨W3, hW3⟩ : ∃ W3, W3 = w2.alloc (.cells #[.int .i64 y] 3 (0, 0)) := ⟨_, rfl⟩
           have hk3 : W3.heap[w2.heap.size]? = some (.cells #[.int .i64 y] 3 (0, 0)) := by rw [hW3]; exact heap_alloc_new w2 _
           have g3 : Gr w2 W3 := by rw [hW3]; exact (Gr.refl w2).alloc _
           have H2 := hide (And.intro hr2 (And.intro ho2 (And.intro hm2 (And.intro hk3 g3))))
           clear hr2 ho2 hm2 hk3 g3 hnum)
        | (at_builtin
           (try rw [← hW3])
           have hor := HS.out.2.2.1
           have hszw := HS.out.2.2.2.2.size
           have hszw2 := H2.out.2.2.1.size
           have hszw3 := H2.out.2.2.2.2.size
           have hou : ∀ q, q ∈ ob u3 → w.heap.size ≤ q := fun q hq => (ob_of_row hor q hq).1
           have h5 := H2.out.2.2.1.row hor (fun q hq e => by have := hou q (by simp [ob, hq]); simp at e; omega)
           have h6 := (H2.out.2.2.2.2.mod []).row h5 (by simp)
           refine wpList_app_int (n := y) (base := w.heap.size) W3 rfl _ _ rfl rfl h6 (by rw [HS.out.2.1]; omega) (by omega) (k := w2.heap.size) rfl H2.out.2.2.2.1 ?_
           rintro u' w3 hrow3 hm3 ⟨p3, c3, rfl⟩ -
           have H3 := hide (And.intro hrow3 (And.intro hm3 hou))
           clear hrow3 hm3 h5 h6 hor hou hszw hszw2 hszw3)
        | fail)
      go_roundw
      case rel =>
        obtain ⟨hr2, ho2, hm2, hk3, g3⟩ := H2.out
        obtain ⟨hrow3, hm3, hou⟩ := H3.out
        obtain ⟨hsn, hln, hrow, ho, hm⟩ := HS.out
        have hpv := HH.out.2
        refine ⟨k + 1, v2, by go_num, by omega, ?_, ?_, fun q hq => ho q (ho2 q hq), ?_⟩
        · rw [hsn]; exact hrow3
        · rw [hsn]
          refine ⟨hm3.at_ ((g3.mod []).at_ hr2.blk (by simp)) (fun e => by have := hou _ e; omega), (hr2.rd.gr g3).mod hm3 (fun q hq e => ?_), hr2.apart⟩
          have h1 := hpv q (ho q (ho2 q hq))
          have h2 := hou q e
          omega
        · exact ((hm.then hm2).gr g3).trans hm3 (fun x hx _ => hx) (fun x hx hlt2 => by have := hou x hx; omega)
      case measure => simp [intOf]; omega
    · obtain rfl : k = n := by omega
      have hkn : ¬ (k : Int) < (k : Int) := by omega
      obtain ⟨p3, c3, hu⟩ := (rdN_of_row hrow).len
      subst hu
      have HS := hide (And.intro hrow (And.intro hr (And.intro ho hm)))
      clear hrow hr ho hm
      go_wp2_with fail
      go_ret
      exact ⟨_, v', rfl, HS.out⟩
/-- a reader in new memory -/
theorem reader_any {w : World} {u : Value} {b : B8} (hu : RdY w u b) (hl : b.length ≤ 1000000000) :
    Calls Tryz.prog 110 #[u] w fun e w' => ∃ p v, e = .returned (.pointer (some ⟨p, 0, none⟩)) ∧ RrM w' p v b 0 ∧ w.heap.size ≤ p ∧ (∀ k, k ∈ ob v → w.heap.size ≤ k ∧ k < p) ∧ Mod [] w w' := by
  go_enter Tryz.func110, Tryz.ntmps110
  go_wp2_with (at_builtin; refine wpList_copy_y _ rfl _ _ rfl rfl rfl hu (by omega) ?_; intro p' c' w1 hr hm)
  go_ret
  have hb := hr.blk
  have hs := hm.size
  exact ⟨_, _, rfl, ⟨heap_alloc_new _ _, hr.rd.gr ((Gr.refl w1).alloc _), fun h => by have := (hb _ h).2; omega⟩, hs, fun k hk => hb k hk, hm.alloc _⟩
end Go.Proofs.YtpphoeimakjjdaaGreatDoor
