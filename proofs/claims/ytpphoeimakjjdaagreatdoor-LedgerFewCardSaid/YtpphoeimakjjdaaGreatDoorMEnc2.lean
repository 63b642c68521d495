/-
  Enc Enc2: see the remarks below.
-/
import Derived.Test.YtpphoeimakjjdaaGreatDoorMBookW6
import Derived.Test.YtpphoeimakjjdaaGreatDoorMOctR
/-
  WALKS: layer 11: lay, Encode.
-/
namespace Go.Proofs.YtpphoeimakjjdaaGreatDoor
open Go.RowKit

/-- a writer in new memory, and blocks that it leaves alone -/
structure ES (w W : World) (p : Nat) (v : Value) (d : B8) (K : List (Nat × Obj)) : Prop where
  wr : WrM W p v d
  nw : w.heap.size ≤ p ∧ ∀ k, k ∈ ob v → w.heap.size ≤ k
  md : Mod [] w W
  kp : ∀ q, q ∈ K → W.heap[q.1]? = some q.2 ∧ q.1 ≠ p ∧ q.1 ∉ ob v
theorem ES.step {w W W' : World} {p : Nat} {v : Value} {d d2 : B8} {K : List (Nat × Obj)} {e : Ending} (h : ES w W p v d K) (t : WrTo W p v d2 e W') : e = .returned (.tuple #[]) ∧ ∃ v', ES w W' p v' d2 K ∧ (∀ k, k ∈ ob v' → k ∈ ob v ∨ W.heap.size ≤ k) ∧ Mod (p :: ob v) W W' := by
  obtain ⟨he, v', h1, h2, h3⟩ := t
  have hsz := h.md.size
  refine ⟨he, v', ⟨h1, ⟨h.nw.1, fun k hk => ?_⟩, h.md.trans h3 (by simp) (fun x hx hlt => ?_), fun q hq => ?_⟩, h2, h3⟩
  · rcases h2 k hk with h4 | h4
    · exact h.nw.2 k h4
    · omega
  · rcases List.mem_cons.1 hx with rfl | hx
    · have := h.nw.1; omega
    · have := h.nw.2 x hx; omega
  · obtain ⟨k1, k2, k3⟩ := h.kp q hq
    refine ⟨h3.at_ k1 (by simp [k2, k3]), k2, fun hk => ?_⟩
    rcases h2 _ hk with h4 | h4
    · exact k3 h4
    · have := lt_of_block k1; omega
theorem ES.alloc {w W : World} {p : Nat} {v : Value} {d : B8} {K : List (Nat × Obj)} (h : ES w W p v d K) (o : Obj) : ES w (W.alloc o) p v d ((W.heap.size, o) :: K) := by
  have g : Gr W (W.alloc o) := (Gr.refl W).alloc o
  refine ⟨⟨(g.mod []).at_ h.wr.blk (by simp), (g.mod []).row h.wr.row (by simp), h.wr.apart⟩, h.nw, h.md.gr g, fun q hq => ?_⟩
  rcases List.mem_cons.1 hq with rfl | hq
  · exact ⟨heap_alloc_new W o, fun e => by have := lt_of_block h.wr.blk; simp only at e; omega, fun e => by have := (h.wr.row.lt _ (by simpa [ob] using e)).2; omega⟩
  · obtain ⟨k1, k2, k3⟩ := h.kp q hq
    exact ⟨(g.mod []).at_ k1 (by simp), k2, k3⟩
theorem ES.drewN {w W : World} {p : Nat} {v : Value} {d : B8} {K : List (Nat × Obj)} (h : ES w W p v d K) (n : Nat) : ES w (W.drewN n) p v d K :=
  ⟨⟨(((Gr.refl W).drewN n).mod []).at_ h.wr.blk (by simp), (((Gr.refl W).drewN n).mod []).row h.wr.row (by simp), h.wr.apart⟩, h.nw, h.md.drewN n, fun q hq => ⟨(((Gr.refl W).drewN n).mod []).at_ (h.kp q hq).1 (by simp), (h.kp q hq).2⟩⟩
theorem ES.box {w W : World} {p : Nat} {v : Value} {d : B8} {K : List (Nat × Obj)} (h : ES w W p v d K) {k : Nat} {cs : Array Value} {T : TypeId} (hk : (k, Obj.cells cs T (0, 0)) ∈ K) : (∀ o, W.cell? ⟨k, o, none⟩ = cs[o]?) ∧ (∀ o, W.frozen? ⟨k, o, none⟩ = false) :=
  ⟨fun o => blk_cell (h.kp _ hk).1 o, fun o => blk_free (h.kp _ hk).1 o⟩
def LayRel (w : World) (p : Nat) (d : B8) (l : List Int) (K : List (Nat × Obj)) (S : List Nat) (W0 : World) (i : Value) (wr : World) : Prop :=
  ∃ (k : Nat) (v : Value), i = .int .i64 (k : Int) ∧ k ≤ l.length ∧ ES w wr p v (d ++ numsB (l.take k)) K ∧ (∀ x, x ∈ ob v → x ∈ S ∨ W0.heap.size ≤ x) ∧ Mod (p :: S) W0 wr
theorem numsB_snoc (l : List Int) (n : Int) : numsB (l ++ [n]) = numsB l ++ numB n := by simp [numsB]
theorem numsB_le : ∀ l : List Int, (numsB l).length ≤ 10 * l.length
  | [] => by simp [numsB]
  | n :: l => by
    have a := (numB_len n).2
    have b := numsB_le l
    have e : numsB (n :: l) = numB n ++ numsB l := by simp [numsB]
    rw [e, List.length_append, List.length_cons]
    omega
set_option maxHeartbeats 1000000 in
set_option maxRecDepth 100000 in
theorem lay_any {w W : World} {p : Nat} {v : Value} {d : B8} {K : List (Nat × Obj)} (h : ES w W p v d K) {lv : Value} {l : List Int} (hl : ∀ W', Mod (p :: ob v) W W' → RdN W' lv l) (hs : d.length + 10 * l.length ≤ 1000000) (hm : ∀ n, n ∈ l → n ≤ 9223372036854775807) :
    Calls Tryz.prog 85 #[.pointer (some ⟨p, 0, none⟩), lv] W fun e W' => e = .returned (.tuple #[]) ∧ ∃ v', ES w W' p v' (d ++ numsB l) K := by
  obtain ⟨q, c, rfl⟩ := (hl W (Mod.refl _ _)).len
  have hmx := (hl W (Mod.refl _ _)).1
  have hmx' : l.length ≤ 9223372036854775807 := hmx
  have HL := hide hl
  have HM := hide hm
  clear hl hm hmx
  go_enter Tryz.func85, Tryz.ntmps85
  go_wp2_with fail
  go_loopw [8] (fun i wr => LayRel w p d l K (ob v) W i wr) (fun i _ => l.length - (intOf i).toNat)
  case atStart => exact ⟨0, v, rfl, Nat.zero_le _, by simpa [numsB] using h, fun x hx => .inl hx, Mod.refl _ _⟩
  case round =>
    obtain ⟨k, v1, rfl, hk, he, ho, hmd⟩ := hrel
    by_cases hlt : k < l.length
    · obtain ⟨b, off, rfl, _, hc⟩ := (HL.out wr hmd).at_ k hlt
      have hle := numsB_le (l.take k)
      have hn := HM.out (l.getD k 0) (by simp [hlt])
      have htk : l.take (k + 1) = l.take k ++ [l.getD k 0] := by rw [List.take_add_one]; simp [hlt]
      generalize l.getD k 0 = n at hc hn htk
      have hnum := num_any he.wr n hn (by rw [List.length_append]; rw [List.length_take] at hle; omega)
      have HT := hide (And.intro htk (And.intro he (And.intro ho hmd)))
      have hszr := hmd.size
      clear hle hn htk he ho hmd
      go_wp2_with (go_at_call 84; refine hnum.mono ?_; rintro e w2 hto
                   obtain ⟨rfl, v2, he2, ho2, hm2⟩ := HT.out.2.1.step hto
                   have H2 := hide (And.intro he2 (And.intro ho2 hm2))
                   clear hnum hc hto he2 ho2 hm2)
      go_roundw
      case rel =>
        obtain ⟨he2, ho2, hm2⟩ := H2.out
        refine ⟨k + 1, v2, by go_num, by omega, by rw [HT.out.1, numsB_snoc, ← List.append_assoc]; exact he2, fun x hx => ?_, HT.out.2.2.2.trans hm2 (fun x hx _ => hx) (fun x hx hlt2 => ?_)⟩
        · rcases ho2 x hx with h1 | h1
          · exact HT.out.2.2.1 x h1
          · exact .inr (by omega)
        · rcases List.mem_cons.1 hx with rfl | hx
          · exact List.mem_cons_self
          · rcases HT.out.2.2.1 x hx with h1 | h1
            · exact List.mem_cons_of_mem _ h1
            · omega
      case measure => simp [intOf]; omega
    · obtain rfl : k = l.length := by omega
      rw [List.take_length] at he
      have HE := hide he
      clear he ho hmd
      go_wp2_with fail
      go_end0
      exact ⟨rfl, v1, HE.out⟩
/-- a record's bytes, or an error -/
def EncTo (w : World) (r : Rcd) (e : Ending) (w' : World) : Prop :=
  (mayB r = false ∧ e = .returned (.tuple #[.slice none 0 0, .int .i64 43]) ∧ Mod [] w w') ∨
  (mayB r = true ∧ ∃ p c, e = .returned (.tuple #[.slice p (encB r).length c, .int .i64 0]) ∧ RowY w' w.heap.size (.slice p (encB r).length c) (encB r) ∧ Mod [] w w')
theorem num_es {w W : World} {p : Nat} {v : Value} {d : B8} {K : List (Nat × Obj)} (h : ES w W p v d K) (n : Int) (hn : n ≤ 9223372036854775807) (hs : d.length ≤ 1000000) :
    Calls Tryz.prog 84 #[.pointer (some ⟨p, 0, none⟩), .int .i64 n] W fun e W' => e = .returned (.tuple #[]) ∧ ∃ v', ES w W' p v' (d ++ numB n) K := by
  refine (num_any h.wr n hn hs).mono ?_
  intro e W' t
  obtain ⟨h1, v', h2, -, -⟩ := h.step t
  exact ⟨h1, v', h2⟩
theorem text_es {w W : World} {p : Nat} {v : Value} {d : B8} {K : List (Nat × Obj)} (h : ES w W p v d K) (s : ByteArray) (hn : s.size ≤ 1000000) (hs : d.length ≤ 1000000) :
    Calls Tryz.prog 86 #[.pointer (some ⟨p, 0, none⟩), .string s] W fun e W' => e = .returned (.tuple #[]) ∧ ∃ v', ES w W' p v' (d ++ textB s) K := by
  refine (text_any h.wr s hn hs).mono ?_
  intro e W' t
  obtain ⟨h1, v', h2, -, -⟩ := h.step t
  exact ⟨h1, v', h2⟩
/-- numbers laid in a block of the writer's own -/
theorem es_row {w W : World} {p : Nat} {v : Value} {d : B8} {K : List (Nat × Obj)} (h : ES w W p v d K) {k : Nat} {l : List Int} (hk : (k, Obj.cells (l.map (Value.int .i64)).toArray 3 (0, 0)) ∈ K) (hl : l.length ≤ 100000) :
    ∀ W', Mod (p :: ob v) W W' → RdN W' (.slice (some ⟨k, 0, none⟩) l.length l.length) l := by
  intro W' m
  obtain ⟨k1, k2, k3⟩ := h.kp _ hk
  have hb := m.at_ k1 (by simp [k2, k3])
  refine ⟨by unfold maxLen; omega, .inr ⟨k, 0, l.length, rfl, lt_of_block hb, fun i hi => ?_⟩⟩
  rw [Nat.zero_add, blk_cell hb, List.getElem?_toArray]
  simp [hi]
theorem es_arg {w W : World} {p : Nat} {v : Value} {d : B8} {K : List (Nat × Obj)} (h : ES w W p v d K) {u : Value} {l : List Int} (hu : RdN w u l) : ∀ W', Mod (p :: ob v) W W' → RdN W' u l :=
  fun W' m => hu.mod (S := []) (h.md.trans m (by simp) (fun x hx hlt => by
    rcases List.mem_cons.1 hx with rfl | hx
    · have := h.nw.1; omega
    · have := h.nw.2 x hx; omega)) (by simp)
end Go.Proofs.YtpphoeimakjjdaaGreatDoor
/-
  WALKS: layer 11: Encode. (Written by wip/gen_enc2.py.)
-/
namespace Go.Proofs.YtpphoeimakjjdaaGreatDoor
open Go.RowKit

theorem enc1 {r : Rcd} (h : r.kind = 1) : encB r = numB 1 ++ numsB [r.next, r.boots] := by unfold encB tailE; rw [if_pos h, h]
theorem enc2 {r : Rcd} (h : r.kind = 2) : encB r = numB 2 ++ numB r.longest := by unfold encB tailE; rw [if_neg (by omega), if_pos h, h]
theorem enc4 {r : Rcd} (h : r.kind = 4 ∨ r.kind = 3) : encB r = numB r.kind ++ grantE r.grant := by unfold encB tailE; rw [if_neg (by omega), if_neg (by omega), if_pos h]
theorem enc5 {r : Rcd} (h : r.kind = 5) : encB r = numB 5 ++ (numsB [r.id, (r.stamp.length : Int)] ++ numsB r.stamp) := by unfold encB tailE; rw [if_neg (by omega), if_neg (by omega), if_neg (by omega), if_pos h, h]
theorem enc6 {r : Rcd} (h : r.kind = 6) : encB r = numB 6 ++ numB r.id := by unfold encB tailE; rw [if_neg (by omega), if_neg (by omega), if_neg (by omega), if_neg (by omega), if_pos h, h]
theorem enc7 {r : Rcd} (h : r.kind = 7) : encB r = numB 7 := by unfold encB tailE; rw [if_neg (by omega), if_neg (by omega), if_neg (by omega), if_neg (by omega), if_neg (by omega), List.append_nil, h]
theorem may_end {r : Rcd} (h : mayB r = true) (h6 : r.kind = 6) : countOk r.id := by
  rw [may6 h6] at h
  simp only [Bool.and_eq_true, decide_eq_true_eq] at h
  exact h.1
structure E3 (w W : World) (p : Nat) (v : Value) (d : B8) (K : List (Nat × Obj)) (N : Nat) : Prop where
  es : ES w W p v d K
  ln : d.length ≤ N
theorem ES.tail {w W : World} {p : Nat} {v : Value} {d : B8} {K : List (Nat × Obj)} {x : Nat × Obj} (h : ES w W p v d (x :: K)) : ES w W p v d K := ⟨h.wr, h.nw, h.md, fun q hq => h.kp q (List.mem_cons_of_mem _ hq)⟩
theorem E3.alloc {w W : World} {p : Nat} {v : Value} {d : B8} {K : List (Nat × Obj)} {N : Nat} (h : E3 w W p v d K N) (o : Obj) : E3 w (W.alloc o) p v d ((W.heap.size, o) :: K) N := ⟨h.es.alloc o, h.ln⟩
theorem E3.eq {w W : World} {p : Nat} {v : Value} {d EB : B8} {K : List (Nat × Obj)} {N : Nat} (h : E3 w W p v d K N) (he : d = EB) : E3 w W p v EB K N := by subst he; exact h
theorem num_e3 {w W : World} {p : Nat} {v : Value} {d : B8} {K : List (Nat × Obj)} {N : Nat} (h : E3 w W p v d K N) (n : Int) (hn : n ≤ 9223372036854775807) (hN : N ≤ 1000000) :
    Calls Tryz.prog 84 #[.pointer (some ⟨p, 0, none⟩), .int .i64 n] W fun e W' => e = .returned (.tuple #[]) ∧ ∃ v', E3 w W' p v' (d ++ numB n) K (N + 10) := by
  refine (num_es h.es n hn (Nat.le_trans h.ln hN)).mono ?_
  rintro e W' ⟨h1, v', h2⟩
  exact ⟨h1, v', h2, by have := (numB_len n).2; have := h.ln; rw [List.length_append]; omega⟩
theorem text_e3 {w W : World} {p : Nat} {v : Value} {d : B8} {K : List (Nat × Obj)} {N : Nat} (h : E3 w W p v d K N) (s : ByteArray) (hn : s.size ≤ 1000000) (hN : N ≤ 1000000) :
    Calls Tryz.prog 86 #[.pointer (some ⟨p, 0, none⟩), .string s] W fun e W' => e = .returned (.tuple #[]) ∧ ∃ v', E3 w W' p v' (d ++ textB s) K (N + 10 + s.size) := by
  refine (text_es h.es s hn (Nat.le_trans h.ln hN)).mono ?_
  rintro e W' ⟨h1, v', h2⟩
  refine ⟨h1, v', h2, ?_⟩
  have a := (numB_len (s.size : Int)).2
  have b := h.ln
  have c : s.data.toList.length = s.size := by simp
  unfold textB
  rw [List.length_append, List.length_append]
  omega
/-- numbers of a list that stands in a slice of one's own -/
theorem laya_e3 {w W : World} {p : Nat} {v : Value} {d : B8} {K : List (Nat × Obj)} {N : Nat} (h : E3 w W p v d K N) {lv : Value} {l : List Int} (hl : ∀ W', Mod (p :: ob v) W W' → RdN W' lv l) (hs : N + 10 * l.length ≤ 1000000) (hm : ∀ n, n ∈ l → n ≤ 9223372036854775807) :
    Calls Tryz.prog 85 #[.pointer (some ⟨p, 0, none⟩), lv] W fun e W' => e = .returned (.tuple #[]) ∧ ∃ v', E3 w W' p v' (d ++ numsB l) K (N + 10 * l.length) := by
  refine (lay_any h.es hl (by have := h.ln; omega) hm).mono ?_
  rintro e W' ⟨h1, v', h2⟩
  exact ⟨h1, v', h2, by have := numsB_le l; have := h.ln; rw [List.length_append]; omega⟩
/-- numbers of a call's own slice, just laid -/
theorem layn_e3 {w W : World} {p : Nat} {v : Value} {d : B8} {K : List (Nat × Obj)} {N : Nat} (h : E3 w W p v d K N) (l : List Int) (hs : N + 10 * l.length ≤ 1000000) (hm : ∀ n, n ∈ l → n ≤ 9223372036854775807) :
    Calls Tryz.prog 85 #[.pointer (some ⟨p, 0, none⟩), .slice (some ⟨W.heap.size, 0, none⟩) l.length l.length] (W.alloc (.cells (l.map (Value.int .i64)).toArray 3 (0, 0))) fun e W' => e = .returned (.tuple #[]) ∧ ∃ v', E3 w W' p v' (d ++ numsB l) K (N + 10 * l.length) := by
  refine (laya_e3 (h.alloc _) (es_row (h.alloc _).es List.mem_cons_self (by omega)) hs hm).mono ?_
  rintro e W' ⟨h1, v', h2⟩
  exact ⟨h1, v', h2.es.tail, h2.ln⟩
theorem lay2_e3 {w W : World} {p : Nat} {v : Value} {d : B8} {K : List (Nat × Obj)} {N : Nat} (h : E3 w W p v d K N) (a b : Int) (hs : N ≤ 1000) (ha : a ≤ 9223372036854775807) (hb : b ≤ 9223372036854775807) :
    Calls Tryz.prog 85 #[.pointer (some ⟨p, 0, none⟩), .slice (some ⟨W.heap.size, 0, none⟩) 2 2] (W.alloc (.cells #[.int .i64 a, .int .i64 b] 3 (0, 0))) fun e W' => e = .returned (.tuple #[]) ∧ ∃ v', E3 w W' p v' (d ++ numsB [a, b]) K (N + 20) :=
  layn_e3 h [a, b] (by simp only [List.length_cons, List.length_nil]; omega) (by intro n hn; simp only [List.mem_cons, List.not_mem_nil, or_false] at hn; rcases hn with rfl | rfl <;> assumption)
theorem lay3_e3 {w W : World} {p : Nat} {v : Value} {d : B8} {K : List (Nat × Obj)} {N : Nat} (h : E3 w W p v d K N) (a b c : Int) (hs : N ≤ 1000) (ha : a ≤ 9223372036854775807) (hb : b ≤ 9223372036854775807) (hc : c ≤ 9223372036854775807) :
    Calls Tryz.prog 85 #[.pointer (some ⟨p, 0, none⟩), .slice (some ⟨W.heap.size, 0, none⟩) 3 3] (W.alloc (.cells #[.int .i64 a, .int .i64 b, .int .i64 c] 3 (0, 0))) fun e W' => e = .returned (.tuple #[]) ∧ ∃ v', E3 w W' p v' (d ++ numsB [a, b, c]) K (N + 30) :=
  layn_e3 h [a, b, c] (by simp only [List.length_cons, List.length_nil]; omega) (by intro n hn; simp only [List.mem_cons, List.not_mem_nil, or_false] at hn; rcases hn with rfl | rfl | rfl <;> assumption)
theorem E3.new {w w1 : World} {k : Nat} {o : Obj} (hm : Mod [] w w1) (hb : w1.heap[k]? = some o) : E3 w (w1.alloc (.cells #[.slice none 0 0] 135 (0, 0))) w1.heap.size (.slice none 0 0) [] [(k, o)] 0 := by
  have g : Gr w1 (w1.alloc (.cells #[.slice none 0 0] 135 (0, 0))) := (Gr.refl w1).alloc _
  refine ⟨⟨⟨heap_alloc_new w1 _, World.ownsRow_nil _ _ _ _, by simp [ob, Value.ownBlock]⟩, ⟨hm.size, by simp [ob, Value.ownBlock]⟩, hm.gr g, fun q hq => ?_⟩, Nat.le_refl _⟩
  obtain rfl : q = (k, o) := by simpa using hq
  exact ⟨(g.mod []).at_ hb (by simp), fun e => by have := lt_of_block hb; simp only at e; omega, by simp [ob, Value.ownBlock]⟩
def EncQ (w : World) (M : Bool) (EB : B8) (e : Ending) (w' : World) : Prop :=
  (M = false ∧ e = .returned (.tuple #[.slice none 0 0, .int .i64 43]) ∧ Mod [] w w') ∨
  (M = true ∧ ∃ p c, e = .returned (.tuple #[.slice p EB.length c, .int .i64 0]) ∧ RowY w' w.heap.size (.slice p EB.length c) EB ∧ Mod [] w w')
theorem EncQ.some {w W w' : World} {EB D : B8} {p : Option Addr} {c : Nat} (he : D = EB) (hr : RowY w' W.heap.size (.slice p D.length c) D) (hm : Mod [] w W) (hm2 : Mod [] W w') : EncQ w true EB (.returned (.tuple #[.slice p D.length c, .int .i64 0])) w' := by
  subst he
  exact .inr ⟨rfl, p, c, rfl, World.ownsRow.mono hr hm.size, hm.then hm2⟩
set_option maxHeartbeats 8000000 in
set_option maxRecDepth 100000 in
theorem encode_any {w : World} {r : Rcd} {sv tv : Value} (hg : RdN w sv r.grant.stamp) (hs : RdN w tv r.stamp) (hp : r.grant.path.size ≤ 9223372036854775807) :
    Calls Tryz.prog 48 #[aggR r sv tv] w fun e w' => EncQ w (mayB r) (encB r) e w' := by
  have hmay := fun (W : World) (m : Mod [] w W) => mayRec_any (r := r) (hg.mod m (by simp)) (hs.mod m (by simp)) hp
  obtain ⟨M, hM⟩ : ∃ M, mayB r = M := ⟨_, rfl⟩
  rw [hM] at hmay ⊢
  obtain ⟨EB, hEB⟩ : ∃ EB, encB r = EB := ⟨_, rfl⟩
  rw [hEB]
  have hk := fun h => may_kind (r := r) (hM.trans h)
  obtain ⟨kd, ⟨gi, gh, gp, gm, gs, gt⟩, ri, rs, rn, rb, rl⟩ := r
  simp only at hg hs hp
  obtain ⟨q2, c2, rfl⟩ := hs.len
  obtain ⟨q1, c1, rfl⟩ := hg.len
  obtain ⟨W0, hW0⟩ : ∃ W0, W0 = w.alloc (.cells #[.int .i64 kd, .int .i64 gi, .int .i64 gh, .string gp, .int .i64 gm, .slice q1 gs.length c1, .int .i64 gt, .int .i64 ri, .slice q2 rs.length c2, .int .i64 rn, .int .i64 rb, .int .i64 rl] 42 (0, 0)) := ⟨_, rfl⟩
  have hr0 : W0.heap[w.heap.size]? = some (.cells #[.int .i64 kd, .int .i64 gi, .int .i64 gh, .string gp, .int .i64 gm, .slice q1 gs.length c1, .int .i64 gt, .int .i64 ri, .slice q2 rs.length c2, .int .i64 rn, .int .i64 rb, .int .i64 rl] 42 (0, 0)) := by rw [hW0]; exact heap_alloc_new w _
  have hm0 : Mod [] w W0 := by rw [hW0]; exact (Mod.refl _ _).alloc _
  have hy := hmay W0 hm0
  have R0 := blk_cell hr0
  have HB := hide (And.intro (And.intro hr0 hm0) (And.intro hg hs))
  have HE := hide (And.intro hEB hM)
  clear hmay hr0 hm0 hg hs hEB hM
  unfold aggR cellsR at hy ⊢
  simp only at hy ⊢
  cases M with
  | false =>
    go_enter Tryz.func48, Tryz.ntmps48
    go_upto_region 1 with fail
    rw [← hW0]
    clear hW0
    go_wp2_with (go_at_call 80; refine hy.mono ?_; rintro e w1 ⟨rfl, hm1⟩; have H1 := hide hm1; clear hm1 R0)
    go_ret2
    exact .inl ⟨rfl, rfl, HB.out.1.2.then H1.out⟩
  | true =>
  have hkd : kd = 1 ∨ kd = 2 ∨ kd = 3 ∨ kd = 4 ∨ kd = 5 ∨ kd = 6 ∨ kd = 7 := by
    have := hk rfl
    simp only at this
    omega
  have hkr : kd ≤ 9223372036854775807 := by omega
  clear hk
  go_enter Tryz.func48, Tryz.ntmps48
  go_upto_region 1 with fail
  rw [← hW0]
  clear hW0
  go_upto_region 3 with (go_at_call 80; refine hy.mono ?_; rintro e w1 ⟨rfl, hm1⟩
                         have hws := hide (E3.new (HB.out.1.2.then hm1) (hm1.at_ HB.out.1.1 (by simp)))
                         clear hm1 R0 hy)
  go_upto_region 4 with fail
  obtain ⟨W1, hW1⟩ : ∃ W1, w1.alloc (.cells #[.slice none 0 0] 135 (0, 0)) = W1 := ⟨_, rfl⟩
  rw [hW1] at hws ⊢
  clear hW1
  have CR := (hws.out.es.box (k := w.heap.size) List.mem_cons_self).1
  go_upto_region 6 with (go_at_call 84; refine (num_e3 hws.out kd hkr (by omega)).mono ?_; rintro e W2 ⟨rfl, v2, h2⟩; clear hws CR; have hws := hide h2; have CR := (h2.es.box (k := w.heap.size) List.mem_cons_self).1; clear h2)
  have hwg := hws.out.alloc (.cells #[.int .i64 gi, .int .i64 gh, .string gp, .int .i64 gm, .slice q1 gs.length c1, .int .i64 gt] 40 (0, 0))
  obtain ⟨W3, hW3⟩ : ∃ W3, W2.alloc (.cells #[.int .i64 gi, .int .i64 gh, .string gp, .int .i64 gm, .slice q1 gs.length c1, .int .i64 gt] 40 (0, 0)) = W3 := ⟨_, rfl⟩
  rw [hW3] at hwg ⊢
  clear hW3 hws CR
  have hws := hide hwg
  have CR := (hwg.es.box (k := w.heap.size) (List.mem_cons_of_mem _ List.mem_cons_self)).1
  have CG := (hwg.es.box List.mem_cons_self).1
  clear hwg
  rcases hkd with rfl | rfl | rfl | rfl | rfl | rfl | rfl
  · skip
    have t1 := hide trivial
    have t9 := hide trivial
    have hf := heads_iff.1 (may_heads HE.out.2 rfl)
    simp only at hf
    have hE := HE.out.1
    rw [enc1 rfl] at hE
    have HEE := hide hE
    clear hE
    go_wp2_with (first
      | (have tk := t1; go_at_call 85; refine (lay2_e3 hws.out (rn) (rb) (by omega) (by omega) (by omega)).mono ?_; rintro e W2 ⟨rfl, v2, h2⟩; clear tk; clear hws CR CG; have hws := hide h2; have CR := (h2.es.box (k := w.heap.size) (List.mem_cons_of_mem _ List.mem_cons_self)).1; have CG := (h2.es.box List.mem_cons_self).1; clear h2 t1)
      | (have tk := t9; go_at_call 87; have hws3 := hide (hws.out.eq (EB := EB) (by rw [← HEE.out]; first | done | rfl | (simp [grantE, numsB, textB]; done))); refine (bytes_any hws3.out.es.wr (by have := hws3.out.ln; omega)).mono ?_; rintro e W2 ⟨p2, c2', rfl, hrow, hmd⟩; clear tk t9 CR CG; have hws2 := hide (And.intro hrow (And.intro hws3.out.es.md hmd)); clear hrow hmd hws hws3)
      | fail)
    go_ret2
    obtain ⟨hrow, m1, m2⟩ := hws2.out
    exact EncQ.some rfl hrow m1 m2
  · skip
    have t1 := hide trivial
    have t9 := hide trivial
    have hf := may_longest HE.out.2 rfl
    unfold legalT at hf
    simp only at hf
    have hE := HE.out.1
    rw [enc2 rfl] at hE
    have HEE := hide hE
    clear hE
    go_wp2_with (first
      | (have tk := t1; go_at_call 84; refine (num_e3 hws.out rl (by omega) (by omega)).mono ?_; rintro e W2 ⟨rfl, v2, h2⟩; clear tk; clear hws CR CG; have hws := hide h2; have CR := (h2.es.box (k := w.heap.size) (List.mem_cons_of_mem _ List.mem_cons_self)).1; have CG := (h2.es.box List.mem_cons_self).1; clear h2 t1)
      | (have tk := t9; go_at_call 87; have hws3 := hide (hws.out.eq (EB := EB) (by rw [← HEE.out]; first | done | rfl | (simp [grantE, numsB, textB]; done))); refine (bytes_any hws3.out.es.wr (by have := hws3.out.ln; omega)).mono ?_; rintro e W2 ⟨p2, c2', rfl, hrow, hmd⟩; clear tk t9 CR CG; have hws2 := hide (And.intro hrow (And.intro hws3.out.es.md hmd)); clear hrow hmd hws hws3)
      | fail)
    go_ret2
    obtain ⟨hrow, m1, m2⟩ := hws2.out
    exact EncQ.some rfl hrow m1 m2
  · skip
    have t1 := hide trivial
    have t2 := hide trivial
    have t3 := hide trivial
    have t4 := hide trivial
    have t9 := hide trivial
    have hf := (may_grant HE.out.2 (.inr rfl)).1
    obtain ⟨hf1, hf2, hf3, hf4, hf5, hf6, hf7⟩ := grant_iff.1 hf
    have hst := (stm_range hf5).1
    have hpl : gp.size ≤ 27 := by have := pathOk_len hf3; simpa using this
    unfold countOk at hf1
    unfold legalT at hf7
    simp only at hf1 hf2 hf4 hf5 hf6 hf7 hst
    clear hf hf3 hf6
    have hE := HE.out.1
    rw [enc4 (.inr rfl)] at hE
    have HEE := hide hE
    clear hE
    go_wp2_with (first
      | (have tk := t1; go_at_call 85; refine (lay2_e3 hws.out (gi) (gh) (by omega) (by omega) (by omega)).mono ?_; rintro e W2 ⟨rfl, v2, h2⟩; clear tk; clear hws CR CG; have hws := hide h2; have CR := (h2.es.box (k := w.heap.size) (List.mem_cons_of_mem _ List.mem_cons_self)).1; have CG := (h2.es.box List.mem_cons_self).1; clear h2 t1)
      | (have tk := t2; go_at_call 86; refine (text_e3 hws.out gp (by omega) (by omega)).mono ?_; rintro e W2 ⟨rfl, v2, h2⟩; clear tk; clear hws CR CG; have hws := hide h2; have CR := (h2.es.box (k := w.heap.size) (List.mem_cons_of_mem _ List.mem_cons_self)).1; have CG := (h2.es.box List.mem_cons_self).1; clear h2 t2)
      | (have tk := t3; go_at_call 85; refine (lay3_e3 hws.out (gm) (gt) (gs.length : Int) (by omega) (by omega) (by omega) (by omega)).mono ?_; rintro e W2 ⟨rfl, v2, h2⟩; clear tk; clear hws CR CG; have hws := hide h2; have CR := (h2.es.box (k := w.heap.size) (List.mem_cons_of_mem _ List.mem_cons_self)).1; have CG := (h2.es.box List.mem_cons_self).1; clear h2 t3)
      | (have tk := t4; go_at_call 85; refine (laya_e3 hws.out (es_arg hws.out.es HB.out.2.1) (by omega) (fun n hn => by have := (stm_range hf5).2 n hn; omega)).mono ?_; rintro e W2 ⟨rfl, v2, h2⟩; clear tk; clear hws CR CG; have hws := hide h2; have CR := (h2.es.box (k := w.heap.size) (List.mem_cons_of_mem _ List.mem_cons_self)).1; have CG := (h2.es.box List.mem_cons_self).1; clear h2 t4)
      | (have tk := t9; go_at_call 87; have hws3 := hide (hws.out.eq (EB := EB) (by rw [← HEE.out]; first | done | rfl | (simp [grantE, numsB, textB]; done))); refine (bytes_any hws3.out.es.wr (by have := hws3.out.ln; omega)).mono ?_; rintro e W2 ⟨p2, c2', rfl, hrow, hmd⟩; clear tk t9 CR CG; have hws2 := hide (And.intro hrow (And.intro hws3.out.es.md hmd)); clear hrow hmd hws hws3)
      | fail)
    go_ret2
    obtain ⟨hrow, m1, m2⟩ := hws2.out
    exact EncQ.some rfl hrow m1 m2
  · skip
    have t1 := hide trivial
    have t2 := hide trivial
    have t3 := hide trivial
    have t4 := hide trivial
    have t9 := hide trivial
    have hf := (may_grant HE.out.2 (.inl rfl)).1
    obtain ⟨hf1, hf2, hf3, hf4, hf5, hf6, hf7⟩ := grant_iff.1 hf
    have hst := (stm_range hf5).1
    have hpl : gp.size ≤ 27 := by have := pathOk_len hf3; simpa using this
    unfold countOk at hf1
    unfold legalT at hf7
    simp only at hf1 hf2 hf4 hf5 hf6 hf7 hst
    clear hf hf3 hf6
    have hE := HE.out.1
    rw [enc4 (.inl rfl)] at hE
    have HEE := hide hE
    clear hE
    go_wp2_with (first
      | (have tk := t1; go_at_call 85; refine (lay2_e3 hws.out (gi) (gh) (by omega) (by omega) (by omega)).mono ?_; rintro e W2 ⟨rfl, v2, h2⟩; clear tk; clear hws CR CG; have hws := hide h2; have CR := (h2.es.box (k := w.heap.size) (List.mem_cons_of_mem _ List.mem_cons_self)).1; have CG := (h2.es.box List.mem_cons_self).1; clear h2 t1)
      | (have tk := t2; go_at_call 86; refine (text_e3 hws.out gp (by omega) (by omega)).mono ?_; rintro e W2 ⟨rfl, v2, h2⟩; clear tk; clear hws CR CG; have hws := hide h2; have CR := (h2.es.box (k := w.heap.size) (List.mem_cons_of_mem _ List.mem_cons_self)).1; have CG := (h2.es.box List.mem_cons_self).1; clear h2 t2)
      | (have tk := t3; go_at_call 85; refine (lay3_e3 hws.out (gm) (gt) (gs.length : Int) (by omega) (by omega) (by omega) (by omega)).mono ?_; rintro e W2 ⟨rfl, v2, h2⟩; clear tk; clear hws CR CG; have hws := hide h2; have CR := (h2.es.box (k := w.heap.size) (List.mem_cons_of_mem _ List.mem_cons_self)).1; have CG := (h2.es.box List.mem_cons_self).1; clear h2 t3)
      | (have tk := t4; go_at_call 85; refine (laya_e3 hws.out (es_arg hws.out.es HB.out.2.1) (by omega) (fun n hn => by have := (stm_range hf5).2 n hn; omega)).mono ?_; rintro e W2 ⟨rfl, v2, h2⟩; clear tk; clear hws CR CG; have hws := hide h2; have CR := (h2.es.box (k := w.heap.size) (List.mem_cons_of_mem _ List.mem_cons_self)).1; have CG := (h2.es.box List.mem_cons_self).1; clear h2 t4)
      | (have tk := t9; go_at_call 87; have hws3 := hide (hws.out.eq (EB := EB) (by rw [← HEE.out]; first | done | rfl | (simp [grantE, numsB, textB]; done))); refine (bytes_any hws3.out.es.wr (by have := hws3.out.ln; omega)).mono ?_; rintro e W2 ⟨p2, c2', rfl, hrow, hmd⟩; clear tk t9 CR CG; have hws2 := hide (And.intro hrow (And.intro hws3.out.es.md hmd)); clear hrow hmd hws hws3)
      | fail)
    go_ret2
    obtain ⟨hrow, m1, m2⟩ := hws2.out
    exact EncQ.some rfl hrow m1 m2
  · skip
    have t1 := hide trivial
    have t2 := hide trivial
    have t9 := hide trivial
    have hf := may_fresh HE.out.2 rfl
    have hst := (stm_range hf.2).1
    have hid := hf.1
    unfold countOk at hid
    simp only at hid hst hf
    have hE := HE.out.1
    rw [enc5 rfl] at hE
    have HEE := hide hE
    clear hE
    go_wp2_with (first
      | (have tk := t1; go_at_call 85; refine (lay2_e3 hws.out (ri) (rs.length : Int) (by omega) (by omega) (by omega)).mono ?_; rintro e W2 ⟨rfl, v2, h2⟩; clear tk; clear hws CR CG; have hws := hide h2; have CR := (h2.es.box (k := w.heap.size) (List.mem_cons_of_mem _ List.mem_cons_self)).1; have CG := (h2.es.box List.mem_cons_self).1; clear h2 t1)
      | (have tk := t2; go_at_call 85; refine (laya_e3 hws.out (es_arg hws.out.es HB.out.2.2) (by omega) (fun n hn => by have := (stm_range hf.2).2 n hn; omega)).mono ?_; rintro e W2 ⟨rfl, v2, h2⟩; clear tk; clear hws CR CG; have hws := hide h2; have CR := (h2.es.box (k := w.heap.size) (List.mem_cons_of_mem _ List.mem_cons_self)).1; have CG := (h2.es.box List.mem_cons_self).1; clear h2 t2)
      | (have tk := t9; go_at_call 87; have hws3 := hide (hws.out.eq (EB := EB) (by rw [← HEE.out]; first | done | rfl | (simp [grantE, numsB, textB]; done))); refine (bytes_any hws3.out.es.wr (by have := hws3.out.ln; omega)).mono ?_; rintro e W2 ⟨p2, c2', rfl, hrow, hmd⟩; clear tk t9 CR CG; have hws2 := hide (And.intro hrow (And.intro hws3.out.es.md hmd)); clear hrow hmd hws hws3)
      | fail)
    go_ret2
    obtain ⟨hrow, m1, m2⟩ := hws2.out
    exact EncQ.some rfl hrow m1 m2
  · skip
    have t1 := hide trivial
    have t9 := hide trivial
    have hid := may_end HE.out.2 rfl
    unfold countOk at hid
    simp only at hid
    have hE := HE.out.1
    rw [enc6 rfl] at hE
    have HEE := hide hE
    clear hE
    go_wp2_with (first
      | (have tk := t1; go_at_call 84; refine (num_e3 hws.out ri (by omega) (by omega)).mono ?_; rintro e W2 ⟨rfl, v2, h2⟩; clear tk; clear hws CR CG; have hws := hide h2; have CR := (h2.es.box (k := w.heap.size) (List.mem_cons_of_mem _ List.mem_cons_self)).1; have CG := (h2.es.box List.mem_cons_self).1; clear h2 t1)
      | (have tk := t9; go_at_call 87; have hws3 := hide (hws.out.eq (EB := EB) (by rw [← HEE.out]; first | done | rfl | (simp [grantE, numsB, textB]; done))); refine (bytes_any hws3.out.es.wr (by have := hws3.out.ln; omega)).mono ?_; rintro e W2 ⟨p2, c2', rfl, hrow, hmd⟩; clear tk t9 CR CG; have hws2 := hide (And.intro hrow (And.intro hws3.out.es.md hmd)); clear hrow hmd hws hws3)
      | fail)
    go_ret2
    obtain ⟨hrow, m1, m2⟩ := hws2.out
    exact EncQ.some rfl hrow m1 m2
  · skip
    have t9 := hide trivial
    have hE := HE.out.1
    rw [enc7 rfl] at hE
    have HEE := hide hE
    clear hE
    go_wp2_with (first
      | (have tk := t9; go_at_call 87; have hws3 := hide (hws.out.eq (EB := EB) (by rw [← HEE.out]; first | done | rfl | (simp [grantE, numsB, textB]; done))); refine (bytes_any hws3.out.es.wr (by have := hws3.out.ln; omega)).mono ?_; rintro e W2 ⟨p2, c2', rfl, hrow, hmd⟩; clear tk t9 CR CG; have hws2 := hide (And.intro hrow (And.intro hws3.out.es.md hmd)); clear hrow hmd hws hws3)
      | fail)
    go_ret2
    obtain ⟨hrow, m1, m2⟩ := hws2.out
    exact EncQ.some rfl hrow m1 m2
end Go.Proofs.YtpphoeimakjjdaaGreatDoor
