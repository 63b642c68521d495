/-
  WALKS: the first call of every law on the agenda: 'awake' answers true.
-/
import Derived.Test.YtbaphdaipacihaaRefTake
namespace Go.Proofs.Ytbaphdaipacihaa
open Go.RowKit Go.Sort Go.Shelf

section
variable {w : World} {pa : Nat} {own : List Nat} {l : List Item}
/-- what a call leaves: the agenda's new list -/
def AgNow (w : World) (pa : Nat) (own : List Nat) (l' : List Item) (w' : World) : Prop := ∃ own', Ag w' pa own' l' ∧ AgTo w pa own w' own'
theorem put_eq (h : Ag w pa own l) (x1 x2 x3 : Int) {l' : List Item} {c : Int} (hp : putI l (x1, x2, x3) = (l', c)) :
    Calls Try.prog 10 #[.pointer (some ⟨pa, 0, none⟩), .agg #[.int .i64 x1, .int .i64 x2, .int .i64 x3]] w fun e w' => e = .returned (.int .i64 c) ∧ AgNow w pa own l' w' :=
  (put_any h x1 x2 x3).mono fun e w' ⟨he, ho⟩ => by rw [hp] at he ho; exact ⟨he, ho⟩
theorem take_eq (h : Ag w pa own l) (now : Int) {l' : List Item} {o : Option Item} (hp : takeI l now = (l', o)) :
    Calls Try.prog 18 #[.pointer (some ⟨pa, 0, none⟩), .int .i64 now] w fun e w' => e = .returned (optV o) ∧ AgNow w pa own l' w' :=
  (take_any h now).mono fun e w' ⟨he, ho⟩ => by rw [hp] at he ho; exact ⟨he, ho⟩
theorem drop_eq (h : Ag w pa own l) (kd key : Int) {l' : List Item} (hp : dropI l kd key = l') {b : Bool} (hb : decide (l'.length < l.length) = b) :
    Calls Try.prog 13 #[.pointer (some ⟨pa, 0, none⟩), .int .i64 kd, .int .i64 key] w fun e w' => e = .returned (.bool b) ∧ AgNow w pa own l' w' :=
  (drop_any h kd key).mono fun e w' ⟨he, ho⟩ => by subst hp hb; exact ⟨he, ho⟩
theorem first_eq (h : Ag w pa own l) {o : Option Item} (hp : l.head? = o) :
    Calls Try.prog 16 #[.pointer (some ⟨pa, 0, none⟩)] w fun e w' => e = .returned (optV o) ∧ Mod [] w w' :=
  (first_any h).mono fun e w' ⟨he, ho⟩ => by subst hp; exact ⟨he, ho⟩
theorem get_eq (h : Ag w pa own l) (kd key : Int) {o : Option Item} (hp : l.find? (isB kd key) = o) :
    Calls Try.prog 14 #[.pointer (some ⟨pa, 0, none⟩), .int .i64 kd, .int .i64 key] w fun e w' => e = .returned (optV o) ∧ Mod [] w w' :=
  (get_any h kd key).mono fun e w' ⟨he, ho⟩ => by subst hp; exact ⟨he, ho⟩
theorem aglen (h : Ag w pa own l) {n : Int} (hn : n = l.length) : Calls Try.prog 11 #[.pointer (some ⟨pa, 0, none⟩)] w fun e w' => e = .returned (.int .i64 n) ∧ w = w' := by
  obtain ⟨v, d, hr, hp, _⟩ := h.rep
  subst hn
  rw [← hp.length_eq]
  exact alen_any hr.ag
theorem AgTo.apart {w' : World} {own' : List Nat} (t : AgTo w pa own w' own') {b : Nat} (hb : b < w.heap.size) (h : b ∉ pa :: own) : b ∉ pa :: own' := fun hx => by
  rcases List.mem_cons.1 hx with e | e
  · exact h (by rw [e]; exact List.mem_cons_self)
  · rcases t.own b e with a | a
    · exact h (List.mem_cons_of_mem _ a)
    · omega
/-- a block of no agenda, that stays -/
structure Aside (w : World) (pa : Nat) (own : List Nat) (b : Nat) (o : Obj) : Prop where
  at_ : w.heap[b]? = some o
  off : b ∉ pa :: own
theorem Aside.to {w' : World} {own' : List Nat} {b : Nat} {o : Obj} (a : Aside w pa own b o) (t : AgTo w pa own w' own') : Aside w' pa own' b o := ⟨t.mod.at_ a.at_ a.off, t.apart (lt_of_block a.at_) a.off⟩
theorem Aside.mod {w' : World} {b : Nat} {o : Obj} (a : Aside w pa own b o) (t : Mod [] w w') : Aside w' pa own b o := ⟨t.at_ a.at_ (by simp), a.off⟩
theorem Aside.new (h : Ag w pa own l) (o : Obj) : Aside (w.alloc o) pa own w.heap.size o := ⟨heap_alloc_new w o, fun hx => by
  rcases List.mem_cons.1 hx with e | e
  · have := h.lt.1; omega
  · have := h.lt.2 _ e; omega⟩
theorem Aside.cell {b : Nat} {cs : Array Value} {T : TypeId} (a : Aside w pa own b (.cells cs T (0, 0))) (o : Nat) : w.cell? ⟨b, o, none⟩ = cs[o]? := blk_cell a.at_ o
end
/-- what was before W is as it was, and the agenda lies behind it -/
structure Since (W w : World) (pa : Nat) (own : List Nat) : Prop where
  mod : Mod [] W w
  own : ∀ k, k ∈ pa :: own → W.heap.size ≤ k
theorem Since.to {W w w' : World} {pa : Nat} {own own' : List Nat} (s : Since W w pa own) (t : AgTo w pa own w' own') : Since W w' pa own' :=
  ⟨s.mod.trans t.mod (by simp) (fun k hk hlt => by have := s.own k hk; omega), fun k hk => by
    rcases List.mem_cons.1 hk with e | e
    · exact s.own k (by rw [e]; exact List.mem_cons_self)
    · rcases t.own k e with a | a
      · exact s.own k (List.mem_cons_of_mem _ a)
      · have := s.mod.size; omega⟩
theorem Since.then {W w w' : World} {pa : Nat} {own : List Nat} (s : Since W w pa own) (m : Mod [] w w') : Since W w' pa own := ⟨s.mod.then m, s.own⟩
theorem Since.gr {W w w' : World} {pa : Nat} {own : List Nat} (s : Since W w pa own) (g : Gr w w') : Since W w' pa own := s.then (g.mod [])
def itc (x : Item) (T : TypeId) : Obj := .cells #[.int .i64 x.1, .int .i64 x.2.1, .int .i64 x.2.2] T (0, 0)

set_option maxHeartbeats 2000000 in
set_option maxRecDepth 100000 in
theorem awake_any (w : World) : Calls Try.prog 9 #[] w fun e w' => e = .returned (.bool true) ∧ Mod [] w w' := by
  go_enter Try.func9, Try.ntmps9
  go_wp2_with fail
  refine (new_any w).mono ?_
  rintro e w1 ⟨rfl, hr, hg1, hs1⟩
  have hA : Ag w1 w.heap.size [] [] := ⟨⟨_, [], hr, .refl _, rfl⟩, List.Pairwise.nil, List.Pairwise.nil, by simp⟩
  have hm1 := hg1.mod []
  have hpa : w.heap.size ≤ w.heap.size := Nat.le_refl _
  clear hr hg1
  have s1 : Since w w1 w.heap.size [] := ⟨hm1, by simp⟩
  clear hm1
  generalize hP : w.heap.size = pa at hA hs1 s1 ⊢
  have HP := hide hP
  clear hP hpa
  go_wp2_with fail
  refine (put_eq hA 9 1 5 (l' := [(9, 1, 5)]) (c := 0) (by decide)).mono ?_
  rintro e w2 ⟨rfl, own2, hA2, ht2⟩
  go_wp2_with fail
  refine (put_eq hA2 3 2 1 (l' := [(3, 2, 1), (9, 1, 5)]) (c := 0) (by decide)).mono ?_
  rintro e w3 ⟨rfl, own3, hA3, ht3⟩
  go_wp2_with fail
  refine (put_eq hA3 3 1 7 (l' := [(3, 1, 7), (3, 2, 1), (9, 1, 5)]) (c := 0) (by decide)).mono ?_
  rintro e w4 ⟨rfl, own4, hA4, ht4⟩
  go_wp2_with fail
  refine (first_eq hA4 (o := some (3, 1, 7)) rfl).mono ?_
  rintro e w5 ⟨rfl, hm5⟩
  have s5 := (((s1.to ht2).to ht3).to ht4).then hm5
  have hA5 := hA4.mod hm5 (by simp) (by simp)
  simp only [optV, itvO, itv, Option.isSome]
  have a2 := Aside.new hA5 (itc (3, 1, 7) 29)
  have hA5' := hA5.gr ((Gr.refl w5).alloc (itc (3, 1, 7) 29))
  have s5' := s5.gr ((Gr.refl w5).alloc (itc (3, 1, 7) 29))
  unfold itc at a2 hA5' s5'
  clear hA hA2 hA3 hA4 hA5 ht2 ht3 ht4 s1 s5 hm5
  go_wp2_with fail
  refine (take_eq hA5' 2 (l' := [(3, 1, 7), (3, 2, 1), (9, 1, 5)]) (o := none) (by decide)).mono ?_
  rintro e w6 ⟨rfl, own6, hA6, ht6⟩
  have s6 := s5'.to ht6
  have a2_6 := a2.to ht6
  clear hA5' s5' ht6 a2
  simp only [optV, itvO, itv, Option.isSome]
  have a4 := Aside.new hA6 (itc (0, 0, 0) 29)
  have hA6' := hA6.gr ((Gr.refl w6).alloc (itc (0, 0, 0) 29))
  have s6' := s6.gr ((Gr.refl w6).alloc (itc (0, 0, 0) 29))
  have a2_6' := a2_6.mod (((Gr.refl w6).alloc (itc (0, 0, 0) 29)).mod [])
  unfold itc at a4 hA6' s6' a2_6'
  clear hA6 s6 a2_6
  go_wp2_with fail
  refine (take_eq hA6' 5 (l' := [(3, 2, 1), (9, 1, 5)]) (o := some (3, 1, 7)) (by decide)).mono ?_
  rintro e w7 ⟨rfl, own7, hA7, ht7⟩
  have s7 := s6'.to ht7
  have a2_7 := a2_6'.to ht7
  have a4_7 := a4.to ht7
  clear hA6' s6' ht7 a2_6' a4
  simp only [optV, itvO, itv, Option.isSome]
  have a6 := Aside.new hA7 (itc (3, 1, 7) 29)
  have hA7' := hA7.gr ((Gr.refl w7).alloc (itc (3, 1, 7) 29))
  have s7' := s7.gr ((Gr.refl w7).alloc (itc (3, 1, 7) 29))
  have a2_7' := a2_7.mod (((Gr.refl w7).alloc (itc (3, 1, 7) 29)).mod [])
  have a4_7' := a4_7.mod (((Gr.refl w7).alloc (itc (3, 1, 7) 29)).mod [])
  unfold itc at a6 hA7' s7' a2_7' a4_7'
  clear hA7 s7 a2_7 a4_7
  go_wp2_with fail
  refine (take_eq hA7' 5 (l' := [(9, 1, 5)]) (o := some (3, 2, 1)) (by decide)).mono ?_
  rintro e w8 ⟨rfl, own8, hA8, ht8⟩
  have s8 := s7'.to ht8
  have a2_8 := a2_7'.to ht8
  have a4_8 := a4_7'.to ht8
  have a6_8 := a6.to ht8
  clear hA7' s7' ht8 a2_7' a4_7' a6
  simp only [optV, itvO, itv, Option.isSome]
  have a8 := Aside.new hA8 (itc (3, 2, 1) 29)
  have hA8' := hA8.gr ((Gr.refl w8).alloc (itc (3, 2, 1) 29))
  have s8' := s8.gr ((Gr.refl w8).alloc (itc (3, 2, 1) 29))
  have a2_8' := a2_8.mod (((Gr.refl w8).alloc (itc (3, 2, 1) 29)).mod [])
  have a4_8' := a4_8.mod (((Gr.refl w8).alloc (itc (3, 2, 1) 29)).mod [])
  have a6_8' := a6_8.mod (((Gr.refl w8).alloc (itc (3, 2, 1) 29)).mod [])
  unfold itc at a8 hA8' s8' a2_8' a4_8' a6_8'
  clear hA8 s8 a2_8 a4_8 a6_8
  go_wp2_with fail
  refine (get_eq hA8' 1 5 (o := some (9, 1, 5)) (by decide)).mono ?_
  rintro e w9 ⟨rfl, hm9⟩
  have hA9 := hA8'.mod hm9 (by simp) (by simp)
  have s9 := s8'.then hm9
  have a2_9 := a2_8'.mod hm9
  have a4_9 := a4_8'.mod hm9
  have a6_9 := a6_8'.mod hm9
  have a8_9 := a8.mod hm9
  clear hA8' s8' hm9 a2_8' a4_8' a6_8' a8
  simp only [optV, itvO, itv, Option.isSome]
  have a10 := Aside.new hA9 (itc (9, 1, 5) 29)
  have hA9' := hA9.gr ((Gr.refl w9).alloc (itc (9, 1, 5) 29))
  have s9' := s9.gr ((Gr.refl w9).alloc (itc (9, 1, 5) 29))
  have a2_9' := a2_9.mod (((Gr.refl w9).alloc (itc (9, 1, 5) 29)).mod [])
  have a4_9' := a4_9.mod (((Gr.refl w9).alloc (itc (9, 1, 5) 29)).mod [])
  have a6_9' := a6_9.mod (((Gr.refl w9).alloc (itc (9, 1, 5) 29)).mod [])
  have a8_9' := a8_9.mod (((Gr.refl w9).alloc (itc (9, 1, 5) 29)).mod [])
  unfold itc at a10 hA9' s9' a2_9' a4_9' a6_9' a8_9'
  clear hA9 s9 a2_9 a4_9 a6_9 a8_9
  have ca2 := a2_9'.cell
  have ca6 := a6_9'.cell
  have ca8 := a8_9'.cell
  have ca10 := a10.cell
  go_wp2_with fail
  refine (aglen hA9' (n := 1) rfl).mono ?_
  rintro e w10 ⟨rfl, rfl⟩
  clear ca2 ca6 ca8 ca10 a2_9' a4_9' a6_9' a8_9' a10
  go_wp2_with fail
  refine (list_any hA9').mono ?_
  rintro e w11 ⟨v, rfl, hrow, hm11⟩
  have hA11 := hA9'.mod hm11 (by simp) (by simp)
  have s11 := s9'.then hm11
  obtain ⟨p, c, rfl⟩ := (RdI.of_row hrow).len
  clear hA9' s9' hm11 hrow
  simp only [List.length_cons, List.length_nil]
  go_wp2_with fail
  refine (drop_eq hA11 1 5 (l' := []) (by decide) (b := true) (by decide)).mono ?_
  rintro e w12 ⟨rfl, own12, hA12, ht12⟩
  have s12 := s11.to ht12
  clear hA11 s11 ht12
  go_wp2_with fail
  refine (drop_eq hA12 1 5 (l' := []) (by decide) (b := false) (by decide)).mono ?_
  rintro e w13 ⟨rfl, own13, hA13, ht13⟩
  have s13 := s12.to ht13
  clear hA12 s12 ht13 hA13
  go_wp2_with fail
  go_ret
  exact ⟨rfl, s13.mod⟩
end Go.Proofs.Ytbaphdaipacihaa
