/-
  WALKS: layer 5: along, List, Over, Under at a receiver that may be nil.
-/
import Derived.Test.YthkcbennfochmaaGreatDoorPsIds
namespace Go.Proofs.YthkcbennfochmaaGreatDoor
open Go.RowKit Go.Maps

theorem SetM.depth {w : World} {sb wb : Nat} {N : List Nd} {l : List Ent} (h : SetM w sb wb N l) : ∀ m, m ∈ N → m.pre.length ≤ 4 := by
  intro m hm
  by_cases e : m.pre = []
  · rw [e]; exact Nat.zero_le _
  · obtain ⟨x, hx, hp⟩ := h.pr m hm e
    exact Nat.le_trans hp.length_le (segs_length (h.ok x hx).1)
theorem SetM.below {w : World} {sb wb : Nat} {N : List Nd} {l : List Ent} (h : SetM w sb wb N l) {n : Nd} (hn : n ∈ N) :
    Calls Tryz.prog 24 #[.pointer (some ⟨n.b, 0, none⟩)] w fun en w' => BelTo w l n.pre en w' :=
  below_any (5 - n.pre.length) w N l h.tree h.ids h.small h.depth n hn (by have := h.depth n hn; omega)
theorem belowL_nil (l : List Ent) : belowL l [] = l := by
  unfold belowL
  exact List.filter_eq_self.2 fun e _ => decide_eq_true (List.nil_prefix)
/-- a receiver that stands for the entries l: a set, or nil, with none -/
def SetQ (w : World) (o : Option Addr) (N : List Nd) (l : List Ent) : Prop := (∃ sb wb, o = some ⟨sb, 0, none⟩ ∧ SetM w sb wb N l) ∨ (o = none ∧ N = [] ∧ l = [])
theorem SetQ.same {w w' : World} {o : Option Addr} {N : List Nd} {l : List Ent} (h : SetQ w o N l) (m : Mod [] w w') : SetQ w' o N l := by
  rcases h with ⟨sb, wb, e, h⟩ | h
  · exact .inl ⟨sb, wb, e, h.same m⟩
  · exact .inr h
theorem SetQ.small {w : World} {o : Option Addr} {N : List Nd} {l : List Ent} (h : SetQ w o N l) : l.length ≤ 64 := by
  rcases h with ⟨sb, wb, e, h⟩ | ⟨-, -, h⟩
  · exact h.small
  · rw [h]; exact Nat.zero_le _
theorem SetQ.fine {w : World} {o : Option Addr} {N : List Nd} {l : List Ent} (h : SetQ w o N l) : ∀ e, e ∈ l → pathOk e.bs = true := by
  rcases h with ⟨sb, wb, e, h⟩ | ⟨-, -, h⟩
  · exact fun e he => (h.ok e he).1
  · rw [h]; simp
theorem SetQ.none_ (w : World) : SetQ w none [] [] := .inr ⟨rfl, rfl, rfl⟩
theorem SetQ.below {w : World} {o : Option Addr} {N : List Nd} {l : List Ent} (h : SetQ w o N l) {n : Nd} (hn : n ∈ N) :
    Calls Tryz.prog 24 #[.pointer (some ⟨n.b, 0, none⟩)] w fun en w' => BelTo w l n.pre en w' := by
  rcases h with ⟨sb, wb, e, h⟩ | ⟨-, h, -⟩
  · exact h.below hn
  · rw [h] at hn; cases hn
theorem SetQ.nd {w : World} {o : Option Addr} {N : List Nd} {l : List Ent} (h : SetQ w o N l) {n : Nd} (hn : n ∈ N) : NdM w N l n := by
  rcases h with ⟨sb, wb, e, h⟩ | ⟨-, h, -⟩
  · exact h.nd n hn
  · rw [h] at hn; cases hn
theorem SetQ.ids {w : World} {o : Option Addr} {N : List Nd} {l : List Ent} (h : SetQ w o N l) : l.Pairwise fun a b => a.id ≠ b.id := by
  rcases h with ⟨sb, wb, e, h⟩ | ⟨-, -, h⟩
  · exact h.ids
  · rw [h]; exact List.Pairwise.nil
theorem SetQ.miss {w : World} {o : Option Addr} {N : List Nd} {l : List Ent} (h : SetQ w o N l) {p : List Seg} (hp : ∀ n, n ∈ N → n.pre ≠ p) : entsOf l p = [] ∧ belowL l p = [] := by
  rcases h with ⟨sb, wb, e, h⟩ | ⟨-, -, h⟩
  · exact h.tr.miss hp (List.prefix_refl _)
  · rw [h]; exact ⟨rfl, rfl⟩
set_option maxRecDepth 100000 in
theorem salong_nil (w : World) (p : ByteArray) (hp : p.size ≤ 9223372036854775807) :
    Calls Tryz.prog 31 #[.pointer none, .string p] w fun en w' => AlTo w [] [] p.data.toList en w' := by
  go_enter Tryz.func31, Tryz.ntmps31
  go_wp2_with fail
  refine (psplit_gen p hp _).mono ?_
  rintro en w2 ⟨q, D, er, rfl, g2, hs2⟩
  rcases hs2 with ⟨rfl, h1, rfl⟩ | ⟨rfl, hpk, hD, hDl, hDz, hDc⟩
  · go_wp2_with fail
    go_ret2
    exact ⟨_, [], none, rfl, RowE.nil _ _, g2.mod [], .inl ⟨h1, rfl, rfl⟩⟩
  · have HP := hide hpk
    clear hpk hD hDl hDz hDc
    go_wp2_with fail
    go_ret2
    exact ⟨_, [], none, rfl, RowE.nil _ _, g2.mod [], .inr ⟨HP.out, by simp [onWay, entsOf], .inr ⟨by simp, rfl⟩⟩⟩
theorem along_q {w : World} {o : Option Addr} {N : List Nd} {l : List Ent} (h : SetQ w o N l) (p : ByteArray) (hp : p.size ≤ 9223372036854775807) :
    Calls Tryz.prog 31 #[.pointer o, .string p] w fun en w' => AlTo w N l p.data.toList en w' := by
  rcases h with ⟨sb, wb, rfl, h⟩ | ⟨rfl, rfl, rfl⟩
  · exact salong_any h p hp
  · exact salong_nil w p hp
theorem len_q {w : World} {o : Option Addr} {N : List Nd} {l : List Ent} (h : SetQ w o N l) : Calls Tryz.prog 7 #[.pointer o] w fun e w' => e = .returned (.int .i64 l.length) ∧ w' = w := by
  rcases h with ⟨sb, wb, rfl, h⟩ | ⟨rfl, rfl, rfl⟩
  · exact slen_any h
  · exact slen_nil w
/-! ### the plain laws -/
theorem filt_true (xs : List Ent) : xs.filter (fun _ => true) = xs := List.filter_eq_self.2 fun _ _ => rfl
theorem sort_ids {xs ys : List Ent} (h : xs.Perm ys) : sortI (xs.map Ent.id) = sortI (ys.map Ent.id) := sortI_congr (h.map _)
theorem covers_bad {a b : List UInt8} (h : pathOk b = false) : coversB a b = false ∧ coversB b a = false := by
  unfold coversB
  rw [h]
  simp
theorem over_bad {l : List Ent} {p : List UInt8} (h : pathOk p = false) : overS5 l p = [] ∧ underS5 l p = [] := by
  unfold overS5 underS5
  rw [List.filter_eq_nil_iff.2 (fun e _ => by rw [(covers_bad h).1]; simp), List.filter_eq_nil_iff.2 (fun e _ => by rw [(covers_bad h).2]; simp)]
  exact ⟨List.perm_nil.1 (sortI_perm []), List.perm_nil.1 (sortI_perm [])⟩
theorem clash_bad {l : List Ent} {p : List UInt8} {m who : Int} (h : pathOk p = false ∨ modE m = false) : clashS5 l p m who = [] := by
  unfold clashS5
  rw [List.filter_eq_nil_iff.2 (fun e _ => by
    unfold standsB
    rcases h with h | h
    · rw [(covers_bad h).1, (covers_bad h).2]; simp
    · rw [h]; simp)]
  exact List.perm_nil.1 (sortI_perm [])
theorem over_ans {l : List Ent} (hl : ∀ e, e ∈ l → pathOk e.bs = true) {p : List UInt8} (hp : pathOk p = true) {xs : List Ent} (h : xs.Perm (onWay l (segsOf p) (segsOf p).length ++ entsOf l (segsOf p))) : sortI (xs.map Ent.id) = overS5 l p := by
  unfold overS5
  rw [over_filter hl hp]
  refine sort_ids (h.trans ?_)
  have h1 := over_perm l (segsOf p)
  change List.Perm _ (onWay l (segsOf p) ((segsOf p).length + 1)) at h1
  rw [onWay_succ, List.take_length] at h1
  exact h1.symm
theorem under_ans {l : List Ent} (hl : ∀ e, e ∈ l → pathOk e.bs = true) {p : List UInt8} (hp : pathOk p = true) {xs : List Ent} (h : xs.Perm (belowL l (segsOf p))) : sortI (xs.map Ent.id) = underS5 l p := by
  unfold underS5
  rw [under_filter hl hp]
  exact sort_ids h
theorem clash_ans {l : List Ent} (hl : ∀ e, e ∈ l → pathOk e.bs = true) {p : List UInt8} (hp : pathOk p = true) {m who : Int} (hm : modE m = true) {xs : List Ent} (h : xs.Perm (onWay l (segsOf p) (segsOf p).length ++ belowL l (segsOf p))) :
    sortI ((xs.filter (fitsC m who)).map Ent.id) = clashS5 l p m who := by
  unfold clashS5
  rw [clash_filter hl hp hm]
  have e1 : (fun e : Ent => decide (e.who ≠ who) && (decide (m = 2) || decide (e.mode = 2))) = fitsC m who := by
    funext e
    unfold fitsC
    by_cases h1 : e.who = who <;> by_cases h2 : m = 2 <;> by_cases h3 : e.mode = 2 <;> simp [h1, h2, h3]
  rw [e1]
  exact sort_ids ((h.trans (lap_perm l (segsOf p)).symm).filter _)
/-- a new row of numbers -/
def NewN (w : World) (xs : List Int) (e : Ending) (w' : World) : Prop := ∃ v, e = .returned v ∧ RowN w' w.heap.size v xs ∧ Mod [] w w'
theorem IdsTo.all {w : World} {xs : List Ent} {e : Ending} {w' : World} (h : IdsTo w xs (fun _ => true) e w') : NewN w (sortI (xs.map Ent.id)) e w' := by
  unfold IdsTo at h
  rw [filt_true] at h
  exact h
theorem NewN.of {w w1 : World} {xs : List Int} {e : Ending} {w' : World} (m : Mod [] w w1) (h : NewN w1 xs e w') : NewN w xs e w' := by
  obtain ⟨v, h1, h2, h3⟩ := h
  exact ⟨v, h1, h2.mono m.size, m.then h3⟩
theorem NewN.zero (w : World) {w' : World} (m : Mod [] w w') : NewN w [] (.returned (.slice none 0 0)) w' := ⟨_, rfl, RowN.nil _ _, m⟩
/-- two rows that are one after the other -/
theorem row_two {w : World} {base : Nat} {u : Value} {xs ys : List Ent} (h : w.ownsRow base 29 4 u (xs.length + ys.length) (xs.flatMap encE ++ ys.flatMap encE)) : RowE w base u (xs ++ ys) := by
  unfold RowE
  rw [List.length_append, List.flatMap_append]
  exact h
/-! ### Over, Under -/
set_option maxHeartbeats 1000000 in
set_option maxRecDepth 100000 in
theorem sover_any {w : World} {o : Option Addr} {N : List Nd} {l : List Ent} (h : SetQ w o N l) (p : ByteArray) (hp : p.size ≤ 9223372036854775807) : Calls Tryz.prog 14 #[.pointer o, .string p] w fun en w' => NewN w (overS5 l p.data.toList) en w' := by
  obtain ⟨i0, hi, hz0, hz1, hz2⟩ := info_parts info_ent
  have HI := hide (And.intro hi (And.intro hz0 (And.intro hz1 hz2)))
  clear hi hz0 hz1 hz2
  have hal := along_q h p hp
  have HX := hide h
  clear h
  go_enter Tryz.func14, Tryz.ntmps14
  go_wp2_with fail
  refine hal.mono ?_
  clear hal
  rintro en w1 ⟨v, xs, bp, rfl, hrow, hm1, hcase⟩
  have HM := hide hm1
  have hfine := HX.out.fine
  rcases hcase with ⟨hpk, rfl, rfl⟩ | ⟨hpk, hperm, hend⟩
  · clear HI
    go_wp2_with (
      go_at_call 32
      refine (ids_any hrow (Nat.zero_le _)).mono ?_
      intro e w2 hids
      replace hids := (IdsTo.all hids).of HM.out
      obtain ⟨v2, rfl, hr2, hm2⟩ := hids
      have HR := hide (And.intro hr2 hm2)
      clear hr2 hm2 hrow)
    go_ret
    rw [(over_bad hpk).1]
    have e0 : sortI [] = [] := List.perm_nil.1 (sortI_perm [])
    obtain ⟨hr2, hm2⟩ := HR.out
    rw [List.map_nil, e0] at hr2
    exact ⟨_, rfl, hr2, hm2⟩
  · have hQ := HX.out.same hm1
    have hxl : xs.length ≤ 64 := by
      rw [hperm.length_eq]
      exact Nat.le_trans (onWay_le l _ (Nat.le_succ _)) hQ.small
    rcases hend with ⟨n, hn, hnp, rfl⟩ | ⟨hno, rfl⟩
    · have hnd := hQ.nd hn
      have CB := blk_cell hnd.blk
      have hcol := coll_gen (ents_ids hQ.ids n.pre) (Nat.le_trans (ents_le l n.pre) hQ.small) hnd.em
      have hlen : xs.length + (entsOf l n.pre).length ≤ 64 := by
        have h1 := onWay_le l (segsOf p.data.toList) (k := (segsOf p.data.toList).length + 1) (Nat.le_refl _)
        rw [onWay_succ, List.length_append, List.take_length] at h1
        rw [hperm.length_eq, hnp]
        exact Nat.le_trans h1 hQ.small
      have HC := hide hcol
      have HK := hide (And.intro hn (And.intro hnp (And.intro hperm (And.intro hlen (And.intro hrow hpk)))))
      have HF := hide hfine
      have hsz1 := hm1.size
      clear hn hnp hperm hlen hrow hcol hnd hQ hxl hpk hfine hm1
      go_wp2_with (first
        | (go_at_call 35
           refine (values_any _ _).mono ?_
           rintro e w' ⟨rfl, rfl⟩)
        | (go_at_call 34
           refine HC.out.mono ?_
           rintro e w4 ⟨v4, ys, rfl, hp4, hr4, hm4⟩
           obtain ⟨hn, hnp, hperm, hlen, hrow, hpk⟩ := HK.out
           obtain ⟨hi, hz0, hz1, hz2⟩ := HI.out
           have hrow4 := hrow.mod hm4 (by simp)
           have hlen4 : xs.length + ys.length ≤ 64 := (by rw [hp4.length_eq]; exact hlen)
           have q6 : xs.length + ys.length ≤ maxLen := by unfold maxLen; omega
           have q7 : (xs.length + ys.length) * 40 ≤ 140737488355328 := by omega
           have q8 : w.heap.size ≤ w4.heap.size := Nat.le_trans hsz1 hm4.size
           have H4 := hide (And.intro hp4 hm4)
           clear hp4 hm4 hn hnp hperm hlen hrow hpk HC CB)
        | (at_builtin
           refine wpList_append_row _ rfl _ _ 26 rfl 29 i0 _ 4 40 Tryz.underlying26 hi hz0 hz1 hz2 rfl (by decide) rfl hrow4 rfl hr4 (encEs_one ys) q6 q7 q8 ?_
           intro u5 w5 hown5 hgr5
           have hu5 := row_two hown5
           have hown4 := fun k (hk : Value.ownBlock v = some k) => hrow4.own hk
           have hm5 : Mod [] w w5 := ((HM.out.then H4.out.2).trans ((Mod.refl (obl v) w4).grown hgr5 (fun k e _ => mem_obl.2 e)) (by simp) (fun k hk hlt2 => (by
             have h1 := hown4 k (mem_obl.1 hk)
             omega)))
           have h64 : (xs ++ ys).length ≤ 64 := (by rw [List.length_append]; exact hlen4)
           have HM5 := hide hm5
           clear hm5 hown4 hown5 hgr5 hrow4 hr4 hi hz0 hz1 hz2)
        | (go_at_call 32
           refine (ids_any hu5 h64).mono ?_
           intro e w6 hids
           replace hids := (IdsTo.all hids).of HM5.out
           obtain ⟨v6, rfl, hr6, hm6⟩ := hids
           have HR := hide (And.intro hr6 hm6)
           clear hr6 hm6 hu5)
        | fail)
      go_ret
      obtain ⟨hn, hnp, hperm, hlen, hrow, hpk⟩ := HK.out
      obtain ⟨hr6, hm6⟩ := HR.out
      rw [over_ans HF.out hpk (hperm.append (by rw [← hnp]; exact H4.out.1))] at hr6
      exact ⟨_, rfl, hr6, hm6⟩
    · clear HI
      have HK := hide (And.intro hpk (And.intro hperm (And.intro hfine (hQ.miss hno))))
      clear hpk hperm hfine hQ hno hm1
      go_wp2_with (
        go_at_call 32
        refine (ids_any hrow hxl).mono ?_
        intro e w6 hids
        replace hids := (IdsTo.all hids).of HM.out
        obtain ⟨v6, rfl, hr6, hm6⟩ := hids
        have HR := hide (And.intro hr6 hm6)
        clear hr6 hm6 hrow)
      go_ret
      obtain ⟨hpk, hperm, hfine, hmiss, -⟩ := HK.out
      obtain ⟨hr6, hm6⟩ := HR.out
      rw [over_ans hfine hpk (by rw [hmiss, List.append_nil]; exact hperm)] at hr6
      exact ⟨_, rfl, hr6, hm6⟩
set_option maxHeartbeats 1000000 in
set_option maxRecDepth 100000 in
theorem sunder_any {w : World} {o : Option Addr} {N : List Nd} {l : List Ent} (h : SetQ w o N l) (p : ByteArray) (hp : p.size ≤ 9223372036854775807) : Calls Tryz.prog 15 #[.pointer o, .string p] w fun en w' => NewN w (underS5 l p.data.toList) en w' := by
  have hal := along_q h p hp
  have HX := hide h
  clear h
  go_enter Tryz.func15, Tryz.ntmps15
  go_wp2_with fail
  refine hal.mono ?_
  clear hal
  rintro en w1 ⟨v, xs, bp, rfl, hrow, hm1, hcase⟩
  have HM := hide hm1
  have hfine := HX.out.fine
  rcases hcase with ⟨hpk, rfl, rfl⟩ | ⟨hpk, hperm, hend⟩
  · go_wp2_with fail
    go_ret
    rw [(over_bad hpk).2]
    exact NewN.zero _ HM.out
  · have hQ := HX.out.same hm1
    rcases hend with ⟨n, hn, hnp, rfl⟩ | ⟨hno, rfl⟩
    · have hbel := hQ.below hn
      have hbl := below_le l n.pre
      have hsm := hQ.small
      have HK := hide (And.intro hpk (And.intro hnp hfine))
      clear hQ hpk hn hnp hperm hfine hrow hm1
      go_wp2_with (first
        | (go_at_call 24
           refine hbel.mono ?_
           rintro e w4 ⟨v4, ys, rfl, hp4, hr4, hm4⟩
           have h64 : ys.length ≤ 64 := (by rw [hp4.length_eq]; omega)
           have H4 := hide (And.intro hp4 hm4)
           clear hp4 hm4 hbel)
        | (go_at_call 32
           refine (ids_any hr4 h64).mono ?_
           intro e w6 hids
           replace hids := (IdsTo.all hids).of (HM.out.then H4.out.2)
           obtain ⟨v6, rfl, hr6, hm6⟩ := hids
           have HR := hide (And.intro hr6 hm6)
           clear hr6 hm6 hr4)
        | fail)
      go_ret
      obtain ⟨hpk, hnp, hfine⟩ := HK.out
      obtain ⟨hr6, hm6⟩ := HR.out
      rw [under_ans hfine hpk (by rw [← hnp]; exact H4.out.1)] at hr6
      exact ⟨_, rfl, hr6, hm6⟩
    · have HK := hide (And.intro hpk (And.intro hfine (hQ.miss hno)))
      clear hpk hperm hfine hQ hno hm1 hrow
      go_wp2_with fail
      go_ret
      obtain ⟨hpk, hfine, -, hmiss⟩ := HK.out
      rw [← under_ans (xs := []) hfine hpk (by rw [hmiss])]
      have e0 : sortI [] = [] := List.perm_nil.1 (sortI_perm [])
      rw [List.map_nil, e0]
      exact NewN.zero _ HM.out
end Go.Proofs.YthkcbennfochmaaGreatDoor
