/-
  WALK: layer 5: along.
-/
import Derived.Test.YthkcbennfochmaaGreatDoorPsBelow
namespace Go.Proofs.YthkcbennfochmaaGreatDoor
open Go.RowKit Go.Maps

/-- the entries at the places on the way to a path, but not at its end -/
def onWay (l : List Ent) (s : List Seg) (k : Nat) : List Ent := (List.range k).flatMap fun i => entsOf l (s.take i)
theorem onWay_succ (l : List Ent) (s : List Seg) (k : Nat) : onWay l s (k + 1) = onWay l s k ++ entsOf l (s.take k) := by
  unfold onWay
  rw [List.range_succ, List.flatMap_append]
  simp
theorem onWay_le (l : List Ent) (s : List Seg) {k : Nat} (hk : k ≤ s.length + 1) : (onWay l s k).length ≤ l.length := by
  have h1 := (over_perm l s).length_eq
  have h2 : (onWay l s k).length ≤ (onWay l s (s.length + 1)).length := by
    obtain ⟨d, hd⟩ : ∃ d, s.length + 1 = k + d := ⟨s.length + 1 - k, by omega⟩
    unfold onWay
    rw [hd, List.range_add, List.flatMap_append, List.length_append]
    omega
  have h3 : (l.filter fun e => decide (e.sg <+: s)).length ≤ l.length := List.length_filter_le _ _
  have h4 : (onWay l s (s.length + 1)).length = (l.filter fun e => decide (e.sg <+: s)).length := h1.symm
  omega
/-- what along answers -/
def AlTo (w : World) (N : List Nd) (l : List Ent) (p : List UInt8) (e : Ending) (w' : World) : Prop :=
  ∃ (v : Value) (xs : List Ent) (bp : Option Addr), e = .returned (.tuple #[v, .pointer bp]) ∧ RowE w' w.heap.size v xs ∧ Mod [] w w' ∧
    ((pathOk p = false ∧ xs = [] ∧ bp = none) ∨ (pathOk p = true ∧ xs.Perm (onWay l (segsOf p) (segsOf p).length) ∧ ((∃ n, n ∈ N ∧ n.pre = segsOf p ∧ bp = some ⟨n.b, 0, none⟩) ∨ ((∀ n, n ∈ N → n.pre ≠ segsOf p) ∧ bp = none))))
def AlRel (w2 : World) (N : List Nd) (l : List Ent) (D : List ByteArray) (g : Nat) (bv u i : Value) (wr : World) : Prop :=
  ∃ (k : Nat) (n : Nd) (xs : List Ent), k + g = D.length ∧ i = .int .i64 k ∧ bv = .pointer (some ⟨n.b, 0, none⟩) ∧ n ∈ N ∧ n.pre = (D.map fun d => d.data.toList).take k ∧ RowE wr w2.heap.size u xs ∧ xs.Perm (onWay l (D.map fun d => d.data.toList) k) ∧ Mod [] w2 wr
set_option maxHeartbeats 2000000 in
set_option maxRecDepth 100000 in
theorem salong_any {w : World} {sb wb : Nat} {N : List Nd} {l : List Ent} (h : SetM w sb wb N l) (p : ByteArray) (hp : p.size ≤ 9223372036854775807) :
    Calls Tryz.prog 31 #[.pointer (some ⟨sb, 0, none⟩), .string p] w fun en w' => AlTo w N l p.data.toList en w' := by
  obtain ⟨i0, hi, hz0, hz1, hz2⟩ := info_parts info_ent
  have HI := hide (And.intro hi (And.intro hz0 (And.intro hz1 hz2)))
  have HX := hide h
  clear h hi hz0 hz1 hz2
  go_enter Tryz.func31, Tryz.ntmps31
  go_wp2_with fail
  refine (psplit_gen p hp _).mono ?_
  rintro en w2 ⟨q, D, er, rfl, g2, hs2⟩
  rcases hs2 with ⟨rfl, h1, rfl⟩ | ⟨rfl, hpk, hD, hDl, hDz, hDc⟩
  · clear HX HI
    go_wp2_with fail
    go_ret2
    exact ⟨_, [], none, rfl, RowE.nil _ _, g2.mod [], .inl ⟨h1, rfl, rfl⟩⟩
  · have h2 := HX.out.same (g2.mod [])
    obtain ⟨r, hr, hr0, hsb⟩ := h2.blk
    have CS := blk_cell hsb
    have HD := hide (And.intro hpk (And.intro hD (And.intro hDl (And.intro hDz hDc))))
    have HX2 := hide (And.intro h2 (And.intro hr (And.intro hr0 g2)))
    clear hpk hD hDz hDc h2 hr hr0 hsb g2
    go_wp2_with fail
    go_loopg [8, 9, 29] D.length (fun g bv u i wr => AlRel w2 N l D g bv u i wr)
    case atStart =>
      obtain ⟨h2, hr, hr0, g2⟩ := HX2.out
      exact ⟨0, r, [], Nat.zero_add _, rfl, rfl, hr, by rw [hr0]; rfl, RowE.nil _ _, by simp [onWay], Mod.refl _ _⟩
    case round =>
      clear CS
      obtain ⟨k, n, xs, hk, rfl, rfl, hn, hnp, hrow, hpm, hmr⟩ := hrel
      by_cases hlt : k < D.length
      · obtain ⟨gg, rfl⟩ : ∃ g, gk = g + 1 := ⟨gk - 1, by omega⟩
        obtain ⟨hpk, hD, hDl2, hDz, hDc⟩ := HD.out
        obtain ⟨h2, hr, hr0, g2⟩ := HX2.out
        obtain ⟨qb, rfl, hqw, hcell⟩ := hDc k hlt
        have hz := hDz k hlt
        have hcw := hmr.kept hcell (by simp)
        have htk := take_snoc (fun d : ByteArray => d.data.toList) D hlt ByteArray.empty
        generalize D.getD k ByteArray.empty = d at hz htk hcw
        rw [← hnp] at htk
        replace htk : (D.map fun d => d.data.toList).take (k + 1) = n.pre ++ [d.data.toList] := htk
        have hr2 := h2.same hmr
        have hnd := hr2.nd n hn
        have CB := blk_cell hnd.blk
        have hcol := coll_gen (ents_ids hr2.ids n.pre) (Nat.le_trans (ents_le l n.pre) hr2.small) hnd.em
        have i0' : (0 : Int) ≤ (k : Int) := by omega
        have i1 : (k : Int) < (D.length : Int) := by omega
        have hSl : (D.map fun d => d.data.toList).length = D.length := by simp
        have hle := onWay_le l (D.map fun d => d.data.toList) (k := k + 1) (by rw [hSl]; omega)
        rw [onWay_succ, List.length_append] at hle
        have hlen : xs.length + (entsOf l n.pre).length ≤ 64 := by
          rw [hpm.length_eq, hnp]
          exact Nat.le_trans hle hr2.small
        have hex : (∃ z, z ∈ N ∧ z.pre = n.pre ++ [d.data.toList]) ∨ ∀ z, z ∈ N → z.pre ≠ n.pre ++ [d.data.toList] := by
          by_cases hz : ∃ z, z ∈ N ∧ z.pre = n.pre ++ [d.data.toList]
          · exact .inl hz
          · exact .inr fun z h1 h2 => hz ⟨z, h1, h2⟩
        obtain ⟨bp, hbp, hlk⟩ : ∃ bp, ((∃ z, z ∈ N ∧ z.pre = n.pre ++ [d.data.toList] ∧ bp = some ⟨z.b, 0, none⟩) ∨ ((∀ z, z ∈ N → z.pre ≠ n.pre ++ [d.data.toList]) ∧ bp = none)) ∧ ∀ W : World, MapL sK W n.cm ((kidsOf N n.pre).map kidV) → (Instr.lookup 69 (.map (some n.cm)) (.string d) false).run Tryz.prog W = .ok (.pointer bp) W := by
          rcases hex with ⟨z, hz1, hz2⟩ | hno
          · refine ⟨_, .inl ⟨z, hz1, hz2, rfl⟩, fun W hM => ?_⟩
            have h1 := hM.look (t := 69) Tryz.underlying69 (zero_br W) false hz
            have h2 := kid_some hM hz1 hz2
            rw [segOf_bytes] at h2
            rw [h2] at h1
            exact h1
          · refine ⟨_, .inr ⟨hno, rfl⟩, fun W hM => ?_⟩
            have h1 := hM.look (t := 69) Tryz.underlying69 (zero_br W) false hz
            have h2 := kid_none (N := N) (p := n.pre) hno
            rw [segOf_bytes] at h2
            rw [h2] at h1
            exact h1
        have HLK := hide hlk
        have HC := hide hcol
        have HK := hide (And.intro hn (And.intro hnp (And.intro hpm (And.intro htk (And.intro hlen (And.intro hrow hr2))))))
        have hsz1 : w2.heap.size ≤ wr.heap.size := hmr.size
        clear hpk hD hDl2 hDz hDc h2 hr hr0 g2 hcell hqw htk hr2 hnd hcol hSl hle hlen hpm hn hnp hrow hex hlk
        rcases hbp with ⟨z, hz1, hz2, rfl⟩ | ⟨hno, rfl⟩
        all_goals
          go_wp2_with (first
            | (go_at_call 35
               refine (values_any _ _).mono ?_
               rintro e w' ⟨rfl, rfl⟩)
            | (go_at_call 34
               refine HC.out.mono ?_
               rintro e w4 ⟨v4, ys, rfl, hp4, hr4, hm4⟩
               obtain ⟨hn, hnp, hpm, htk, hlen, hrow, hr2⟩ := HK.out
               obtain ⟨hi, hz0, hz1, hz2⟩ := HI.out
               have hrow4 := hrow.mod hm4 (by simp)
               have hlen4 : xs.length + ys.length ≤ 64 := by rw [hp4.length_eq]; exact hlen
               have q6 : xs.length + ys.length ≤ maxLen := by unfold maxLen; omega
               have q7 : (xs.length + ys.length) * 40 ≤ 140737488355328 := by omega
               have q8 : w2.heap.size ≤ w4.heap.size := Nat.le_trans hsz1 hm4.size
               have H4 := hide (And.intro hp4 hm4)
               clear hp4 hm4 hn hnp hpm htk hlen hrow hr2 HC CB hcw)
            | (at_builtin
               refine wpList_append_row _ rfl _ _ 26 rfl 29 i0 _ 4 40 Tryz.underlying26 hi hz0 hz1 hz2 rfl (by decide) rfl hrow4 rfl hr4 (encEs_one ys) q6 q7 q8 ?_
               intro u5 w5 hown5 hgr5
               have hu5 : RowE w5 w2.heap.size u5 (xs ++ ys) := by
                 unfold RowE
                 rw [List.length_append, List.flatMap_append]
                 exact hown5
               obtain ⟨hp4, hm4⟩ := H4.out
               obtain ⟨hn, hnp, hpm, htk, hlen, hrow, hr2⟩ := HK.out
               obtain ⟨h2, -, -, g2⟩ := HX2.out
               have hown4 := fun k (hk : u9.ownBlock = some k) => hrow4.own hk
               have hm5 : Mod (obl u9) w4 w5 := (Mod.refl (obl u9) w4).grown hgr5 (fun k e _ => mem_obl.2 e)
               have hsN : ∀ k, k ∈ sb :: wb :: blksN N → k ∉ obl u9 := fun k hk e => (by
                 have h1 := hown4 k (mem_obl.1 e)
                 have h3 := h2.lt k hk
                 omega)
               have hs5 := (hr2.same hm4).mod hm5 hsN
               have hnd5 := hs5.nd n hn
               have CB5 := blk_cell hnd5.blk
               have hcm5 := hnd5.cm
               have hlk5 := HLK.out w5 hcm5
               have hmw5 : Mod [] w2 w5 := (hmr.then hm4).trans hm5 (by simp) (fun k hk hlt2 => (by
                 have h1 := hown4 k (mem_obl.1 hk)
                 omega))
               have HM5 := hide hmw5
               have H5 := hide (And.intro hu5 (And.intro hp4 hm5))
               clear hu5 hp4 hm4 hn hnp hpm htk hlen hrow hr2 h2 g2 hown4 hm5 hsN hs5 hnd5 hcm5 hown5 hgr5 hrow4 hr4 hi hz0 hz1 hz2)
            | fail)
        · go_roundg gg
          case measure => omega
          case rel =>
            obtain ⟨hu5, hp4, hm5⟩ := H5.out
            obtain ⟨hn, hnp, hpm, htk, hlen, hrow, hr2⟩ := HK.out
            refine ⟨k + 1, z, xs ++ ys, by omega, rfl, rfl, hz1, by rw [htk, hz2], hu5, ?_, ?_⟩
            · rw [onWay_succ, ← hnp]
              exact hpm.append hp4
            · exact HM5.out
        · go_ret2
          obtain ⟨hu5, hp4, hm5⟩ := H5.out
          obtain ⟨hn, hnp, hpm, htk, hlen, hrow, hr2⟩ := HK.out
          obtain ⟨hpk, hD, hDl2, hDz, hDc⟩ := HD.out
          obtain ⟨h2, hr, hr0, g2⟩ := HX2.out
          have hSl : (segsOf p.data.toList).length = D.length := by rw [← hD]; simp
          rw [← htk, hD] at hno
          have hon : xs ++ ys |>.Perm (onWay l (segsOf p.data.toList) (k + 1)) := by
            rw [onWay_succ, ← hD, ← hnp]
            exact hpm.append hp4
          have hmiss : onWay l (segsOf p.data.toList) (segsOf p.data.toList).length = onWay l (segsOf p.data.toList) (k + 1) := by
            unfold onWay
            exact flat_miss h2.tr (by omega) (by omega) hno
          refine ⟨_, xs ++ ys, none, rfl, hu5.mono g2.size, (g2.mod []).then HM5.out, .inr ⟨hpk, by rw [hmiss]; exact hon, .inr ⟨fun m hm hms => ?_, rfl⟩⟩⟩
          obtain ⟨m2, hm2, hp2⟩ := h2.tr.up _ m hm rfl ((segsOf p.data.toList).take (k + 1)) (by rw [hms]; exact List.take_prefix _ _)
          exact hno m2 hm2 hp2
      · clear HI
        go_wp2_with fail
        go_ret2
        obtain ⟨hpk, hD, hDl2, hDz, hDc⟩ := HD.out
        obtain ⟨h2, hr, hr0, g2⟩ := HX2.out
        have hkk : k = D.length := by omega
        rw [hkk, hD] at hpm
        rw [hkk, hD] at hnp
        have hSl : (segsOf p.data.toList).length = D.length := by rw [← hD]; simp
        refine ⟨_, xs, _, rfl, hrow.mono g2.size, (g2.mod []).then hmr, .inr ⟨hpk, by rw [hSl]; exact hpm, .inl ⟨n, hn, ?_, rfl⟩⟩⟩
        rw [hnp]
        exact List.take_of_length_le (by omega)
end Go.Proofs.YthkcbennfochmaaGreatDoor
