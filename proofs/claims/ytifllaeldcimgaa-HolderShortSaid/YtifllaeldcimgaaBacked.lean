/-
  WALK: backed: a call of the slice backs the lease.
-/
import Derived.Test.YtifllaeldcimgaaShortLaw
namespace Go.Proofs.Ytifllaeldcimgaa
open Go.RowKit

theorem RdOp.take {w : World} {p : Option Addr} {n c : Nat} {l : List OpL} (h : RdOp w (.slice p n c) l) {k : Nat} (hk : k ≤ l.length) (c' : Nat) : RdOp w (.slice p k c') (l.take k) := by
  have hl : (l.take k).length = k := by simp; omega
  refine ⟨by rw [hl]; exact Nat.le_trans hk h.1, ?_⟩
  rcases h.2 with ⟨p', c0, hv, rfl⟩ | ⟨b, off, cap, hv, hb, hc⟩
  · have : k = 0 := by simpa using hk
    subst this
    exact .inl ⟨p, c', rfl, rfl⟩
  · simp only [Value.slice.injEq] at hv
    obtain ⟨rfl, _, _⟩ := hv
    refine .inr ⟨b, off, c', by rw [hl], hb, fun i hi => ?_⟩
    rw [hl] at hi
    have e : (l.take k).getD i default = l.getD i default := by simp [List.getD, hi]
    rw [e]
    exact hc i (by omega)
theorem shrink_le (t rho : Int) : termOk t rho → 0 ≤ shrinkI t rho ∧ shrinkI t rho ≤ 1048576 := shrinkI_bound
def BackRel (w : World) (rho now : Int) (f i : Int) (l : List OpL) (s : Value) (wr : World) : Prop :=
  ∃ k : Nat, k ≤ l.length ∧ s = .int .i64 (k : Int) ∧ Gr w wr ∧ ∀ j, j < k → ¬ ((l.getD j default).kind < 2 ∨ 6 < (l.getD j default).kind) ∨ (l.getD j default).l.frm ≠ f ∨ (l.getD j default).l.id ≠ i ∨ ¬ (0 ≤ (l.getD j default).sent ∧ (l.getD j default).sent ≤ (l.getD j default).now ∧ (l.getD j default).now ≤ 1152921504606846976) ∨
    ¬ termOk (l.getD j default).l.term rho ∨ (l.getD j default).sent + shrinkI (l.getD j default).l.term rho ≤ now
set_option maxHeartbeats 4000000 in
set_option maxRecDepth 100000 in
theorem backed_any {w : World} {l : List OpL} {p : Option Addr} {c : Nat} (hR : RdOp w (.slice p l.length c) l) (rho f i m t s e now : Int) (pp : ByteArray) (v : Value) (r : Bool) (hb : ∃ o, o ∈ l ∧ Backs rho ⟨f, i, pp, m, [], t, s, e, r⟩ o) (hn : now < e) :
    Calls Try.prog 19 #[.int .i64 rho, .slice p l.length c, .agg #[.int .i64 f, .int .i64 i, .string pp, .int .i64 m, v, .int .i64 t, .int .i64 s, .int .i64 e, .bool r], .int .i64 now] w fun en w' => en = .returned (.bool true) ∧ Gr w w' := by
  have hmx : l.length ≤ 9223372036854775807 := hR.1
  have HB := hide hb
  clear hb
  have gx := (Gr.refl w).alloc (objL f i pp m v t s e r)
  have hx := heap_alloc_new w (objL f i pp m v t s e r)
  have HX := hide (And.intro gx (And.intro hx hn))
  clear gx hx hn
  go_enter Try.func19, Try.ntmps19
  go_wp2_with fail
  go_loopw [15] (fun s15 wr => BackRel (w.alloc (objL f i pp m v t s e r)) rho now f i l s15 wr) (fun s15 _ => l.length - (intOf s15).toNat)
  case atStart => exact ⟨0, by omega, rfl, Gr.refl _, fun j hj => by omega⟩
  case round =>
    obtain ⟨k, hk, rfl, hg, hno⟩ := hrel
    by_cases hlt : k < l.length
    · have hlt' : (k : Int) < (l.length : Int) := by omega
      obtain ⟨b, off, okd, onw, ost, of_, oi, op, om, oa, ot, os, oe, or_, oq, oc, rfl, hbw, hget, c0, c1, c2, c3, c4, c5, c6, c7, c8, c9, c10, c11, hrd, hin⟩ := (hR.same ((HX.out.1.trans hg).mod [])).at_ k hlt
      have CX := blk_cell ((hg.alloc (objO okd onw ost of_ oi op om (.slice oq oa.length oc) ot os oe or_)).mod [] |>.at_ HX.out.2.1 (by simp))
      have next : (¬ (okd < 2 ∨ 6 < okd) ∨ of_ ≠ f ∨ oi ≠ i ∨ ¬ (0 ≤ ost ∧ ost ≤ onw ∧ onw ≤ 1152921504606846976) ∨ ¬ termOk ot rho ∨ ost + shrinkI ot rho ≤ now) → ∀ wr', Gr (w.alloc (objL f i pp m v t s e r)) wr' → BackRel (w.alloc (objL f i pp m v t s e r)) rho now f i l (.int .i64 ((k : Int) + 1)) wr' := fun h wr' hg' => ⟨k + 1, by omega, by go_num, hg', fun j hj => by
        by_cases ej : j = k
        · subst ej; rw [hget]; exact h
        · exact hno j (by omega)⟩
      have NX := hide next
      have HG := hide (hg.alloc (objO okd onw ost of_ oi op om (.slice oq oa.length oc) ot os oe or_))
      clear next hrd hin hg hno hget
      by_cases h1 : okd < 2 ∨ 6 < okd
      · have hks : decide (2 ≤ okd) = false ∨ (decide (2 ≤ okd) = true ∧ decide (okd ≤ 6) = false) := by
          by_cases e : okd < 2
          · left; simp; omega
          · right; simp; omega
        have H0 := hide h1
        clear h1
        rcases hks with hk1 | ⟨hk1, hk2⟩
        all_goals
          by_cases h2 : of_ = f
          · have d2' : (of_ != f) = false := by simp [h2]
            have H2 := hide h2
            clear h2
            by_cases h3 : oi = i
            · have d3 : (oi != i) = false := by simp [h3]
              have H3 := hide h3
              clear h3
              by_cases h4 : 0 ≤ ost
              · have d4 : decide (ost < 0) = false := by simp; omega
                by_cases h5 : ost ≤ onw
                · have d5 : decide (onw < ost) = false := by simp; omega
                  by_cases h6 : onw ≤ 1152921504606846976
                  · have d6 : decide (1152921504606846976 < onw) = false := by simp; omega
                    by_cases h7 : termOk ot rho
                    · have hsb := shrinkI_bound h7
                      have sw : IntKind.i64.wrap (ost + shrinkI ot rho) = ost + shrinkI ot rho := IntWalk.i64_in _ (by omega)
                      have hso := shrink_ok h7 (wr.alloc (objO okd onw ost of_ oi op om (.slice oq oa.length oc) ot os oe or_))
                      have NY := hide (fun h8 : ost + shrinkI ot rho ≤ now => NX.out (.inr (.inr (.inr (.inr (.inr h8))))) _ HG.out)
                      have HGS := hide (HX.out.1.trans HG.out)
                      generalize shrinkI ot rho = sh at hsb sw hso NY
                      by_cases h8 : ost + sh ≤ now
                      · have d8 : decide (now < ost + sh) = false := by simp; omega
                        have hh := NY.out h8
                        have HH := hide hh
                        clear hh h4 h5 h6 h7 h8 hsb
                        go_wp2_with fail
                        refine hso.mono ?_
                        rintro en w5 ⟨rfl, rfl⟩
                        go_wp2_with fail
                        go_roundw
                        case rel => exact HH.out
                        case measure => simp [intOf]; omega
                      · have d8 : decide (now < ost + sh) = true := by simp; omega
                        clear h4 h5 h6 h7 h8 hsb
                        go_wp2_with fail
                        refine hso.mono ?_
                        rintro en w5 ⟨rfl, rfl⟩
                        go_wp2_with fail
                        go_ret
                        exact ⟨rfl, HGS.out⟩
                    · have hso := shrink_bad h7 (wr.alloc (objO okd onw ost of_ oi op om (.slice oq oa.length oc) ot os oe or_))
                      have hh := NX.out (.inr (.inr (.inr (.inr (.inl h7))))) _ HG.out
                      have HH := hide hh
                      clear hh h4 h5 h6 h7
                      go_wp2_with fail
                      refine hso.mono ?_
                      rintro en w5 ⟨rfl, rfl⟩
                      go_wp2_with fail
                      go_roundw
                      case rel => exact HH.out
                      case measure => simp [intOf]; omega
                  · have d6 : decide (1152921504606846976 < onw) = true := by simp; omega
                    have hh := NX.out (.inr (.inr (.inr (.inl (fun q => h6 q.2.2))))) _ HG.out
                    have HH := hide hh
                    clear h4 h5 h6 hh
                    go_wp2_with fail
                    go_roundw
                    case rel => exact HH.out
                    case measure => simp [intOf]; omega
                · have d5 : decide (onw < ost) = true := by simp; omega
                  have hh := NX.out (.inr (.inr (.inr (.inl (fun q => h5 q.2.1))))) _ HG.out
                  have HH := hide hh
                  clear h4 h5 hh
                  go_wp2_with fail
                  go_roundw
                  case rel => exact HH.out
                  case measure => simp [intOf]; omega
              · have d4 : decide (ost < 0) = true := by simp; omega
                have hh := NX.out (.inr (.inr (.inr (.inl (fun q => h4 q.1))))) _ HG.out
                have HH := hide hh
                clear h4 hh
                go_wp2_with fail
                go_roundw
                case rel => exact HH.out
                case measure => simp [intOf]; omega
            · have d3 : (oi != i) = true := by simpa using h3
              have hh := NX.out (.inr (.inr (.inl h3))) _ HG.out
              have HH := hide hh
              clear h3 hh
              go_wp2_with fail
              go_roundw
              case rel => exact HH.out
              case measure => simp [intOf]; omega
          · have d2' : (of_ != f) = true := by simpa using h2
            have hh := NX.out (.inr (.inl h2)) _ HG.out
            have HH := hide hh
            clear h2 hh
            go_wp2_with fail
            go_roundw
            case rel => exact HH.out
            case measure => simp [intOf]; omega
      · have d1 : decide (2 ≤ okd) = true := by simp; omega
        have d2 : decide (okd ≤ 6) = true := by simp; omega
        have hh := NX.out (.inl h1) _ HG.out
        have HH := hide hh
        clear h1 hh
        go_wp2_with fail
        go_roundw
        case rel => exact HH.out
        case measure => simp [intOf]; omega
    · exfalso
      obtain ⟨o, ho, b1, b2, b3, b4, b5, b6, b7, b8⟩ := HB.out
      obtain ⟨j, hj, rfl⟩ := List.mem_iff_getElem.1 ho
      have eg : l.getD j default = l[j] := by simp [hj]
      have := hno j (by omega)
      rw [eg] at this
      simp only at b2 b3 b8
      have hn := HX.out.2.2
      rcases this with h | h | h | h | h | h
      · exact h b1
      · exact h b2
      · exact h b3
      · exact h ⟨b4, b5, b6⟩
      · exact h b7
      · omega
end Go.Proofs.Ytifllaeldcimgaa
