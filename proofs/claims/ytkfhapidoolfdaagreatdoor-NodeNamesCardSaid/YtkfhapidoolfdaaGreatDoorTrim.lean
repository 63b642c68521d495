/-
  WALKS: bytes.Trim at one zero byte: what is left has no byte just if all are zero.
-/
import Derived.Test.YtkfhapidoolfdaaGreatDoorBytes
import Derived.Test.YtkfhapidoolfdaaGreatDoorShelfTrim
import Derived.Test.YtkfhapidoolfdaaGreatDoorSec
namespace Go.Proofs.YtkfhapidoolfdaaGreatDoor
open Go.RowKit Go.Shelf

theorem dropW_nil {p : UInt8 → Bool} : ∀ {l : B8}, l.dropWhile p = [] ↔ ∀ x, x ∈ l → p x = true
  | [] => by simp
  | c :: r => by
    rw [List.dropWhile_cons]
    by_cases h : p c = true
    · rw [if_pos h, dropW_nil (l := r)]; simp [h]
    · rw [if_neg h]; simp [h]
theorem dropW_head {p : UInt8 → Bool} : ∀ {l : B8}, l.dropWhile p ≠ [] → ∃ x, x ∈ l.dropWhile p ∧ p x = false
  | [], h => absurd rfl h
  | c :: r, h => by
    rw [List.dropWhile_cons] at h ⊢
    by_cases hc : p c = true
    · rw [if_pos hc] at h ⊢; exact dropW_head h
    · rw [if_neg hc]; exact ⟨c, List.mem_cons_self, by simpa using hc⟩
theorem trim_nil (l : B8) : Lib.trimS l [0] = [] ↔ zeroB l = true := by
  unfold Lib.trimS Lib.trimLeftS Lib.trimRightS
  rw [dropW_nil, zeroB, List.all_eq_true]
  constructor
  · intro h
    have h2 : l.reverse.dropWhile (fun x => [(0 : UInt8)].contains x) = [] := by
      refine Classical.byContradiction fun hne => ?_
      obtain ⟨x, hx, hp⟩ := dropW_head hne
      have := h x (List.mem_reverse.2 hx)
      rw [this] at hp; cases hp
    rw [dropW_nil] at h2
    intro x hx
    have := h2 x (by simpa using hx)
    simpa using this
  · intro h x hx
    have h2 : x ∈ l := by
      have := (List.dropWhile_sublist (fun x => [(0 : UInt8)].contains x) (l := l.reverse)).subset (List.mem_reverse.1 hx)
      simpa using this
    simpa using h x h2
theorem trim_any {w : World} {b off n c : Nat} {l : B8} (h : RdY w (.slice (some ⟨b, off, none⟩) n c) l) (hl : l.length = n) (h0 : 0 < n) (hc : c ≤ 9223372036854775807) :
    Calls Tryz.prog 279 #[.slice (some ⟨b, off, none⟩) n c, .string ⟨#[0]⟩] w fun e w' => (∃ p k c', e = .returned (.slice p k c') ∧ (k = 0 ↔ zeroB l = true)) ∧ ∃ q, w' = w.drewN q := by
  have hcap : n ≤ c := by subst hl; exact h.cap
  have hat : Lib.BytesAt w (some ⟨b, off, none⟩) n l := fun _ => ⟨b, off, rfl, fun i hi => by
    obtain ⟨b', o', hq, _, hcell⟩ := h.at_ i (by omega)
    simp only [Option.some.injEq, Addr.mk.injEq, and_true] at hq
    obtain ⟨rfl, rfl⟩ := hq
    exact hcell⟩
  refine (Any.bytes_Trim_one Tryz.lays104 _ n c l 0 w hl hcap hc hat h0 (by decide)).mono ?_
  rintro e w' ⟨rfl, hw⟩
  refine ⟨?_, hw⟩
  have hle : (Lib.trimS l [0]).length ≤ (Lib.trimRightS l [0]).length := by
    unfold Lib.trimS Lib.trimLeftS
    exact (List.dropWhile_sublist _).length_le
  have hz := trim_nil l
  rw [← List.length_eq_zero_iff] at hz
  unfold Lib.leftV
  by_cases hk : (Lib.trimRightS l [0]).length - (Lib.trimS l [0]).length = (Lib.trimRightS l [0]).length
  · rw [if_pos hk]
    refine ⟨none, 0, 0, rfl, ⟨fun _ => hz.1 ?_, fun _ => rfl⟩⟩
    omega
  · rw [if_neg hk]
    refine ⟨_, _, _, rfl, ?_⟩
    rw [← hz]
    omega
end Go.Proofs.YtkfhapidoolfdaaGreatDoor
