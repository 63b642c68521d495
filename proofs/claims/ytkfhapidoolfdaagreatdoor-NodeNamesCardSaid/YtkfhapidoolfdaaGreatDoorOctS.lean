/-
  WALKS: layer 2: Sum, Four, OfFour.
-/
import Derived.Test.YtkfhapidoolfdaaGreatDoorBytes
import Derived.BigQuiet
import Derived.IntWalk
import Derived.Laws.BitsAllLaws
namespace Go.Proofs.YtkfhapidoolfdaaGreatDoor
open Go.RowKit

theorem poly (x : Nat) : bits .and .u32 3988292384 ((if x % 2 = 1 then 4294967295 else 0 : Nat) : Int) = ((if x % 2 = 1 then 3988292384 else 0 : Nat) : Int) := by
  split <;> decide
theorem crcBit_eq (x : Nat) : crcBit x = (x / 2) ^^^ (if x % 2 = 1 then 3988292384 else 0) := by
  unfold crcBit
  split
  · rfl
  · rw [Nat.xor_zero]
theorem xor_ones (y : Nat) (h : y < 4294967296) : 4294967295 ^^^ y = 4294967295 - y := by
  have h1 : (BitVec.ofNat 32 y ^^^ BitVec.allOnes 32).toNat = (~~~(BitVec.ofNat 32 y)).toNat := by rw [BitVec.xor_allOnes]
  rw [BitVec.toNat_xor, BitVec.toNat_not, BitVec.toNat_allOnes, BitVec.toNat_ofNat, Nat.mod_eq_of_lt h] at h1
  rw [Nat.xor_comm]
  exact h1
theorem max_xor (y : Nat) (h : y < 4294967296) : bits .xor .u32 IntKind.u32.max (y : Int) = ((4294967295 - y : Nat) : Int) := by
  have h1 : IntKind.u32.max = ((4294967295 : Nat) : Int) := by decide
  rw [h1, u32_xor_nat _ _ (by decide) h, xor_ones y h]
theorem step_eq (m : Nat) (h : m < 4294967296) : bits .xor .u32 ((m : Int) / 2) (bits .and .u32 3988292384 (-((m : Int) % 2) % 4294967296)) = (crcBit m : Int) := by
  have e1 : -((m : Int) % 2) % 4294967296 = ((if m % 2 = 1 then 4294967295 else 0 : Nat) : Int) := by split <;> omega
  rw [e1, poly, show (m : Int) / 2 = ((m / 2 : Nat) : Int) by omega, u32_xor_nat _ _ (by omega) (by split <;> decide), ← crcBit_eq]
def SumRel (b : B8) (x i : Value) : Prop := ∃ k y : Nat, k ≤ b.length ∧ i = .int .i64 (k : Int) ∧ x = .int .u32 (y : Int) ∧ y < 4294967296 ∧ Hid ((b.drop k).foldl crcByte y = b.foldl crcByte 4294967295)
def SumIn (y : Nat) (x i : Value) : Prop := ∃ k z : Nat, k ≤ 8 ∧ i = .int .i64 (k : Int) ∧ x = .int .u32 (z : Int) ∧ z < 4294967296 ∧ Hid (crcBits (8 - k) z = crcBits 8 y)
set_option maxHeartbeats 4000000 in
set_option maxRecDepth 100000 in
theorem sum_any {w : World} {u : Value} {b : B8} (hu : RdY w u b) :
    Calls Tryz.prog 278 #[u] w fun e w' => e = .returned (.int .u32 (sumB b : Int)) ∧ w = w' := by
  have h1 : b.length ≤ 9223372036854775807 := hu.1
  obtain ⟨p, c, rfl⟩ := hu.len
  go_enter Tryz.func278, Tryz.ntmps278
  go_wp2_with fail
  go_loop [3, 8] (fun x i => SumRel b x i) (fun _ i => b.length - (intOf i).toNat)
  case atStart => exact ⟨0, _, Nat.zero_le _, rfl, rfl, by decide, hide rfl⟩
  case round =>
    obtain ⟨k, y, hk, rfl, rfl, hy, hc⟩ := hrel
    by_cases hlt : k < b.length
    · obtain ⟨b1, o1, rfl, hb1, c1⟩ := hu.at_ k hlt
      have hdr : b.drop k = b.getD k 0 :: b.drop (k + 1) := by
        rw [List.drop_eq_getElem_cons hlt]; simp [hlt]
      rw [hdr] at hc
      generalize b.getD k 0 = z at c1 hc
      unfold y8 at c1
      have hz := byte_lt z
      have hxor := u32_xor_nat y z.toNat hy (by omega)
      have hy2 : y ^^^ z.toNat < 4294967296 := xor_lt hy (by omega)
      have hcr : crcByte y z = crcBits 8 (y ^^^ z.toNat) := rfl
      generalize y ^^^ z.toNat = q at hxor hy2 hcr
      have hfold : (b.drop (k + 1)).foldl crcByte (crcBits 8 q) = b.foldl crcByte 4294967295 := by rw [← hcr]; exact hc.out
      have HC := hide hfold
      clear hdr hu hc hcr hfold
      go_wp2_with fail
      go_loop [3, 16] (fun x i => SumIn q x i) (fun _ i => 8 - (intOf i).toNat)
      case atStart => exact ⟨0, q, by omega, rfl, rfl, hy2, hide rfl⟩
      case round =>
        obtain ⟨j, m, hj, rfl, rfl, hm, hb⟩ := hrel
        by_cases hj8 : j < 8
        · have hst := step_eq m hm
          have hmk : bits .and .u32 (m : Int) 1 = ((m % 2 : Nat) : Int) := by
            have := u32_and_nat m 1 hm (by decide)
            rw [nat_mask1] at this
            exact this
          have hm2 := crcBit_lt hm
          have hbb : crcBits (8 - (j + 1)) (crcBit m) = crcBits 8 q := by
            have := hb.out
            rw [show 8 - j = (8 - (j + 1)) + 1 by omega] at this
            exact this
          have HB := hide hbb
          generalize crcBit m = m2 at hst hm2 HB
          clear hbb hb
          go_wp2_with fail
          go_round
          case rel => exact ⟨j + 1, m2, by omega, by go_num, rfl, hm2, HB⟩
          case measure => simp [intOf]; omega
        · have hj : j = 8 := by omega
          have hb' := hb.out
          rw [hj] at hb'
          have HB := hide hb'
          clear hb' hb hj
          go_wp2_with fail
          go_round
          case rel => exact ⟨k + 1, m, by omega, by go_num, rfl, hm, hide (by have h1 := HB.out; have h2 := HC.out; rw [← h1] at h2; exact h2)⟩
          case measure => simp [intOf]; omega
    · have hk : k = b.length := by omega
      have hf := hc.out
      rw [List.drop_of_length_le (by omega)] at hf
      have hs : sumB b = 4294967295 - y := by unfold sumB; rw [← hf]; rfl
      have HS := hide hs
      have hmx := max_xor y hy
      have hsg : IntKind.u32.signed = false := rfl
      clear hs hf hc hu
      go_wp2_with fail
      go_ret
      rw [HS.out]
      exact ⟨rfl, rfl⟩

theorem y8_of (n : Nat) (h : n < 256) : y8 (UInt8.ofNat n) = .int .u8 (n : Int) := by
  unfold y8
  rw [ofNat_toNat h]
set_option maxRecDepth 100000 in
theorem four_any (w : World) (x : Nat) (hx : x < 4294967296) :
    Calls Tryz.prog 282 #[.int .u32 (x : Int)] w fun e w' => ∃ g, e = .returned (.slice (some ⟨g, 0, none⟩) 4 4) ∧ RowY w' w.heap.size (.slice (some ⟨g, 0, none⟩) 4 4) (fourB x) ∧ Mod [] w w' := by
  go_enter Tryz.func282, Tryz.ntmps282
  go_wp2_with fail
  go_ret
  refine ⟨w.heap.size, rfl, RowY.of_block (m := fourB x) (heap_alloc_new w _) (Nat.le_refl _) (Nat.le_refl 4) (by decide) rfl ?_, (Mod.refl [] w).alloc _⟩
  unfold fourB
  simp only [List.map_cons, List.map_nil, y8_of _ (Nat.mod_lt _ (by decide))]
  rw [show ((x / 16777216 % 256 : Nat) : Int) = (x : Int) / 16777216 by omega]
  rfl
theorem or_four (a b c d : UInt8) : (a.toNat ||| 256 * b.toNat ||| 65536 * c.toNat ||| 16777216 * d.toNat) = a.toNat + 256 * b.toNat + 65536 * c.toNat + 16777216 * d.toNat := by
  have h1 := byte_lt a
  have h2 := byte_lt b
  have h3 := byte_lt c
  have h4 := byte_lt d
  have e1 := nat_join 8 (256 * b.toNat) a.toNat (by omega) (by omega)
  have e2 := nat_join 16 (65536 * c.toNat) (256 * b.toNat + a.toNat) (by omega) (by omega)
  have e3 := nat_join 24 (16777216 * d.toNat) (65536 * c.toNat + (256 * b.toNat + a.toNat)) (by omega) (by omega)
  rw [Nat.or_comm a.toNat, e1, Nat.or_comm _ (65536 * c.toNat), e2, Nat.or_comm _ (16777216 * d.toNat), e3]
  omega
theorem or_fourI (a b c d : UInt8) : bits .or .u32 (bits .or .u32 (bits .or .u32 ((a.toNat : Int) % 4294967296) ((b.toNat : Int) % 4294967296 * 256 % 4294967296)) ((c.toNat : Int) % 4294967296 * 65536 % 4294967296)) ((d.toNat : Int) % 4294967296 * 16777216 % 4294967296) = ((a.toNat + 256 * b.toNat + 65536 * c.toNat + 16777216 * d.toNat : Nat) : Int) := by
  have h1 := byte_lt a
  have h2 := byte_lt b
  have h3 := byte_lt c
  have h4 := byte_lt d
  rw [show (a.toNat : Int) % 4294967296 = ((a.toNat : Nat) : Int) by omega, show (b.toNat : Int) % 4294967296 * 256 % 4294967296 = ((256 * b.toNat : Nat) : Int) by omega,
    show (c.toNat : Int) % 4294967296 * 65536 % 4294967296 = ((65536 * c.toNat : Nat) : Int) by omega, show (d.toNat : Int) % 4294967296 * 16777216 % 4294967296 = ((16777216 * d.toNat : Nat) : Int) by omega]
  have hx : a.toNat ||| 256 * b.toNat < 4294967296 := Nat.or_lt_two_pow (n := 32) (by omega) (by omega)
  have hy : a.toNat ||| 256 * b.toNat ||| 65536 * c.toNat < 4294967296 := Nat.or_lt_two_pow (n := 32) hx (by omega)
  rw [u32_or_nat _ _ (by omega) (by omega), u32_or_nat _ _ hx (by omega), u32_or_nat _ _ hy (by omega), or_four]
set_option maxHeartbeats 1000000 in
set_option maxRecDepth 100000 in
theorem ofFour_any {w : World} {u : Value} {b : B8} (hu : RdY w u b) (h4 : 4 ≤ b.length) :
    Calls Tryz.prog 350 #[u] w fun e w' => e = .returned (.tuple #[.int .u32 (ofFour b : Int), .bool true]) ∧ ∃ n, w' = w.drewN n := by
  have h1 : b.length ≤ 9223372036854775807 := hu.1
  obtain ⟨p, c, rfl⟩ := hu.len
  obtain ⟨b1, o1, rfl, hb1, c0⟩ := hu.at_ 0 (by omega)
  obtain ⟨b1, o1, hq, hb1, c1⟩ := hu.at_ 1 (by omega)
  simp only [Option.some.injEq, Addr.mk.injEq, and_true] at hq
  obtain ⟨rfl, rfl⟩ := hq
  obtain ⟨b1, o1, hq, hb1, c2⟩ := hu.at_ 2 (by omega)
  simp only [Option.some.injEq, Addr.mk.injEq, and_true] at hq
  obtain ⟨rfl, rfl⟩ := hq
  obtain ⟨b1, o1, hq, hb1, c3⟩ := hu.at_ 3 (by omega)
  simp only [Option.some.injEq, Addr.mk.injEq, and_true] at hq
  obtain ⟨rfl, rfl⟩ := hq
  unfold ofFour
  generalize b.getD 0 0 = y0 at *
  generalize b.getD 1 0 = y1 at *
  generalize b.getD 2 0 = y2 at *
  generalize b.getD 3 0 = y3 at *
  unfold y8 at c0 c1 c2 c3
  rw [Nat.add_zero] at c0
  have i1 : (1 : Int) < (b.length : Int) := by omega
  have i2 : (2 : Int) < (b.length : Int) := by omega
  have i3 : (3 : Int) < (b.length : Int) := by omega
  have i0 : (0 : Int) < (b.length : Int) := by omega
  have i4 : ¬ (b.length : Int) < 4 := by omega
  have n0 : 0 < b.length := by omega
  have n1 : 1 < b.length := by omega
  have n2 : 2 < b.length := by omega
  have n3 : 3 < b.length := by omega
  clear hu
  go_enter Tryz.func350, Tryz.ntmps350
  go_wp2_with fail
  go_quiet (fail)
  go_wp2_with fail
  go_ret2
  show Ending.returned (.tuple #[.int .u32 _, .bool true]) = _ ∧ _
  rw [or_fourI]
  exact ⟨rfl, _, rfl⟩
theorem number_any {w : World} {u : Value} {b : B8} (hu : RdY w u b) (h4 : 4 ≤ b.length) :
    Calls Tryz.prog 277 #[u] w fun e w' => e = .returned (.int .i64 (ofFour b : Int)) ∧ ∃ n, w' = w.drewN n := by
  have h := ofFour_any hu h4
  have hb := ofFour_lt b
  generalize ofFour b = n at h hb
  go_enter Tryz.func277, Tryz.ntmps277
  go_wp2_with fail
  refine h.mono ?_
  rintro e w' ⟨rfl, n, rfl⟩
  go_wp2_with fail
  go_ret
  exact ⟨rfl, _, rfl⟩
end Go.Proofs.YtkfhapidoolfdaaGreatDoor
