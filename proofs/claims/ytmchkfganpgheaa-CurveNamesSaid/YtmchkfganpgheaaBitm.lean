/-
  What masks, shifts and sums of bits are, in whole numbers.
-/
import Derived.Test.YtmchkfganpgheaaBits
import Derived.Test.YtmchkfganpgheaaNum
import Derived.Laws.BitsAllLaws
import Derived.Laws.Bits128
namespace Go.Proofs.Ytmchkfganpgheaa
set_option linter.unusedSimpArgs false
set_option linter.unusedVariables false
open Go Go.RowKit

theorem mask51 {x : Int} (h : W64 x) : bits .and .u64 x 2251799813685247 = x % 2251799813685248 := by
  obtain ⟨h0, h1⟩ := h
  unfold M64 at h1
  obtain ⟨n, rfl⟩ := Int.eq_ofNat_of_zero_le h0
  have := u64_and_nat n 2251799813685247 (by omega) (by omega)
  rw [nat_mask51] at this
  exact this
theorem u64_bit {x : Int} (h : W64 x) : bits .and .u64 x 1 = x % 2 := by
  obtain ⟨h0, h1⟩ := h
  unfold M64 at h1
  obtain ⟨n, rfl⟩ := Int.eq_ofNat_of_zero_le h0
  have := u64_and_nat n 1 (by omega) (by omega)
  rw [nat_mask1] at this
  exact this
theorem u8_bit {x : Int} (h0 : 0 ≤ x) (h1 : x < 256) : bits .and .u8 x 1 = x % 2 := by
  obtain ⟨n, rfl⟩ := Int.eq_ofNat_of_zero_le h0
  have := u8_and_nat n 1 (by omega) (by omega)
  rw [nat_mask1] at this
  exact this
theorem u32_low {x : Int} (h0 : 0 ≤ x) (h1 : x < 4294967296) : bits .and .u32 x 65535 = x % 65536 := by
  obtain ⟨n, rfl⟩ := Int.eq_ofNat_of_zero_le h0
  have := u32_and_nat n 65535 (by omega) (by omega)
  rw [nat_mask16] at this
  exact this
theorem i64_low (k : Nat) (hk : k < 63) (n : Int) (m : Int) (hm : (BitVec.ofInt 64 m).toNat = 2 ^ k - 1) (M : Int) (hM : M = ((2 ^ k : Nat) : Int)) : bits .and .i64 n m = n % M := by
  have key : (BitVec.ofInt 64 n &&& BitVec.ofInt 64 m).toNat = (n % ((2 ^ 64 : Nat) : Int)).toNat % 2 ^ k := by
    rw [BitVec.toNat_and, BitVec.toNat_ofInt, hm, Nat.and_two_pow_sub_one_eq_mod]
  show IntKind.i64.wrap ((BitVec.ofInt 64 n &&& BitVec.ofInt 64 m).toNat : Nat) = n % M
  rw [key, IntKind.wrap_i64, hM]
  have h1 : (2 ^ k : Nat) ∣ 2 ^ 64 := Nat.pow_dvd_pow 2 (by omega)
  have h2 : (2 ^ k : Nat) ≤ 2 ^ 62 := Nat.pow_le_pow_right (by omega) (by omega)
  have h3 : 0 < (2 ^ k : Nat) := Nat.pow_pos (by omega)
  have h4 : (((n % ((2 ^ 64 : Nat) : Int)).toNat % 2 ^ k : Nat) : Int) = n % ((2 ^ k : Nat) : Int) := by
    rw [Int.natCast_emod, Int.toNat_of_nonneg (Int.emod_nonneg _ (by omega)), Int.emod_emod_of_dvd _ (Int.natCast_dvd_natCast.2 h1)]
  rw [h4]
  have h5 := Int.emod_nonneg n (show ((2 ^ k : Nat) : Int) ≠ 0 by omega)
  have h6 := Int.emod_lt_of_pos n (show (0 : Int) < ((2 ^ k : Nat) : Int) by omega)
  generalize n % ((2 ^ k : Nat) : Int) = r at *
  have h7 : ((2 ^ k : Nat) : Int) ≤ 4611686018427387904 := by
    have : ((2 ^ 62 : Nat) : Int) = 4611686018427387904 := rfl
    omega
  omega
theorem i64_mask16 (n : Int) : bits .and .i64 n 65535 = n % 65536 := i64_low 16 (by omega) n 65535 (by decide) 65536 rfl
theorem i64_mask15 (n : Int) : bits .and .i64 n 32767 = n % 32768 := i64_low 15 (by omega) n 32767 (by decide) 32768 rfl
theorem i64_mask8 (n : Int) : bits .and .i64 n 255 = n % 256 := i64_low 8 (by omega) n 255 (by decide) 256 rfl
theorem i64_bit (n : Int) : bits .and .i64 n 1 = n % 2 := i64_low 1 (by omega) n 1 (by decide) 2 rfl

/-- A bit above all others is added. -/
theorem nat_or_high (x a i : Nat) (h : x < 2 ^ i) : x ||| a * 2 ^ i = x + a * 2 ^ i := by
  have := Nat.two_pow_add_eq_or_of_lt h a
  rw [Nat.or_comm, Nat.mul_comm a, ← this, Nat.add_comm]
theorem u64_or_high {x a : Int} (i : Nat) (h0 : 0 ≤ x) (h1 : x < 2 ^ i) (ha : 0 ≤ a) (hw : x + a * 2 ^ i < M64) : bits .or .u64 x (a * 2 ^ i) = x + a * 2 ^ i := by
  unfold M64 at hw
  obtain ⟨n, rfl⟩ := Int.eq_ofNat_of_zero_le h0
  obtain ⟨m, rfl⟩ := Int.eq_ofNat_of_zero_le ha
  have e : ((m : Int) * 2 ^ i) = ((m * 2 ^ i : Nat) : Int) := by simp
  have e2 : ((2 : Int) ^ i) = ((2 ^ i : Nat) : Int) := by simp
  rw [e2] at h1
  rw [e] at hw ⊢
  rw [u64_or_nat n (m * 2 ^ i) (by omega) (by omega), nat_or_high n m i (by omega)]
  rfl
theorem u8_or_high {x a : Int} (i : Nat) (h0 : 0 ≤ x) (h1 : x < 2 ^ i) (ha : 0 ≤ a) (hw : x + a * 2 ^ i < 256) : bits .or .u8 x (a * 2 ^ i) = x + a * 2 ^ i := by
  obtain ⟨n, rfl⟩ := Int.eq_ofNat_of_zero_le h0
  obtain ⟨m, rfl⟩ := Int.eq_ofNat_of_zero_le ha
  have e : ((m : Int) * 2 ^ i) = ((m * 2 ^ i : Nat) : Int) := by simp
  have e2 : ((2 : Int) ^ i) = ((2 ^ i : Nat) : Int) := by simp
  rw [e2] at h1
  rw [e] at hw ⊢
  rw [u8_or_nat n (m * 2 ^ i) (by omega) (by omega), nat_or_high n m i (by omega)]
  rfl
theorem wrap64_in {x : Int} (h0 : -9223372036854775808 ≤ x) (h1 : x < 9223372036854775808) : wrap64 x = x := by unfold wrap64; omega
theorem i64_in' {x : Int} (h0 : -9223372036854775808 ≤ x) (h1 : x < 9223372036854775808) : IntKind.i64.wrap x = x := IntWalk.i64_in x (by omega)
theorem u64_in {x : Int} (h0 : 0 ≤ x) (h1 : x < M64) : IntKind.u64.wrap x = x := by
  unfold M64 at h1
  rw [IntKind.wrap_u64]; omega
theorem u8_in {x : Int} (h0 : 0 ≤ x) (h1 : x < 256) : IntKind.u8.wrap x = x := by
  rw [IntKind.wrap_u8]; omega

end Go.Proofs.Ytmchkfganpgheaa
