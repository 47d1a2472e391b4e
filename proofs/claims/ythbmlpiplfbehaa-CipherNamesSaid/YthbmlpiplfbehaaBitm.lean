/-
  What masks, shifts and sums of bits are, in whole numbers.
-/
import Derived.Test.YthbmlpiplfbehaaBits
import Derived.Test.YthbmlpiplfbehaaNum
import Derived.Laws.BitsAllLaws
import Derived.Laws.Bits128
namespace Go.Proofs.Ythbmlpiplfbehaa
set_option linter.unusedSimpArgs false
set_option linter.unusedVariables false
open Go Go.RowKit

theorem i64_low (k : Nat) (hk : k < 63) (n : Int) (m : Int) (hm : (BitVec.ofInt 64 m).toNat = 2 ^ k - 1) (M : Int) (hM : M = ((2 ^ k : Nat) : Int)) : bits .and .i64 n m = n % M := by
  have key : (BitVec.ofInt 64 n &&& BitVec.ofInt 64 m).toNat = (n % ((2 ^ 64 : Nat) : Int)).toNat % 2 ^ k := by
    rw [BitVec.toNat_and, BitVec.toNat_ofInt, hm, Nat.and_two_pow_sub_one_eq_mod]
  show IntKind.i64.wrap ((BitVec.ofInt 64 n &&& BitVec.ofInt 64 m).toNat : Nat) = n % M
  rw [key, IntKind.wrap_i64, hM]
  have h1 : (2 ^ k : Nat) ∣ 2 ^ 64 := Nat.pow_dvd_pow 2 (by omega)
  have h2 : (2 ^ k : Nat) ≤ 2 ^ 62 := Nat.pow_le_pow_right (by omega) (by omega)
  have h3 : 0 < (2 ^ k : Nat) := Nat.pow_pos (by omega)
  have h4 : (((n % ((2 ^ 64 : Nat) : Int)).toNat % 2 ^ k : Nat) : Int) = n % ((2 ^ k : Nat) : Int) := by
    rw [Int.natCast_emod, Int.toNat_of_nonneg (Int.emod_nonneg _ (by omega)), Int.emod_emod_of_dvd _ (Int.natCast_dvd_natCast.2 h1)]
  rw [h4]
  have h5 := Int.emod_nonneg n (show ((2 ^ k : Nat) : Int) ≠ 0 by omega)
  have h6 := Int.emod_lt_of_pos n (show (0 : Int) < ((2 ^ k : Nat) : Int) by omega)
  generalize n % ((2 ^ k : Nat) : Int) = r at *
  have h7 : ((2 ^ k : Nat) : Int) ≤ 4611686018427387904 := by
    have : ((2 ^ 62 : Nat) : Int) = 4611686018427387904 := rfl
    omega
  omega
/-- A bit above all others is added. -/
theorem nat_or_high (x a i : Nat) (h : x < 2 ^ i) : x ||| a * 2 ^ i = x + a * 2 ^ i := by
  have := Nat.two_pow_add_eq_or_of_lt h a
  rw [Nat.or_comm, Nat.mul_comm a, ← this, Nat.add_comm]
end Go.Proofs.Ythbmlpiplfbehaa
