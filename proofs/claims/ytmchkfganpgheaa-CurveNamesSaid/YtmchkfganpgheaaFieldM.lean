/-
  The program's numbers: limbs and bits, plain.
-/
import Derived.Test.YtmchkfganpgheaaFieldD
import Derived.Test.YtmchkfganpgheaaBitm
namespace Go.Proofs.Ytmchkfganpgheaa
set_option linter.unusedSimpArgs false
set_option linter.unusedVariables false
open Go Go.RowKit


theorem bit_of_digit (N : Int) (w q r : Nat) (hr : r < w) : N / (2 ^ w) ^ q % 2 ^ w / 2 ^ r % 2 = N / 2 ^ (w * q + r) % 2 := by
  obtain ⟨c, rfl⟩ : ∃ c, w = r + 1 + c := ⟨w - r - 1, by omega⟩
  have hA : (0 : Int) < 2 ^ r := pow_pos' (by omega) r
  have hQ : (0 : Int) ≤ 2 ^ ((r + 1 + c) * q) := Int.le_of_lt (pow_pos' (by omega) _)
  rw [← Int.pow_mul, Int.pow_add 2 ((r + 1 + c) * q) r, ← Int.ediv_ediv_of_nonneg hQ]
  generalize N / 2 ^ ((r + 1 + c) * q) = M
  have e : (2 : Int) ^ (r + 1 + c) = 2 ^ r * (2 * 2 ^ c) := by rw [Int.pow_add, Int.pow_succ, Int.mul_assoc]
  rw [e]
  have h := Int.emod_add_mul_ediv M (2 ^ r * (2 * 2 ^ c))
  generalize M % (2 ^ r * (2 * 2 ^ c)) = s at h ⊢
  generalize M / (2 ^ r * (2 * 2 ^ c)) = t at h
  rw [← h, Int.mul_assoc (2 ^ r), Int.add_mul_ediv_left _ _ (by omega), Int.mul_assoc 2, Int.add_mul_emod_self_left]
theorem bits_sum (N : Int) : ∀ K, sumN 2 (fun k => N / 2 ^ k % 2) K = N % 2 ^ K
  | 0 => by simp [sumN, Int.emod_one]
  | k + 1 => by
    have hA : (0 : Int) < 2 ^ k := pow_pos' (by omega) k
    have h1 := Int.emod_add_mul_ediv N (2 ^ k)
    have h2 := Int.emod_nonneg N (show (2 : Int) ^ k ≠ 0 by omega)
    have h3 := Int.emod_lt_of_pos N hA
    simp only [sumN]
    rw [bits_sum N k]
    generalize N % 2 ^ k = r at *
    generalize N / 2 ^ k = q at *
    obtain ⟨b, hb⟩ : ∃ b, b = q % 2 := ⟨_, rfl⟩
    obtain ⟨t, ht⟩ : ∃ t, t = q / 2 := ⟨_, rfl⟩
    have hq : q = 2 * t + b := by omega
    have hb2 : b = 0 ∨ b = 1 := by omega
    rw [← hb, Int.pow_succ]
    have e : N = (r + b * 2 ^ k) + 2 ^ k * 2 * t := by
      rw [← h1, hq, Int.mul_add, Int.mul_comm b, Int.mul_assoc]
      omega
    rw [e, Int.add_mul_emod_self_left]
    symm
    apply Int.emod_eq_of_lt
    · rcases hb2 with h | h <;> rw [h] <;> omega
    · rcases hb2 with h | h <;> rw [h] <;> omega


/-- Bits, laid into digits of 51 bits from the lowest on. -/
theorem fill_bits51 {F : Nat → List Int} {β : Nat → Int} {n : Nat} (hl : ∀ k, (F k).length = n) (h0 : ∀ j, gi (F 0) j = 0) (hβ : ∀ k, 0 ≤ β k ∧ β k ≤ 1)
    (hs : ∀ k, k < 51 * n → 0 ≤ gi (F k) (k / 51) → gi (F k) (k / 51) < 2 ^ (k % 51) → F (k + 1) = (F k).set (k / 51) (gi (F k) (k / 51) + β k * 2 ^ (k % 51))) : ∀ k, k ≤ 51 * n →
    (∀ j, j < k / 51 → 0 ≤ gi (F k) j ∧ gi (F k) j < 2251799813685248) ∧ 0 ≤ gi (F k) (k / 51) ∧ gi (F k) (k / 51) < 2 ^ (k % 51) ∧ (∀ j, k / 51 < j → gi (F k) j = 0) ∧ sumN 2251799813685248 (gi (F k)) n = sumN 2 β k
  | 0, _ => ⟨fun j hj => by omega, by rw [h0]; omega, by rw [h0]; decide, fun j _ => h0 j, by rw [sumN_zero _ _ _ (fun j _ => h0 j)]; rfl⟩
  | k + 1, hk => by
    obtain ⟨h1, h2, h3, h4, h5⟩ := fill_bits51 hl h0 hβ hs k (by omega)
    have e := hs k (by omega) h2 h3
    obtain ⟨b1, b2⟩ := hβ k
    have hp : (0 : Int) < 2 ^ (k % 51) := pow_pos' (by omega) _
    have hb0 : 0 ≤ β k * 2 ^ (k % 51) := Int.mul_nonneg b1 (by omega)
    have hb1 : β k * 2 ^ (k % 51) ≤ 1 * 2 ^ (k % 51) := Int.mul_le_mul_of_nonneg_right b2 (by omega)
    have hlt : k / 51 < (F k).length := by rw [hl]; omega
    have hsum : sumN 2251799813685248 (gi (F (k + 1))) n = sumN 2 β (k + 1) := by
      rw [e, sumN_set (by omega) hlt, h5]
      simp only [sumN]
      have hpow : (2 : Int) ^ k = 2 ^ (k % 51) * 2251799813685248 ^ (k / 51) := by
        rw [show (2251799813685248 : Int) = 2 ^ 51 from rfl, ← Int.pow_mul, ← Int.pow_add]
        congr 1
        omega
      rw [hpow, show gi (F k) (k / 51) + β k * 2 ^ (k % 51) - gi (F k) (k / 51) = β k * 2 ^ (k % 51) by omega, Int.mul_assoc]
    have hsame : gi (F (k + 1)) (k / 51) = gi (F k) (k / 51) + β k * 2 ^ (k % 51) := by rw [e, gi_same _ _ _ hlt]
    have hoth : ∀ j, j ≠ k / 51 → gi (F (k + 1)) j = gi (F k) j := fun j hj => by rw [e, gi_upd _ _ _ _ hj]
    by_cases hc : k % 51 = 50
    · have d1 : (k + 1) / 51 = k / 51 + 1 := by omega
      have d2 : (k + 1) % 51 = 0 := by omega
      rw [hc] at h3 hb1 hb0 hsame
      rw [d1, d2]
      refine ⟨fun j hj => ?_, ?_, ?_, fun j hj => ?_, hsum⟩
      · by_cases h : j = k / 51
        · subst h
          rw [hsame]
          have : (2 : Int) ^ 50 = 1125899906842624 := rfl
          rw [this] at *
          omega
        · rw [hoth j h]
          exact h1 j (by omega)
      · rw [hoth _ (by omega), h4 _ (by omega)]
        omega
      · rw [hoth _ (by omega), h4 _ (by omega)]
        decide
      · rw [hoth _ (by omega)]
        exact h4 _ (by omega)
    · have d1 : (k + 1) / 51 = k / 51 := by omega
      have d2 : (k + 1) % 51 = k % 51 + 1 := by omega
      rw [d1, d2, Int.pow_succ]
      refine ⟨fun j hj => ?_, ?_, ?_, fun j hj => ?_, hsum⟩
      · rw [hoth j (by omega)]
        exact h1 j hj
      · rw [hsame]
        omega
      · rw [hsame]
        omega
      · rw [hoth _ (by omega)]
        exact h4 _ hj


/-- Bits, laid into digits of 8 bits from the lowest on. -/
theorem fill_bits8 {F : Nat → List Int} {β : Nat → Int} {n : Nat} (hl : ∀ k, (F k).length = n) (h0 : ∀ j, gi (F 0) j = 0) (hβ : ∀ k, 0 ≤ β k ∧ β k ≤ 1)
    (hs : ∀ k, k < 8 * n → 0 ≤ gi (F k) (k / 8) → gi (F k) (k / 8) < 2 ^ (k % 8) → F (k + 1) = (F k).set (k / 8) (gi (F k) (k / 8) + β k * 2 ^ (k % 8))) : ∀ k, k ≤ 8 * n →
    (∀ j, j < k / 8 → 0 ≤ gi (F k) j ∧ gi (F k) j < 256) ∧ 0 ≤ gi (F k) (k / 8) ∧ gi (F k) (k / 8) < 2 ^ (k % 8) ∧ (∀ j, k / 8 < j → gi (F k) j = 0) ∧ sumN 256 (gi (F k)) n = sumN 2 β k
  | 0, _ => ⟨fun j hj => by omega, by rw [h0]; omega, by rw [h0]; decide, fun j _ => h0 j, by rw [sumN_zero _ _ _ (fun j _ => h0 j)]; rfl⟩
  | k + 1, hk => by
    obtain ⟨h1, h2, h3, h4, h5⟩ := fill_bits8 hl h0 hβ hs k (by omega)
    have e := hs k (by omega) h2 h3
    obtain ⟨b1, b2⟩ := hβ k
    have hp : (0 : Int) < 2 ^ (k % 8) := pow_pos' (by omega) _
    have hb0 : 0 ≤ β k * 2 ^ (k % 8) := Int.mul_nonneg b1 (by omega)
    have hb1 : β k * 2 ^ (k % 8) ≤ 1 * 2 ^ (k % 8) := Int.mul_le_mul_of_nonneg_right b2 (by omega)
    have hlt : k / 8 < (F k).length := by rw [hl]; omega
    have hsum : sumN 256 (gi (F (k + 1))) n = sumN 2 β (k + 1) := by
      rw [e, sumN_set (by omega) hlt, h5]
      simp only [sumN]
      have hpow : (2 : Int) ^ k = 2 ^ (k % 8) * 256 ^ (k / 8) := by
        rw [show (256 : Int) = 2 ^ 8 from rfl, ← Int.pow_mul, ← Int.pow_add]
        congr 1
        omega
      rw [hpow, show gi (F k) (k / 8) + β k * 2 ^ (k % 8) - gi (F k) (k / 8) = β k * 2 ^ (k % 8) by omega, Int.mul_assoc]
    have hsame : gi (F (k + 1)) (k / 8) = gi (F k) (k / 8) + β k * 2 ^ (k % 8) := by rw [e, gi_same _ _ _ hlt]
    have hoth : ∀ j, j ≠ k / 8 → gi (F (k + 1)) j = gi (F k) j := fun j hj => by rw [e, gi_upd _ _ _ _ hj]
    by_cases hc : k % 8 = 7
    · have d1 : (k + 1) / 8 = k / 8 + 1 := by omega
      have d2 : (k + 1) % 8 = 0 := by omega
      rw [hc] at h3 hb1 hb0 hsame
      rw [d1, d2]
      refine ⟨fun j hj => ?_, ?_, ?_, fun j hj => ?_, hsum⟩
      · by_cases h : j = k / 8
        · subst h
          rw [hsame]
          have : (2 : Int) ^ 7 = 128 := rfl
          rw [this] at *
          omega
        · rw [hoth j h]
          exact h1 j (by omega)
      · rw [hoth _ (by omega), h4 _ (by omega)]
        omega
      · rw [hoth _ (by omega), h4 _ (by omega)]
        decide
      · rw [hoth _ (by omega)]
        exact h4 _ (by omega)
    · have d1 : (k + 1) / 8 = k / 8 := by omega
      have d2 : (k + 1) % 8 = k % 8 + 1 := by omega
      rw [d1, d2, Int.pow_succ]
      refine ⟨fun j hj => ?_, ?_, ?_, fun j hj => ?_, hsum⟩
      · rw [hoth j (by omega)]
        exact h1 j hj
      · rw [hsame]
        omega
      · rw [hsame]
        omega
      · rw [hoth _ (by omega)]
        exact h4 _ hj


end Go.Proofs.Ytmchkfganpgheaa
