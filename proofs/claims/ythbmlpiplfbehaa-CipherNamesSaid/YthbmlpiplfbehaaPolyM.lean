/-
  The document's numbers: digits, carries, products modulo 2^130 - 5. Plain maths, no conditions.
-/
import Derived.Test.YthbmlpiplfbehaaPolyRc
import Derived.Test.YthbmlpiplfbehaaNum
namespace Go.Proofs.Ythbmlpiplfbehaa
set_option linter.unusedSimpArgs false
set_option linter.unusedVariables false
open Go Go.RowKit
namespace Sp

/-! ### Digits -/
theorem sumN_split {B : Int} (f : Nat → Int) (i : Nat) : ∀ d, ∃ R, sumN B f (i + d) = sumN B f i + B ^ i * R
  | 0 => ⟨0, by simp⟩
  | d + 1 => by
    obtain ⟨R, hR⟩ := sumN_split f i d
    refine ⟨R + f (i + d) * B ^ d, ?_⟩
    show sumN B f (i + d) + f (i + d) * B ^ (i + d) = _
    rw [hR, Int.pow_add]
    grind
def digN (n : Nat) (v : Int) : List Int := (List.range n).map fun i => v / 256 ^ i % 256
theorem digN_length (n : Nat) (v : Int) : (digN n v).length = n := by simp [digN]
attribute [simp] digN_length
theorem digN_gi {n i : Nat} (v : Int) (h : i < n) : gi (digN n v) i = v / 256 ^ i % 256 := by
  unfold gi digN
  simp [List.getD_eq_getElem?_getD, h]
theorem dig_sum (v : Int) : ∀ n, sumN 256 (fun i => v / 256 ^ i % 256) n = v % 256 ^ n
  | 0 => by simp [sumN, Int.emod_one]
  | n + 1 => by
    have hp : (0 : Int) < 256 ^ n := Int.pow_pos (by decide)
    simp only [sumN]
    rw [dig_sum v n, Int.pow_succ, Int.mul_comm (v / 256 ^ n % 256)]
    have h1 := Int.emod_add_mul_ediv v (256 ^ n * 256)
    have h2 := Int.emod_add_mul_ediv v (256 ^ n)
    have h3 := Int.emod_add_mul_ediv (v / 256 ^ n) 256
    have h4 : v / (256 ^ n * 256) = v / 256 ^ n / 256 := by rw [Int.ediv_ediv_of_nonneg (by omega)]
    rw [h4] at h1
    grind
theorem digN_sum (n : Nat) (v : Int) : sumN 256 (gi (digN n v)) n = v % 256 ^ n := by
  rw [sumN_congr (g := fun i => v / 256 ^ i % 256) (fun i hi => digN_gi v hi), dig_sum]
theorem digN_dig (n : Nat) (v : Int) : Dig 256 (gi (digN n v)) n := fun i hi => by rw [digN_gi v hi]; omega
theorem eq_digN {L : List Int} {n : Nat} (hl : L.length = n) (hd : Dig 256 (gi L) n) : L = digN n (sumN 256 (gi L) n) := by
  refine ext_gi (by simp [hl]) fun i hi => ?_
  rw [hl] at hi
  rw [digN_gi _ hi]
  exact sumN_digit (by decide) hd hi
theorem dig_low {B : Int} (f : Nat → Int) {n j i : Nat} (hB : 0 < B) (hj : j < i) (hi : i ≤ n) : sumN B f i / B ^ j % B = sumN B f n / B ^ j % B := by
  obtain ⟨R, hR⟩ := sumN_split (B := B) f i (n - i)
  rw [show i + (n - i) = n by omega] at hR
  obtain ⟨d, hd⟩ : ∃ d, i = j + (d + 1) := ⟨i - j - 1, by omega⟩
  have hp := pow_pos' hB j
  rw [hR, hd, Int.pow_add, Int.pow_succ, show sumN B f (j + (d + 1)) + B ^ j * (B ^ d * B) * R = sumN B f (j + (d + 1)) + B ^ j * (B ^ d * B * R) by grind, Int.add_mul_ediv_left _ _ (by omega), show B ^ d * B * R = B * (B ^ d * R) by grind, Int.add_mul_emod_self_left]

/-- What a row of 17 numbers counts. -/
def nv (h : List Int) : Int := sumN 256 (gi h) 17
/-- Numbers that no sum runs over with. -/
def Small (h : List Int) : Prop := h.length = 17 ∧ ∀ i, 0 ≤ gi h i ∧ gi h i < 1099511627776
def QP : Int := 1361129467683753853853498429727072845819
theorem sum_nonneg {f : Nat → Int} (h : ∀ i, 0 ≤ f i) : ∀ n, 0 ≤ sumN 256 f n
  | 0 => by simp [sumN]
  | n + 1 => by
    have := sum_nonneg h n
    have hp : (0 : Int) < 256 ^ n := Int.pow_pos (by decide)
    have := Int.mul_nonneg (h n) (Int.le_of_lt hp)
    simp only [sumN]
    omega
theorem sum_up' {f : Nat → Int} {M : Int} (hM : 0 < M) (h : ∀ i, 0 ≤ f i ∧ f i < 128 * M) : ∀ n, sumN 256 f n / 256 ^ n < M
  | 0 => by simp [sumN]; exact hM
  | n + 1 => by
    have ih := sum_up' hM h n
    have hp : (0 : Int) < 256 ^ n := Int.pow_pos (by decide)
    have e : sumN 256 f (n + 1) / 256 ^ (n + 1) = (f n + sumN 256 f n / 256 ^ n) / 256 := by
      rw [Int.pow_succ, ← Int.ediv_ediv_of_nonneg (by omega)]
      congr 1
      simp only [sumN]
      rw [Int.add_mul_ediv_right _ _ (by omega)]
      omega
    rw [e]
    have := (h n).2
    omega
theorem sum_up {f : Nat → Int} (h : ∀ i, 0 ≤ f i ∧ f i < 1099511627776) (n : Nat) : sumN 256 f n / 256 ^ n < 8589934592 := sum_up' (by decide) h n
/-- Small numbers, from which three rounds begin. -/
def Small0 (h : List Int) : Prop := h.length = 17 ∧ ∀ i, 0 ≤ gi h i ∧ gi h i < 68719476736
theorem Small0.small {h : List Int} (hs : Small0 h) : Small h := ⟨hs.1, fun i => by have := hs.2 i; omega⟩
theorem wrap_in {x : Int} (h0 : -9223372036854775808 ≤ x) (h1 : x < 9223372036854775808) : IntKind.i64.wrap x = x := IntWalk.i64_in _ (by omega)
/-- One row carried: its digits, and what is over. -/
theorem crI_val {h : List Int} (hs : Small h) : ∀ i, i ≤ 17 → (crI h i).1 = sumN 256 (gi h) i / 256 ^ i ∧ ∀ j, gi (crI h i).2 j = if j < i then nv h / 256 ^ j % 256 else gi h j
  | 0, _ => by
    rw [crI_0]
    exact ⟨by simp [sumN], fun j => by simp⟩
  | i + 1, hi => by
    obtain ⟨h1, h2⟩ := crI_val hs i (by omega)
    have hp : (0 : Int) < 256 ^ i := Int.pow_pos (by decide)
    have hg := hs.2 i
    have hu := sum_up (fun j => hs.2 j) i
    have hn : 0 ≤ sumN 256 (gi h) i / 256 ^ i := Int.ediv_nonneg (sum_nonneg (fun j => (hs.2 j).1) i) (Int.le_of_lt hp)
    have hgi : gi (crI h i).2 i = gi h i := by rw [h2]; simp
    have e : gi h i + sumN 256 (gi h) i / 256 ^ i = sumN 256 (gi h) (i + 1) / 256 ^ i := by
      simp only [sumN]
      rw [Int.add_mul_ediv_right _ _ (by omega)]
      omega
    rw [crI_s, hgi, h1, wrap_in (x := gi h i + sumN 256 (gi h) i / 256 ^ i) (by omega) (by omega)]
    constructor
    · show IntKind.i64.wrap ((gi h i + sumN 256 (gi h) i / 256 ^ i).tdiv 256) = _
      rw [Int.tdiv_eq_ediv_of_nonneg (by omega), wrap_in (by omega) (by omega), e, Int.pow_succ, ← Int.ediv_ediv_of_nonneg (by omega)]
    · intro j
      show gi ((crI h i).2.set i ((gi h i + sumN 256 (gi h) i / 256 ^ i).tmod 256)) j = _
      by_cases hj : j = i
      · subst hj
        rw [gi_same _ _ _ (by rw [crI_length, hs.1]; omega), if_pos (by omega), Int.tmod_eq_emod_of_nonneg (by omega), e]
        exact dig_low (gi h) (by decide) (by omega) hi
      · rw [gi_upd _ _ _ _ hj, h2]
        by_cases h3 : j < i
        · rw [if_pos h3, if_pos (by omega)]
        · rw [if_neg h3, if_neg (by omega)]
/-- What a round of carries makes of a number. -/
def fold (v : Int) : Int := v % 2 ^ 130 + 5 * (v / 2 ^ 130)
theorem nv_up (h : List Int) : nv h = sumN 256 (gi h) 17 := rfl
theorem over_eq (v : Int) : v / 256 ^ 17 * 64 + v / 256 ^ 16 % 256 / 4 = v / 2 ^ 130 := by
  have e1 : (256 : Int) ^ 17 = 2 ^ 128 * 256 := by decide
  have e2 : (256 : Int) ^ 16 = 2 ^ 128 := by decide
  have e3 : (2 : Int) ^ 130 = 2 ^ 128 * 4 := by decide
  rw [e1, e2, e3, ← Int.ediv_ediv_of_nonneg (by decide), ← Int.ediv_ediv_of_nonneg (by decide)]
  omega
theorem dig130 (v : Int) {i : Nat} (hi : i < 16) : v % 2 ^ 130 / 256 ^ i % 256 = v / 256 ^ i % 256 := by
  obtain ⟨d, hd⟩ : ∃ d : Nat, 16 = i + (d + 1) := ⟨16 - i - 1, by omega⟩
  have e : (2 : Int) ^ 130 = 256 ^ i * (256 * (256 ^ d * 4)) := by
    have e2 : (2 : Int) ^ 130 = 256 ^ 16 * 4 := by decide
    rw [e2, hd, Int.pow_add, Int.pow_succ]; grind
  have hp : (0 : Int) < 256 ^ i := Int.pow_pos (by decide)
  have h1 := Int.emod_add_mul_ediv v (2 ^ 130)
  have h2 : v / 256 ^ i = v % 2 ^ 130 / 256 ^ i + 256 * (256 ^ d * 4 * (v / 2 ^ 130)) := by
    rw [← Int.add_mul_ediv_left _ _ (show (256 : Int) ^ i ≠ 0 by omega)]
    congr 1
    rw [e] at h1 ⊢
    grind
  rw [h2, Int.add_mul_emod_self_left]
theorem dig130_16 (v : Int) : v % 2 ^ 130 / 256 ^ 16 % 256 = v / 256 ^ 16 % 256 % 4 := by
  have e2 : (256 : Int) ^ 16 = 2 ^ 128 := by decide
  have e3 : (2 : Int) ^ 130 = 2 ^ 128 * 4 := by decide
  have h1 := Int.emod_add_mul_ediv v (2 ^ 128 * 4)
  have h4 := Int.emod_add_mul_ediv v (2 ^ 128)
  rw [e2, e3]
  have h5 : v / (2 ^ 128 * 4) = v / 2 ^ 128 / 4 := by rw [Int.ediv_ediv_of_nonneg (by decide)]
  have h6 : v % (2 ^ 128 * 4) / 2 ^ 128 = v / 2 ^ 128 % 4 := by
    have : v % (2 ^ 128 * 4) = v % 2 ^ 128 + (v / 2 ^ 128 % 4) * 2 ^ 128 := by
      have := Int.emod_add_mul_ediv (v / 2 ^ 128) 4
      rw [h5] at h1
      grind
    rw [this, Int.add_mul_ediv_right _ _ (by decide), Int.ediv_eq_zero_of_lt (Int.emod_nonneg _ (by decide)) (Int.emod_lt_of_pos _ (by decide))]
    omega
  rw [h6]
  omega
/-- A round: the digits of what is below 2^130, and five times what is above it at the lowest place. -/
theorem crR_eq {h : List Int} (hs : Small h) : crR h = (digN 17 (nv h % 2 ^ 130)).set 0 (nv h % 2 ^ 130 % 256 + 5 * (nv h / 2 ^ 130)) := by
  obtain ⟨h1, h2⟩ := crI_val hs 17 (by omega)
  have hl : (crI h 17).2.length = 17 := by rw [crI_length, hs.1]
  have h0 : 0 ≤ nv h := sum_nonneg (fun j => (hs.2 j).1) 17
  have hu := sum_up (fun j => hs.2 j) 17
  rw [← nv_up] at h1 hu
  have hov := over_eq (nv h)
  have hun : 0 ≤ nv h / 256 ^ 17 := Int.ediv_nonneg h0 (by decide)
  have h16 : gi (crI h 17).2 16 = nv h / 256 ^ 16 % 256 := by rw [h2, if_pos (by omega)]
  have e0 : gi ((crI h 17).2.set 16 ((gi (crI h 17).2 16).tmod 4)) 0 = nv h % 256 := by rw [gi_upd _ _ _ _ (by omega), h2, if_pos (by omega)]; simp
  have em : nv h % 256 = nv h % 2 ^ 130 % 256 := by rw [Int.emod_emod_of_dvd _ (by decide)]
  unfold crR
  rw [e0, h1, h16, Int.tmod_eq_emod_of_nonneg (by omega), Int.tdiv_eq_ediv_of_nonneg (by omega), wrap_in (x := nv h / 256 ^ 17 * 64) (by omega) (by omega), wrap_in (x := nv h / 256 ^ 16 % 256 / 4) (by omega) (by omega), wrap_in (x := nv h / 256 ^ 17 * 64 + nv h / 256 ^ 16 % 256 / 4) (by omega) (by omega), hov, wrap_in (x := 5 * (nv h / 2 ^ 130)) (by omega) (by omega), em, wrap_in (by omega) (by omega)]
  refine ext_gi (by simp [hl]) fun i hi => ?_
  simp [hl] at hi
  by_cases hi0 : i = 0
  · subst hi0
    rw [gi_same _ _ _ (by simp [hl]), gi_same _ _ _ (by simp)]
  · rw [gi_upd _ _ _ _ hi0, gi_upd _ _ _ _ hi0, digN_gi _ hi]
    by_cases hi6 : i = 16
    · subst hi6
      rw [gi_same _ _ _ (by simp [hl]), dig130_16]
    · rw [gi_upd _ _ _ _ hi6, h2, if_pos (by omega), dig130 _ (by omega)]
theorem crR_nv {h : List Int} (hs : Small h) : nv (crR h) = fold (nv h) := by
  have h0 : 0 ≤ nv h := sum_nonneg (fun j => (hs.2 j).1) 17
  have hm : 0 ≤ nv h % 2 ^ 130 ∧ nv h % 2 ^ 130 < 2 ^ 130 := ⟨Int.emod_nonneg _ (by decide), Int.emod_lt_of_pos _ (by decide)⟩
  rw [crR_eq hs]
  unfold nv
  rw [sumN_set (by omega) (by simp), digN_sum, digN_gi _ (by omega)]
  unfold fold
  have : nv h % 2 ^ 130 % 256 ^ 17 = nv h % 2 ^ 130 := Int.emod_eq_of_lt hm.1 (Int.lt_trans hm.2 (by decide))
  unfold nv at this
  rw [this]
  simp
  omega
theorem nv_lt {h : List Int} (hs : Small0 h) : nv h < 2 ^ 165 := by
  have hu := sum_up' (M := 536870912) (by decide) (fun j => hs.2 j) 17
  rw [← nv_up] at hu
  have := Int.lt_mul_ediv_self_add (x := nv h) (k := 256 ^ 17) (by decide)
  have e : (256 : Int) ^ 17 = 87112285931760246646623899502532662132736 := by decide
  have e2 : (2 : Int) ^ 165 = 46768052394588893382517914646921056628989841375232 := by decide
  rw [e] at this hu
  rw [e2]
  omega
theorem crR_small {h : List Int} (hs : Small h) : (crR h).length = 17 ∧ (∀ i, 0 ≤ gi (crR h) i ∧ gi (crR h) i < 256 + 5 * (nv h / 2 ^ 130)) := by
  have h0 : 0 ≤ nv h := sum_nonneg (fun j => (hs.2 j).1) 17
  have hd : 0 ≤ nv h / 2 ^ 130 := Int.ediv_nonneg h0 (by decide)
  rw [crR_eq hs]
  refine ⟨by simp, fun i => ?_⟩
  by_cases hi : i = 0
  · subst hi
    rw [gi_same _ _ _ (by simp)]
    omega
  · rw [gi_upd _ _ _ _ hi]
    by_cases h17 : i < 17
    · rw [digN_gi _ h17]; omega
    · rw [gi_over _ _ (by simp; omega)]; omega
theorem fold_mod (v : Int) : fold v % QP = v % QP := by
  have h1 := Int.emod_add_mul_ediv v (2 ^ 130)
  have e : (2 : Int) ^ 130 = QP + 5 := by decide
  unfold fold
  rw [show v % 2 ^ 130 + 5 * (v / 2 ^ 130) = v + QP * (-(v / 2 ^ 130)) by rw [e] at h1 ⊢; grind, Int.add_mul_emod_self_left]
/-- Three rounds: the digits of the number modulo 2^130 - 5, below 2^130. -/
theorem crN_eq {h : List Int} (hs0 : Small0 h) : ∃ v, crN h 3 = digN 17 v ∧ 0 ≤ v ∧ v < 2 ^ 130 ∧ v % QP = nv h % QP := by
  have e130 : (2 : Int) ^ 130 = 1361129467683753853853498429727072845824 := by decide
  have e178 : (2 : Int) ^ 165 = 46768052394588893382517914646921056628989841375232 := by decide
  have hs := hs0.small
  have h0 : 0 ≤ nv h := sum_nonneg (fun j => (hs.2 j).1) 17
  have hlt := nv_lt hs0
  have s1 := crR_small hs
  have n1 := crR_nv hs
  have sm1 : Small (crR h) := ⟨s1.1, fun i => ⟨(s1.2 i).1, by have := (s1.2 i).2; rw [e130] at this; rw [e178] at hlt; omega⟩⟩
  have s2 := crR_small sm1
  have n2 := crR_nv sm1
  have b1 : 0 ≤ fold (nv h) ∧ fold (nv h) < 2 ^ 130 + 2 ^ 60 := by
    unfold fold
    rw [e130]
    rw [e178] at hlt
    have e60 : (2 : Int) ^ 60 = 1152921504606846976 := by decide
    rw [e60]
    omega
  rw [n1] at s2 n2
  have sm2 : Small (crR (crR h)) := ⟨s2.1, fun i => ⟨(s2.2 i).1, by have := (s2.2 i).2; rw [e130] at this b1; have e60 : (2 : Int) ^ 60 = 1152921504606846976 := by decide
                                                                    rw [e60] at b1; omega⟩⟩
  have b2 : 0 ≤ fold (fold (nv h)) ∧ fold (fold (nv h)) < 2 ^ 130 := by
    have e60 : (2 : Int) ^ 60 = 1152921504606846976 := by decide
    rw [e130, e60] at b1
    generalize fold (nv h) = x at *
    unfold fold
    rw [e130]
    omega
  have e3 := crR_eq sm2
  have hc : crN h 3 = crR (crR (crR h)) := by rw [show (3 : Nat) = 2 + 1 from rfl, crN_s, show (2 : Nat) = 1 + 1 from rfl, crN_s, show (1 : Nat) = 0 + 1 from rfl, crN_s, crN_0]
  rw [n2] at e3
  refine ⟨fold (fold (nv h)), ?_, b2.1, b2.2, by rw [fold_mod, fold_mod]⟩
  rw [hc, e3, Int.emod_eq_of_lt b2.1 b2.2, Int.ediv_eq_zero_of_lt b2.1 b2.2]
  refine ext_gi (by simp) fun i hi => ?_
  by_cases hi0 : i = 0
  · subst hi0
    rw [gi_same _ _ _ (by simp), digN_gi _ (by omega)]
    simp
  · rw [gi_upd _ _ _ _ hi0]
theorem crN_nv {h : List Int} (hs : Small0 h) : Dig 256 (gi (crN h 3)) 17 ∧ 0 ≤ nv (crN h 3) ∧ nv (crN h 3) < 2 ^ 130 ∧ nv (crN h 3) % QP = nv h % QP ∧ crN h 3 = digN 17 (nv (crN h 3)) := by
  obtain ⟨v, e, h0, h1, h2⟩ := crN_eq hs
  have hv : nv (crN h 3) = v := by
    unfold nv
    rw [e, digN_sum]
    exact Int.emod_eq_of_lt h0 (Int.lt_trans h1 (by decide))
  rw [hv]
  exact ⟨by rw [e]; exact digN_dig 17 v, h0, h1, h2, e⟩
end Sp
end Go.Proofs.Ythbmlpiplfbehaa
