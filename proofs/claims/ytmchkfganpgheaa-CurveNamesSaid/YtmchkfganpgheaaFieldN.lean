/-
  The program's numbers: what its functions answer, modulo p.
-/
import Derived.Test.YtmchkfganpgheaaFieldM
import Derived.Test.YtmchkfganpgheaaRefO
namespace Go.Proofs.Ytmchkfganpgheaa
set_option linter.unusedSimpArgs false
set_option linter.unusedVariables false
open Go Go.RowKit

def v5 (l : List Int) : Int := sumN 2251799813685248 (gi l) 5
theorem v5_eq (l : List Int) : v5 l = gi l 0 + gi l 1 * 2251799813685248 + gi l 2 * 5070602400912917605986812821504 + gi l 3 * 11417981541647679048466287755595961091061972992 + gi l 4 * 25711008708143844408671393477458601640355247900524685364822016 := by
  unfold v5
  simp only [sumN, Int.pow_zero, Int.mul_one, Int.zero_add, Int.reducePow]
/-- An element: limbs a little longer than they should at most. -/
def IsE (l : List Int) (v : Int) : Prop := l.length = 5 ∧ (∀ i, i < 5 → 0 ≤ gi l i ∧ gi l i < 2251799813947392) ∧ v5 l % PP = v % PP
theorem IsE.mod {x : List Int} {v w : Int} (h : IsE x v) (e : v % PP = w % PP) : IsE x w := ⟨h.1, h.2.1, by rw [h.2.2, e]⟩
theorem allG_of {l : List Int} (hl : l.length = 5) (h : ∀ i, i < 5 → 0 ≤ gi l i ∧ gi l i < 18446744073709551616) : AllG l := by
  intro i
  by_cases hi : i < 5
  · have := h i hi
    unfold W64 M64
    omega
  · rw [gi_over l i (by omega)]
    exact W64.zero
theorem IsE.allG {l : List Int} {v : Int} (h : IsE l v) : AllG l := allG_of h.1 fun i hi => by have := h.2.1 i hi; omega
theorem AllG.in {l : List Int} (h : AllG l) (i : Nat) : 0 ≤ gi l i ∧ gi l i < 18446744073709551616 := h i
theorem carriedL_spec (l : List Int) (h : AllG l) : (∀ i, i < 5 → 0 ≤ gi (carriedL l) i ∧ gi (carriedL l) i < 2251799813947392) ∧ v5 (carriedL l) = v5 l - gi l 4 / 2251799813685248 * PP := by
  have a0 := h.in 0
  have a1 := h.in 1
  have a2 := h.in 2
  have a3 := h.in 3
  have a4 := h.in 4
  have e0 : gi (carriedL l) 0 = gi l 0 % 2251799813685248 + 19 * (gi l 4 / 2251799813685248) := by
    show IntKind.u64.wrap (bits .and .u64 (gi l 0) 2251799813685247 + IntKind.u64.wrap (19 * (gi l 4 / 2251799813685248))) = _
    rw [mask51 (h 0), u64_in (x := 19 * (gi l 4 / 2251799813685248)) (by omega) (by unfold M64; omega), u64_in (by omega) (by unfold M64; omega)]
  have e1 : gi (carriedL l) 1 = gi l 1 % 2251799813685248 + gi l 0 / 2251799813685248 := by
    show IntKind.u64.wrap (bits .and .u64 (gi l 1) 2251799813685247 + gi l 0 / 2251799813685248) = _
    rw [mask51 (h 1), u64_in (by omega) (by unfold M64; omega)]
  have e2 : gi (carriedL l) 2 = gi l 2 % 2251799813685248 + gi l 1 / 2251799813685248 := by
    show IntKind.u64.wrap (bits .and .u64 (gi l 2) 2251799813685247 + gi l 1 / 2251799813685248) = _
    rw [mask51 (h 2), u64_in (by omega) (by unfold M64; omega)]
  have e3 : gi (carriedL l) 3 = gi l 3 % 2251799813685248 + gi l 2 / 2251799813685248 := by
    show IntKind.u64.wrap (bits .and .u64 (gi l 3) 2251799813685247 + gi l 2 / 2251799813685248) = _
    rw [mask51 (h 3), u64_in (by omega) (by unfold M64; omega)]
  have e4 : gi (carriedL l) 4 = gi l 4 % 2251799813685248 + gi l 3 / 2251799813685248 := by
    show IntKind.u64.wrap (bits .and .u64 (gi l 4) 2251799813685247 + gi l 3 / 2251799813685248) = _
    rw [mask51 (h 4), u64_in (by omega) (by unfold M64; omega)]
  refine ⟨fun i hi => ?_, ?_⟩
  · match i, hi with
    | 0, _ => rw [e0]; omega
    | 1, _ => rw [e1]; omega
    | 2, _ => rw [e2]; omega
    | 3, _ => rw [e3]; omega
    | 4, _ => rw [e4]; omega
  · rw [v5_eq, v5_eq, e0, e1, e2, e3, e4]
    unfold PP
    omega
theorem carriedL_isE {l : List Int} {v : Int} (h : AllG l) (hv : v5 l % PP = v % PP) : IsE (carriedL l) v := by
  obtain ⟨h1, h2⟩ := carriedL_spec l h
  refine ⟨rfl, h1, ?_⟩
  rw [← hv]
  refine modP (c := -(gi l 4 / 2251799813685248)) ?_
  rw [h2, Int.neg_mul]
  rfl

theorem tmod_toNat (k m : Nat) : ((k : Int).tmod m).toNat = k % m := by
  rw [Int.tmod_eq_emod_of_nonneg (by omega)]
  omega
theorem fdiv_pow (x : Int) (r : Nat) : x.fdiv (2 ^ r) = x / 2 ^ r := Int.fdiv_eq_ediv_of_nonneg _ (Int.le_of_lt (pow_pos' (by omega) r))
theorem ediv_pow_le {x : Int} (h : 0 ≤ x) (r : Nat) : 0 ≤ x / 2 ^ r ∧ x / 2 ^ r ≤ x :=
  ⟨Int.ediv_nonneg h (Int.le_of_lt (pow_pos' (by omega) r)), Int.ediv_le_self _ h⟩
theorem pow_le_50 (r : Nat) (h : r < 51) : (0 : Int) < 2 ^ r ∧ (2 : Int) ^ r ≤ 1125899906842624 := by
  refine ⟨pow_pos' (by omega) r, ?_⟩
  have h1 : (2 : Nat) ^ r ≤ 2 ^ 50 := Nat.pow_le_pow_right (by omega) (by omega)
  have h2 : ((2 ^ r : Nat) : Int) = 2 ^ r := by simp
  have h3 : (2 : Nat) ^ 50 = 1125899906842624 := rfl
  omega
theorem from_isE (b : List Int) (hb : b.length = 32) (hd : Dig 256 (gi b) 32) : IsE (carriedL (fromN b 255)) (v32 b % H255) := by
  have hl := fromN_length b
  obtain ⟨N, hN⟩ : ∃ N, N = v32 b := ⟨_, rfl⟩
  have hbit : ∀ k, k < 255 → gi b (k / 8) / 2 ^ (k % 8) % 2 = N / 2 ^ k % 2 := by
    intro k hk
    rw [sumN_digit (by omega) hd (show k / 8 < 32 by omega), show sumN 256 (gi b) 32 = N from hN.symm]
    have := bit_of_digit N 8 (k / 8) (k % 8) (by omega)
    rw [show 8 * (k / 8) + k % 8 = k by omega] at this
    exact this
  have hs : ∀ k, k < 51 * 5 → 0 ≤ gi (fromN b k) (k / 51) → gi (fromN b k) (k / 51) < 2 ^ (k % 51) → fromN b (k + 1) = (fromN b k).set (k / 51) (gi (fromN b k) (k / 51) + N / 2 ^ k % 2 * 2 ^ (k % 51)) := by
    intro k hk h0 h1
    obtain ⟨d0, d1⟩ := hd (k / 8) (by omega)
    obtain ⟨q0, q1⟩ := ediv_pow_le d0 (k % 8)
    obtain ⟨p0, p1⟩ := pow_le_50 (k % 51) (by omega)
    have hβ : N / 2 ^ k % 2 = 0 ∨ N / 2 ^ k % 2 = 1 := by omega
    show (fromN b k).set (k / 51) _ = _
    rw [show ((k : Int).tmod 8).toNat = k % 8 from tmod_toNat k 8, show ((k : Int).tmod 51).toNat = k % 51 from tmod_toNat k 51, Nat.min_eq_left (by omega), Nat.min_eq_left (by omega), fdiv_pow, u8_bit q0 (by omega), hbit k (by omega)]
    generalize N / 2 ^ k % 2 = β at hβ ⊢
    have hm : 0 ≤ β * 2 ^ (k % 51) ∧ β * 2 ^ (k % 51) ≤ 1125899906842624 := by
      rcases hβ with h | h <;> rw [h] <;> omega
    rw [u64_in (x := β) (by omega) (by unfold M64; omega), u64_in (by omega) (by unfold M64; omega), u64_or_high (k % 51) h0 h1 (by omega) (by unfold M64; omega)]
  obtain ⟨f1, f2, f3, f4, f5⟩ := fill_bits51 (F := fromN b) (β := fun k => N / 2 ^ k % 2) hl (fun j => gi_rep 5 j) (fun k => by omega) hs 255 (by omega)
  have hg : AllG (fromN b 255) := allG_of (hl 255) fun i hi => by have := f1 i (by omega); omega
  refine carriedL_isE hg ?_
  rw [show v5 (fromN b 255) = sumN 2251799813685248 (gi (fromN b 255)) 5 from rfl, f5, bits_sum, hN]
  rfl
theorem small_isE (n : Int) (h0 : 0 ≤ n) (h1 : n < 4294967296) : IsE [n, 0, 0, 0, 0] n := by
  refine ⟨rfl, fun i hi => ?_, ?_⟩
  · match i, hi with
    | 0, _ => show 0 ≤ n ∧ n < 2251799813947392; omega
    | 1, _ | 2, _ | 3, _ | 4, _ => show (0 : Int) ≤ 0 ∧ (0 : Int) < 2251799813947392; omega
  · rw [v5_eq]
    show (n + 0 * 2251799813685248 + 0 * 5070602400912917605986812821504 + 0 * 11417981541647679048466287755595961091061972992 + 0 * 25711008708143844408671393477458601640355247900524685364822016) % PP = _
    congr 1
    omega

/-- A row that is changed from the lowest on. -/
theorem fill_upd {R : Nat → List Int} {a : List Int} {f : Nat → Int} {n : Nat} (hl : ∀ k, (R k).length = n) (h0 : R 0 = a) (hs : ∀ k, k < n → gi (R k) k = gi a k → R (k + 1) = (R k).set k (f k)) : ∀ k, k ≤ n → (∀ i, i < k → gi (R k) i = f i) ∧ (∀ i, k ≤ i → gi (R k) i = gi a i)
  | 0, _ => ⟨fun i hi => by omega, fun i _ => by rw [h0]⟩
  | k + 1, hk => by
    obtain ⟨h1, h2⟩ := fill_upd hl h0 hs k (by omega)
    have e := hs k (by omega) (h2 k (Nat.le_refl k))
    refine ⟨fun i hi => ?_, fun i hi => ?_⟩
    · rw [e]
      by_cases h : i = k
      · subst h
        rw [gi_same _ _ _ (by rw [hl]; omega)]
      · rw [gi_upd _ _ _ _ h]
        exact h1 i (by omega)
    · rw [e, gi_upd _ _ _ _ (by omega)]
      exact h2 i (by omega)
theorem add_isE {a b : List Int} {v w : Int} (ha : IsE a v) (hb : IsE b w) : IsE (carriedL (addN a b 5)) (v + w) := by
  have hl := addN_length a b ha.1
  obtain ⟨hf, _⟩ := fill_upd (R := addN a b) (a := a) (f := fun k => gi a k + gi b k) hl rfl (fun k hk he => by
    obtain ⟨a1, a2⟩ := ha.2.1 k hk
    obtain ⟨b1, b2⟩ := hb.2.1 k hk
    show (addN a b k).set k (IntKind.u64.wrap (gi (addN a b k) k + gi b k)) = _
    rw [he, u64_in (by omega) (by unfold M64; omega)]) 5 (by omega)
  refine carriedL_isE (allG_of (hl 5) fun i hi => ?_) ?_
  · obtain ⟨a1, a2⟩ := ha.2.1 i hi
    obtain ⟨b1, b2⟩ := hb.2.1 i hi
    rw [hf i hi]
    omega
  · have : v5 (addN a b 5) = v5 a + v5 b := by
      unfold v5
      rw [sumN_congr hf, sumN_add]
    rw [this, Int.add_emod, ha.2.2, hb.2.2, ← Int.add_emod]
theorem sub_isE {a b : List Int} {v w : Int} (ha : IsE a v) (hb : IsE b w) : IsE (carriedL ((subN a b 5).set 0 (IntKind.u64.wrap (gi (subN a b 5) 0 - 72)))) (v - w) := by
  have hl := subN_length a b ha.1
  obtain ⟨hf, _⟩ := fill_upd (R := subN a b) (a := a) (f := fun k => gi a k - gi b k + 9007199254740988) hl rfl (fun k hk he => by
    obtain ⟨a1, a2⟩ := ha.2.1 k hk
    obtain ⟨b1, b2⟩ := hb.2.1 k hk
    show (subN a b k).set k (IntKind.u64.wrap (gi (subN a b k) k + IntKind.u64.wrap (9007199254740988 - gi b k))) = _
    rw [he, u64_in (x := 9007199254740988 - gi b k) (by omega) (by unfold M64; omega), u64_in (by omega) (by unfold M64; omega), show gi a k + (9007199254740988 - gi b k) = gi a k - gi b k + 9007199254740988 by omega]) 5 (by omega)
  have h0 := hf 0 (by omega)
  have a0 := ha.2.1 0 (by omega)
  have b0 := hb.2.1 0 (by omega)
  rw [u64_in (x := gi (subN a b 5) 0 - 72) (by omega) (by unfold M64; omega)]
  refine carriedL_isE (allG_of (by simp [hl]) fun i hi => ?_) ?_
  · obtain ⟨a1, a2⟩ := ha.2.1 i hi
    obtain ⟨b1, b2⟩ := hb.2.1 i hi
    have := hf i hi
    by_cases h : i = 0
    · subst h
      rw [gi_same _ _ _ (by rw [hl]; omega)]
      omega
    · rw [gi_upd _ _ _ _ h]
      omega
  · have h1 : sumN 2251799813685248 (gi (subN a b 5)) 5 = v5 a - v5 b + 231584178474632390847141970017375815706539969331281128078915168015826259279868 := by
      rw [sumN_congr hf, sumN_add 2251799813685248 (fun i => gi a i - gi b i) (fun _ => 9007199254740988), sumN_sub]
      rfl
    have : v5 ((subN a b 5).set 0 (gi (subN a b 5) 0 - 72)) = v5 a - v5 b + 4 * PP := by
      unfold v5
      rw [sumN_set (by omega) (by rw [hl]; omega), h1]
      simp only [Int.pow_zero, v5]
      unfold PP
      omega
    rw [modP this, Int.sub_emod, ha.2.2, hb.2.2, ← Int.sub_emod]

end Go.Proofs.Ytmchkfganpgheaa
