/-
  The document's numbers, on: products and powers, modulo p.
-/
import Derived.Test.YtmchkfganpgheaaRefN
namespace Go.Proofs.Ytmchkfganpgheaa
set_option linter.unusedSimpArgs false
set_option linter.unusedVariables false
open Go Go.RowKit

theorem mul_bound {x y : Int} (hx : 0 ≤ x ∧ x < 65536) (hy : 0 ≤ y ∧ y < 65536) : 0 ≤ x * y ∧ x * y ≤ 4294836225 := by
  refine ⟨Int.mul_nonneg hx.1 hy.1, ?_⟩
  have h1 : x * y ≤ 65535 * y := Int.mul_le_mul_of_nonneg_right (by omega) hy.1
  omega
theorem rmI_spec {a b r : List Int} {i : Nat} {M : Int} (ha : Dig 65536 (gi a) 16) (hb : Dig 65536 (gi b) 16) (hi : i < 16) (hr : r.length = 32) (hM : M ≤ 68719476736) (h0 : ∀ j, 0 ≤ gi r j ∧ gi r j ≤ M) : ∀ k, k ≤ 16 →
    (∀ j, 0 ≤ gi (rmI a b r i k) j ∧ gi (rmI a b r i k) j ≤ M + 4294836225) ∧ (∀ j, i + k ≤ j → gi (rmI a b r i k) j = gi r j) ∧
    sumN 65536 (gi (rmI a b r i k)) 32 = sumN 65536 (gi r) 32 + gi a i * 65536 ^ i * sumN 65536 (gi b) k
  | 0, _ => ⟨fun j => by have := h0 j; simp only [rmI]; omega, fun j _ => rfl, by simp [rmI, sumN]⟩
  | k + 1, hk => by
    obtain ⟨h1, h2, h3⟩ := rmI_spec ha hb hi hr hM h0 k (by omega)
    have hl := rmI_length a b r i hr k
    have hp := mul_bound (ha i hi) (hb k (by omega))
    have he := h2 (i + k) (Nat.le_refl _)
    have hr0 := h0 (i + k)
    have e : rmI a b r i (k + 1) = (rmI a b r i k).set (i + k) (gi r (i + k) + gi a i * gi b k) := by
      show (rmI a b r i k).set (i + k) (IntKind.i64.wrap (gi (rmI a b r i k) (i + k) + IntKind.i64.wrap (gi a i * gi b k))) = _
      rw [he, i64_in' (x := gi a i * gi b k) (by omega) (by omega), i64_in' (by omega) (by omega)]
    refine ⟨fun j => ?_, fun j hj => ?_, ?_⟩
    · rw [e]
      by_cases h : j = i + k
      · subst h
        rw [gi_same _ _ _ (by omega)]
        omega
      · rw [gi_upd _ _ _ _ h]
        exact h1 j
    · rw [e, gi_upd _ _ _ _ (by omega)]
      exact h2 j (by omega)
    · rw [e, sumN_set (by omega) (by omega), h3, he]
      simp only [sumN]
      rw [Int.mul_add, show gi r (i + k) + gi a i * gi b k - gi r (i + k) = gi a i * gi b k by omega, Int.pow_add,
        show gi a i * gi b k * (65536 ^ i * 65536 ^ k) = gi a i * 65536 ^ i * (gi b k * 65536 ^ k) by
          rw [Int.mul_assoc, Int.mul_assoc, ← Int.mul_assoc (gi b k), Int.mul_comm (gi b k) (65536 ^ i), Int.mul_assoc]]
      omega
theorem rmO_spec {a b : List Int} (ha : Dig 65536 (gi a) 16) (hb : Dig 65536 (gi b) 16) : ∀ i, i ≤ 16 →
    (∀ j, 0 ≤ gi (rmO a b i) j ∧ gi (rmO a b i) j ≤ 4294836225 * (i : Int)) ∧ sumN 65536 (gi (rmO a b i)) 32 = sumN 65536 (gi a) i * v16 b
  | 0, _ => ⟨fun j => by simp only [rmO]; rw [gi_rep]; omega, by simp only [rmO]; rw [sumN_zero _ _ _ (fun j _ => gi_rep 32 j)]; simp [sumN]⟩
  | i + 1, hi => by
    obtain ⟨h1, h2⟩ := rmO_spec ha hb i (by omega)
    obtain ⟨g1, _, g3⟩ := rmI_spec ha hb (show i < 16 by omega) (rmO_length a b i) (M := 4294836225 * (i : Int)) (by omega) h1 16 (by omega)
    refine ⟨fun j => ?_, ?_⟩
    · have := g1 j
      show 0 ≤ gi (rmI a b (rmO a b i) i 16) j ∧ gi (rmI a b (rmO a b i) i 16) j ≤ _
      omega
    · show sumN 65536 (gi (rmI a b (rmO a b i) i 16)) 32 = _
      rw [g3, h2]
      simp only [sumN]
      rw [Int.add_mul]
      rfl
theorem rmul_isN {a b : List Int} {v w : Int} (ha : IsN a v) (hb : IsN b w) : IsN (rmul a b) (v * w) := by
  obtain ⟨h1, h2⟩ := rmO_spec ha.2.1 hb.2.1 16 (by omega)
  rw [rmul_eq]
  obtain ⟨t, ht⟩ : ∃ t, t = rmO a b 16 := ⟨_, rfl⟩
  rw [← ht] at h1 h2 ⊢
  have hX := rmX_length t
  have hf : ∀ i, i < 16 → gi (rmX t 16) i = gi t i + 38 * gi t (16 + i) := by
    have := fill_gi (R := rmX t) (f := fun k => IntKind.i64.wrap (gi t k + IntKind.i64.wrap (38 * gi t (k + 16)))) hX (fun k _ => rfl) 16 (by omega)
    intro i hi
    have a1 := h1 i
    have a2 := h1 (16 + i)
    rw [this i hi, Nat.add_comm i 16, i64_in' (x := 38 * gi t (16 + i)) (by omega) (by omega), i64_in' (by omega) (by omega)]
  refine rcar_isN (hX 16) (fun i hi => ?_) ?_
  · have a1 := h1 i
    have a2 := h1 (16 + i)
    rw [hf i hi]
    omega
  · have e1 : v16 (rmX t 16) = sumN 65536 (gi t) 16 + 38 * sumN 65536 (fun i => gi t (16 + i)) 16 := by
      unfold v16
      rw [sumN_congr hf, sumN_add, sumN_mul]
    have e2 := sumN_high 65536 (gi t) 16 16
    rw [h2, q256] at e2
    have e3 : v16 (rmX t 16) = v16 a * v16 b + (-2 * sumN 65536 (fun i => gi t (16 + i)) 16) * PP := by
      rw [e1, show v16 a * v16 b = sumN 65536 (gi a) 16 * v16 b from rfl, e2]
      generalize sumN 65536 (fun i => gi t (16 + i)) 16 = z
      generalize sumN 65536 (gi t) 16 = y
      unfold Q256 PP
      omega
    rw [modP e3, Int.mul_emod, ha.2.2, hb.2.2, ← Int.mul_emod]

/-- The power, as a number. -/
def invV (v : Int) : Nat → Int
  | 0 => 1
  | k + 1 => if k = 252 ∨ k = 250 then invV v k * invV v k else invV v k * invV v k * v
theorem prime2_digits : ∀ i, i < 255 → ((gi (primeL.set 0 ((gi primeL 0 - 2) % 256)) (i / 8) / 2 ^ (i % 8)).tmod 2 = 1 ↔ ¬ (254 - i = 252 ∨ 254 - i = 250)) := by decide +kernel
theorem rinvT_iff (i : Nat) (hi : i < 255) : rinvT i ↔ ¬ (254 - i = 252 ∨ 254 - i = 250) := by
  unfold rinvT
  rw [prime2_eq, primeI_eq]
  exact prime2_digits i hi
theorem rinv_isN {a : List Int} {v : Int} (ha : IsN a v) : ∀ k, k ≤ 255 → IsN (rinvN a k) (invV v k)
  | 0, _ => rsmall_isN 1 (by omega) (by omega)
  | k + 1, hk => by
    have ih := rinv_isN ha k (by omega)
    have h := rinvT_iff (254 - k) (by omega)
    rw [show 254 - (254 - k) = k by omega] at h
    simp only [rinvN, invV]
    by_cases hc : k = 252 ∨ k = 250
    · rw [if_neg (fun ht => (h.1 ht) hc), if_pos hc]
      exact rmul_isN ih ih
    · rw [if_pos (h.2 hc), if_neg hc]
      exact rmul_isN (rmul_isN ih ih) ha

end Go.Proofs.Ytmchkfganpgheaa
