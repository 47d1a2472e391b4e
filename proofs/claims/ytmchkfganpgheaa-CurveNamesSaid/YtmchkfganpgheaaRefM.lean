/-
  The document's numbers: what is carried keeps the number modulo p, and has digits again.
-/
import Derived.Test.YtmchkfganpgheaaRefA
import Derived.Test.YtmchkfganpgheaaBitm
namespace Go.Proofs.Ytmchkfganpgheaa
set_option linter.unusedSimpArgs false
set_option linter.unusedVariables false
open Go Go.RowKit

/-- 2^255 - 19. -/
def PP : Int := 57896044618658097711785492504343953926634992332820282019728792003956564819949
def Q256 : Int := 115792089237316195423570985008687907853269984665640564039457584007913129639936
def v16 (x : List Int) : Int := sumN 65536 (gi x) 16
theorem q256 : (65536 : Int) ^ 16 = Q256 := by decide
theorem rcarN_spec (x : List Int) (hx : x.length = 16) (hb : ∀ i, i < 16 → -35184372088832 < gi x i ∧ gi x i < 35184372088832) : ∀ k, k ≤ 16 →
    (∀ i, i < k → 0 ≤ gi (rcarN x k).1 i ∧ gi (rcarN x k).1 i < 65536) ∧ (∀ i, k ≤ i → gi (rcarN x k).1 i = gi x i) ∧
    -1073741824 < (rcarN x k).2 ∧ (rcarN x k).2 < 1073741824 ∧ sumN 65536 (gi (rcarN x k).1) 16 + (rcarN x k).2 * 65536 ^ k = v16 x
  | 0, _ => ⟨fun i hi => by omega, fun i _ => rfl, by simp [rcarN], by simp [rcarN], by simp [rcarN, v16]⟩
  | k + 1, hk => by
    obtain ⟨h1, h2, h3, h4, h5⟩ := rcarN_spec x hx hb k (by omega)
    have hl := rcarN_length x hx k
    have h6 := h2 k (Nat.le_refl k)
    obtain ⟨b1, b2⟩ := hb k (by omega)
    obtain ⟨v, hv⟩ : ∃ v, v = gi x k + (rcarN x k).2 := ⟨_, rfl⟩
    have hw : wrap64 (gi (rcarN x k).1 k + (rcarN x k).2) = v := by rw [h6, hv]; exact wrap64_in (by omega) (by omega)
    have e1 : (rcarN x (k + 1)).1 = (rcarN x k).1.set k (v % 65536) := by
      simp only [rcarN]
      rw [hw, i64_mask16]
    have e2 : (rcarN x (k + 1)).2 = v / 65536 := by
      simp only [rcarN]
      rw [hw]
    refine ⟨fun i hi => ?_, fun i hi => ?_, by rw [e2]; omega, by rw [e2]; omega, ?_⟩
    · rw [e1]
      by_cases hik : i = k
      · subst hik
        rw [gi_same _ _ _ (by omega)]
        omega
      · rw [gi_upd _ _ _ _ hik]
        exact h1 i (by omega)
    · rw [e1, gi_upd _ _ _ _ (by omega)]
      exact h2 i (by omega)
    · rw [e1, e2, sumN_set (by omega) (by omega), ← h5, h6, Int.pow_succ, Int.mul_comm (65536 ^ k) 65536, ← Int.mul_assoc]
      have hs : v % 65536 - gi x k + v / 65536 * 65536 = (rcarN x k).2 := by omega
      rw [← hs, Int.add_mul]
      omega

/-- A round: the number, less what counts 38 times. -/
theorem rcarR_round (x : List Int) (r : Nat) (hx : x.length = 16) (hb : ∀ i, i < 16 → -35184372088832 < gi (rcarR x r) i ∧ gi (rcarR x r) i < 35184372088832) :
    ∃ c v, 0 ≤ v ∧ v < Q256 ∧ -1073741824 < c ∧ c < 1073741824 ∧ v16 (rcarR x r) = v + c * Q256 ∧ v16 (rcarR x (r + 1)) = v + 38 * c ∧ (∀ i, i < 16 → i ≠ 0 → 0 ≤ gi (rcarR x (r + 1)) i ∧ gi (rcarR x (r + 1)) i < 65536) ∧
      38 * c ≤ gi (rcarR x (r + 1)) 0 ∧ gi (rcarR x (r + 1)) 0 < 65536 + 38 * c := by
  have hl := rcarR_length x hx r
  obtain ⟨h1, h2, h3, h4, h5⟩ := rcarN_spec (rcarR x r) hl hb 16 (by omega)
  have hl2 := rcarN_length (rcarR x r) hl 16
  obtain ⟨d1, d2⟩ := sumN_bound (B := 65536) (by omega) (show Dig 65536 (gi (rcarN (rcarR x r) 16).1) 16 from h1)
  obtain ⟨g1, g2⟩ := h1 0 (by omega)
  have e : rcarR x (r + 1) = (rcarN (rcarR x r) 16).1.set 0 (gi (rcarN (rcarR x r) 16).1 0 + 38 * (rcarN (rcarR x r) 16).2) := by
    show (rcarN (rcarR x r) 16).1.set 0 (wrap64 (gi (rcarN (rcarR x r) 16).1 0 + wrap64 (38 * (rcarN (rcarR x r) 16).2))) = _
    rw [wrap64_in (x := 38 * (rcarN (rcarR x r) 16).2) (by omega) (by omega), wrap64_in (by omega) (by omega)]
  rw [q256] at h5 d2
  refine ⟨(rcarN (rcarR x r) 16).2, sumN 65536 (gi (rcarN (rcarR x r) 16).1) 16, d1, d2, h3, h4, h5.symm, ?_, fun i hi h0 => ?_, ?_, ?_⟩
  · unfold v16
    rw [e, sumN_set (by omega) (by omega)]
    simp only [Int.pow_zero, Int.mul_one]
    omega
  · rw [e, gi_upd _ _ _ _ h0]
    exact h1 i hi
  · rw [e, gi_same _ _ _ (by omega)]
    omega
  · rw [e, gi_same _ _ _ (by omega)]
    omega

/-- What is carried: digits, of the same number modulo 2^256 - 38. -/
theorem rcarR_spec (x : List Int) (hx : x.length = 16) (hb : ∀ i, i < 16 → -35184372088832 < gi x i ∧ gi x i < 35184372088832) :
    Dig 65536 (gi (rcarR x 4)) 16 ∧ ∃ c, v16 (rcarR x 4) = v16 x - c * (Q256 - 38) := by
  obtain ⟨c1, v1, a1, a2, a3, a4, a5, a6, a7, a8, a9⟩ := rcarR_round x 0 hx hb
  have hb' : ∀ {r c}, -1073741824 < c → c < 1073741824 → (∀ i, i < 16 → i ≠ 0 → 0 ≤ gi (rcarR x (r + 1)) i ∧ gi (rcarR x (r + 1)) i < 65536) → 38 * c ≤ gi (rcarR x (r + 1)) 0 → gi (rcarR x (r + 1)) 0 < 65536 + 38 * c →
      ∀ i, i < 16 → -35184372088832 < gi (rcarR x (r + 1)) i ∧ gi (rcarR x (r + 1)) i < 35184372088832 := by
    intro r c h1 h2 h3 h4 h5 i hi
    by_cases h0 : i = 0
    · subst h0
      omega
    · have := h3 i hi h0
      omega
  obtain ⟨c2, v2, b1, b2, b3, b4, b5, b6, b7, b8, b9⟩ := rcarR_round x 1 hx (hb' a3 a4 a7 a8 a9)
  obtain ⟨c3, v3, d1, d2, d3, d4, d5, d6, d7, d8, d9⟩ := rcarR_round x 2 hx (hb' b3 b4 b7 b8 b9)
  obtain ⟨c4, v4, e1, e2, e3, e4, e5, e6, e7, e8, e9⟩ := rcarR_round x 3 hx (hb' d3 d4 d7 d8 d9)
  simp only [Nat.reduceAdd] at a6 b5 b6 d5 d6 e5 e6 e7 e8 e9
  have h0 : v16 (rcarR x 0) = v16 x := rfl
  rw [h0] at a5
  unfold Q256 at *
  have g3 : c3 = 0 := by omega
  subst g3
  have g4 : c4 = 0 := by omega
  subst g4
  refine ⟨fun i hi => ?_, c1 + c2, by omega⟩
  by_cases h0 : i = 0
  · subst h0
    omega
  · exact e7 i hi h0

end Go.Proofs.Ytmchkfganpgheaa
