/-
  The points of low order: the ladder's numbers. Plain maths, no conditions.
-/
import Derived.Test.YtmchkfganpgheaaCurveB
import Derived.Laws.BitsAllLaws
namespace Go.Proofs.Ytmchkfganpgheaa
set_option linter.unusedSimpArgs false
set_option linter.unusedVariables false
open Go Go.RowKit

theorem low_dblA {P x z : Int} (h : P ∣ x * x - z * z) (t : Int) : P ∣ (x + z) * (x + z) * ((x - z) * (x - z)) * t := by
  have e : (x + z) * (x + z) * ((x - z) * (x - z)) * t = (x * x - z * z) * ((x * x - z * z) * t) := by grind
  rw [e]
  exact Int.dvd_trans h (Int.dvd_mul_right _ _)
theorem low_dblB {P x z : Int} (h : P ∣ x * z) (t : Int) : P ∣ ((x + z) * (x + z) - (x - z) * (x - z)) * t := by
  have e : ((x + z) * (x + z) - (x - z) * (x - z)) * t = (x * z) * (4 * t) := by grind
  rw [e]
  exact Int.dvd_trans h (Int.dvd_mul_right _ _)
theorem low_sum4 (a b U : Int) : (a + b) * (a + b) * ((a + b) * (a + b)) - U * ((a - b) * (a - b)) * (U * ((a - b) * (a - b))) =
    a * b * (4 * ((a + b) * (a + b) + (a - b) * (a - b))) - (U * U - 1) * ((a - b) * (a - b) * ((a - b) * (a - b))) := by grind
theorem low_sumA {P x z q r U : Int} (hU : P ∣ U * U - 1) (h : P ∣ x * x - z * z ∨ P ∣ q * q - r * r) :
    P ∣ ((q - r) * (x + z) + (q + r) * (x - z)) * ((q - r) * (x + z) + (q + r) * (x - z)) * (((q - r) * (x + z) + (q + r) * (x - z)) * ((q - r) * (x + z) + (q + r) * (x - z)))
      - U * (((q - r) * (x + z) - (q + r) * (x - z)) * ((q - r) * (x + z) - (q + r) * (x - z))) * (U * (((q - r) * (x + z) - (q + r) * (x - z)) * ((q - r) * (x + z) - (q + r) * (x - z)))) := by
  have e : (q - r) * (x + z) * ((q + r) * (x - z)) = (q * q - r * r) * (x * x - z * z) := by grind
  have hab : P ∣ (q - r) * (x + z) * ((q + r) * (x - z)) := by
    rw [e]
    rcases h with h | h
    · exact Int.dvd_trans h (Int.dvd_mul_left _ _)
    · exact Int.dvd_trans h (Int.dvd_mul_right _ _)
  rw [low_sum4]
  exact Int.dvd_sub (Int.dvd_trans hab (Int.dvd_mul_right _ _)) (Int.dvd_trans hU (Int.dvd_mul_right _ _))

/-- What the ladder keeps when U's square is one: the doubled point has x * z = 0, the other x^2 = z^2. -/
structure LowA (v : VS) : Prop where
  p : PP ∣ v.px * v.pz
  q : PP ∣ v.qx * v.qz ∨ PP ∣ v.qx * v.qx - v.qz * v.qz
theorem vStep_px (U px pz qx qz bt : Int) : (vStep U px pz qx qz bt).px = (px + pz) * (px + pz) * ((px - pz) * (px - pz)) := by unfold vStep; rfl
theorem vStep_pz (U px pz qx qz bt : Int) : (vStep U px pz qx qz bt).pz = ((px + pz) * (px + pz) - (px - pz) * (px - pz)) * ((px + pz) * (px + pz) + 121665 * ((px + pz) * (px + pz) - (px - pz) * (px - pz))) := by unfold vStep; rfl
theorem vStep_qx (U px pz qx qz bt : Int) : (vStep U px pz qx qz bt).qx = ((qx - qz) * (px + pz) + (qx + qz) * (px - pz)) * ((qx - qz) * (px + pz) + (qx + qz) * (px - pz)) := by unfold vStep; rfl
theorem vStep_qz (U px pz qx qz bt : Int) : (vStep U px pz qx qz bt).qz = U * (((qx - qz) * (px + pz) - (qx + qz) * (px - pz)) * ((qx - qz) * (px + pz) - (qx + qz) * (px - pz))) := by unfold vStep; rfl

/-- A doubled point of low order has x * z = 0. -/
theorem low_p {px pz : Int} (U qx qz bt : Int) (h : PP ∣ px * pz ∨ PP ∣ px * px - pz * pz) : PP ∣ (vStep U px pz qx qz bt).px * (vStep U px pz qx qz bt).pz := by
  rw [vStep_px, vStep_pz]
  rcases h with h | h
  · exact Int.dvd_trans (low_dblB h _) (Int.dvd_mul_left _ _)
  · exact low_dblA h _
/-- Doubled once more, it has z = 0. -/
theorem low_pz {px pz : Int} (U qx qz bt : Int) (h : PP ∣ px * pz) : PP ∣ (vStep U px pz qx qz bt).pz := by
  rw [vStep_pz]
  exact low_dblB h _

/-- U * U = 1. -/
theorem low_q1 {U px pz qx qz : Int} (bt : Int) (hU : PP ∣ U * U - 1) (h : PP ∣ px * px - pz * pz ∨ PP ∣ qx * qx - qz * qz) : PP ∣ (vStep U px pz qx qz bt).qx * (vStep U px pz qx qz bt).qx - (vStep U px pz qx qz bt).qz * (vStep U px pz qx qz bt).qz := by
  rw [vStep_qx, vStep_qz]
  exact low_sumA hU h
theorem low_one {K : List Int} {U : Int} (hU : PP ∣ U * U - 1) : ∀ k, PP ∣ (vI K U k).px * (vI K U k).pz ∧ PP ∣ (vI K U k).qx * (vI K U k).qx - (vI K U k).qz * (vI K U k).qz
  | 0 => by
    rw [vI_0]
    exact ⟨Int.dvd_zero _, hU⟩
  | k + 1 => by
    have h := low_one hU k (K := K)
    rw [vI_s]
    split
    · exact ⟨low_p _ _ _ _ (.inl h.1), low_q1 _ hU (.inr h.2)⟩
    · exact ⟨low_p _ _ _ _ (.inr h.2), low_q1 _ hU (.inl h.2)⟩
/-- U = 0. -/
theorem low_nil {K : List Int} {U : Int} (hU : PP ∣ U) : ∀ k, PP ∣ (vI K U k).px * (vI K U k).pz ∧ PP ∣ (vI K U k).qx * (vI K U k).qz
  | 0 => by
    rw [vI_0]
    refine ⟨Int.dvd_zero _, ?_⟩
    show PP ∣ U * 1
    rw [Int.mul_one]
    exact hU
  | k + 1 => by
    have h := low_nil hU k (K := K)
    have hq : ∀ px pz qx qz bt, PP ∣ (vStep U px pz qx qz bt).qx * (vStep U px pz qx qz bt).qz := fun px pz qx qz bt => by
      rw [vStep_qz]
      exact Int.dvd_trans (Int.dvd_trans hU (Int.dvd_mul_right _ _)) (Int.dvd_mul_left _ _)
    rw [vI_s]
    split
    · exact ⟨low_p _ _ _ _ (.inl h.1), hq _ _ _ _ _⟩
    · exact ⟨low_p _ _ _ _ (.inl h.2), hq _ _ _ _ _⟩

theorem invV_dvd1 {v : Int} (h : PP ∣ v) : ∀ k, PP ∣ invV v (k + 1)
  | 0 => by
    have e : invV v (0 + 1) = 1 * 1 * v := if_neg (by decide)
    rw [e]
    exact Int.dvd_trans h (Int.dvd_mul_left _ _)
  | k + 1 => by
    have ih := invV_dvd1 h k
    have e : invV v (k + 1 + 1) = if k + 1 = 252 ∨ k + 1 = 250 then invV v (k + 1) * invV v (k + 1) else invV v (k + 1) * invV v (k + 1) * v := rfl
    rw [e]
    split
    · exact Int.dvd_trans ih (Int.dvd_mul_right _ _)
    · exact Int.dvd_trans h (Int.dvd_mul_left _ _)
theorem invV_dvd {v : Int} (h : PP ∣ v) : PP ∣ invV v 255 := invV_dvd1 h 254

/-- The last two bits of a key's number are none: the ladder ends at z = 0. -/
theorem low_end {K : List Int} {U : Int} (h4 : bitE K 254 = 0) (h3 : bitE K 253 = 0)
    (h : (PP ∣ (vI K U 254).px * (vI K U 254).pz)) : PP ∣ vX K U := by
  have hl : (vI K U 254).last = 0 := by
    rw [show (254 : Nat) = 253 + 1 from rfl, vI_s]
    split <;> rw [vStep_last] <;> exact h3
  have h5 : (vI K U 255).last = 0 ∧ PP ∣ (vI K U 255).pz := by
    rw [show (255 : Nat) = 254 + 1 from rfl, vI_s, if_pos (by rw [h4, hl])]
    exact ⟨by rw [vStep_last]; exact h4, low_pz _ _ _ _ h⟩
  rw [vX, if_pos h5.1]
  exact Int.dvd_trans (invV_dvd h5.2) (Int.dvd_mul_left _ _)
theorem low_X {K : List Int} {U : Int} (h4 : bitE K 254 = 0) (h3 : bitE K 253 = 0) (hU : PP ∣ U ∨ PP ∣ U * U - 1) : vX K U % PP = 0 := by
  refine Int.emod_eq_zero_of_dvd (low_end h4 h3 ?_)
  rcases hU with h | h
  · exact (low_nil h 254).1
  · exact (low_one h 254).1

theorem clamp_low : ∀ n, n < 256 → (n &&& 248) % 8 = 0 := by decide +kernel
theorem clampL_0 {k : List Int} (hl : k.length = 32) (h : 0 ≤ gi k 0 ∧ gi k 0 < 256) : gi (clampL k) 0 % 8 = 0 := by
  have e : gi (clampL k) 0 = bits .and .u8 (gi k 0) 248 := by
    unfold clampL gi
    rw [List.getD_eq_getElem?_getD, List.getElem?_set_ne (by omega), List.getElem?_set_self (by omega)]
    rfl
  rw [e]
  obtain ⟨n, hn⟩ := Int.eq_ofNat_of_zero_le h.1
  rw [hn] at h ⊢
  rw [show (248 : Int) = ((248 : Nat) : Int) from rfl, u8_and_nat n 248 (by omega) (by omega)]
  have := clamp_low n (by omega)
  omega
theorem bitE_low {K : List Int} (hK : Byt K) (h : gi K 0 % 8 = 0) : bitE K 254 = 0 ∧ bitE K 253 = 0 := by
  have hb := hK 0
  constructor
  · unfold bitE
    rw [show (254 - 254) / 8 = 0 from rfl, show (2 : Int) ^ min (((254 : Int) - ((254 : Nat) : Int)).tmod 8).toNat IntKind.u8.bits = 1 from by decide, Int.fdiv_eq_ediv_of_nonneg _ (by omega), u8_bit (by omega) (by omega)]
    omega
  · unfold bitE
    rw [show (254 - 253) / 8 = 0 from rfl, show (2 : Int) ^ min (((254 : Int) - ((253 : Nat) : Int)).tmod 8).toNat IntKind.u8.bits = 2 from by decide, Int.fdiv_eq_ediv_of_nonneg _ (by omega), u8_bit (by omega) (by omega)]
    omega
/-- A point of low order, times any key: zero. -/
theorem low_zero {k : List Int} {U : Int} (hl : k.length = 32) (h : 0 ≤ gi k 0 ∧ gi k 0 < 256) (hK : Byt (clampL k)) (hU : PP ∣ U ∨ PP ∣ U * U - 1) : vX (clampL k) U % PP = 0 :=
  have b := bitE_low hK (clampL_0 hl h)
  low_X b.1 b.2 hU

end Go.Proofs.Ytmchkfganpgheaa
