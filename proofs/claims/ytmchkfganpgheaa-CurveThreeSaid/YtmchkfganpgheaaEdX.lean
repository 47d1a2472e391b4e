/-
  What two share, and three, is the same for all: the laws' maths. Plain maths, no conditions.
-/
import Derived.Test.YtmchkfganpgheaaEdL
import Derived.Test.YtmchkfganpgheaaAwk
namespace Go.Proofs.Ytmchkfganpgheaa
set_option linter.unusedSimpArgs false
set_option linter.unusedVariables false
open Go Go.RowKit
namespace Ed
open Low

theorem v32_le (v : Int) : v32 (le32 (v % PP)) % H255 = v % PP := by
  have h := (le32_p v).2.2
  have hp := pp_range v
  rw [show v32 (le32 (v % PP)) = v % PP from h]
  exact Int.emod_eq_of_lt hp.1 (Int.lt_trans hp.2.1 (by decide))
theorem le_ok (v : Int) : Bytes32 (le32 (v % PP)) := ⟨(le32_p v).1, (le32_p v).2.1⟩
theorem shX_ok (a b : List Int) : Bytes32 (shX a b) := by unfold shX; exact le_ok _
theorem pub_ok (k : List Int) : Bytes32 (le32 (pubV k)) := by unfold pubV; exact le_ok _
/-- A key's number. -/
@[irreducible] def kN (k : List Int) : Nat := numN (clampL k) 255
/-- These bytes are the number of this point. -/
structure IsP (b : List Int) (R : Pt) : Prop where
  e : toF (v32 b % H255) = uu R
theorem isP_le {z : Int} {R : Pt} (h : toF z = uu R) : IsP (le32 (z % PP)) R := ⟨by rw [v32_le, toF_mod, h]⟩
theorem isP_9 : IsP base9 P0 := ⟨by rw [base9_num]; exact uu9⟩
theorem isP_X {k b : List Int} {R : Pt} (hk : Byt (clampL k)) (h : IsP b R) : IsP (shX k b) (mul (kN k) R) := by
  unfold shX kN
  exact isP_le (X_uu hk h.e)
theorem isP_pub {k : List Int} (hk : Byt (clampL k)) : IsP (le32 (pubV k)) (mul (kN k) P0) := by
  unfold pubV kN
  exact isP_le (X_uu hk (by rw [base9_num]; exact uu9))
theorem shX_is {k b : List Int} {R : Pt} (hk : Byt (clampL k)) (h : IsP b R) : shX k b = le32 ((uu (mul (kN k) R)).val : Int) := by
  unfold shX kN
  rw [← X_uu hk h.e, toF_val]
/-- Two share the same. -/
theorem both_eq {a b : List Int} (ha : Byt (clampL a)) (hb : Byt (clampL b)) : shX a (le32 (pubV b)) = shX b (le32 (pubV a)) := by
  rw [shX_is ha (isP_pub hb), shX_is hb (isP_pub ha), mul_mul', mul_mul', Nat.mul_comm]
theorem three_eq {a b c : List Int} (ha : Byt (clampL a)) (hb : Byt (clampL b)) (hc : Byt (clampL c)) : shX a (shX b (le32 (pubV c))) = shX b (shX c (le32 (pubV a))) := by
  rw [shX_is ha (isP_X hb (isP_pub hc)), shX_is hb (isP_X hc (isP_pub ha)), mul_mul', mul_mul', mul_mul', mul_mul', show kN c * (kN b * kN a) = kN a * (kN c * kN b) by rw [← Nat.mul_assoc, Nat.mul_comm]]
theorem bitE_hi {K : List Int} (hK : Byt K) (h : gi K 31 / 64 = 1) : bitE K 0 = 1 := by
  have hb := hK 31
  unfold bitE
  rw [show (254 - 0) / 8 = 31 from rfl, show (2 : Int) ^ min (((254 : Int) - ((0 : Nat) : Int)).tmod 8).toNat IntKind.u8.bits = 64 from by decide, Int.fdiv_eq_ediv_of_nonneg _ (by omega), u8_bit (by omega) (by omega)]
  omega
theorem bitE_2 {K : List Int} (hK : Byt K) (h : gi K 0 % 8 = 0) : bitE K 252 = 0 := by
  have hb := hK 0
  unfold bitE
  rw [show (254 - 252) / 8 = 0 from rfl, show (2 : Int) ^ min (((254 : Int) - ((252 : Nat) : Int)).tmod 8).toNat IntKind.u8.bits = 4 from by decide, Int.fdiv_eq_ediv_of_nonneg _ (by omega), u8_bit (by omega) (by omega)]
  omega
theorem kN_l {k : List Int} (hk : Bytes32 k) (hb : Byt (clampL k)) : ¬ kN k % lN = 0 := by
  have h0 := clampL_0 hk.1 (hk.2 0 (by omega))
  have h31 := clampL_31 hk.1 (hk.2 31 (by omega))
  have hl := bitE_low hb h0
  obtain ⟨n, hn, h1, h2⟩ := num_clamp hb (bitE_2 hb h0) hl.2 hl.1 (bitE_hi hb h31)
  unfold kN
  rw [hn]
  exact l_ne h1 h2
theorem both_ok {a b : List Int} (ha : Bytes32 a) (hb : Bytes32 b) (ka : Byt (clampL a)) (kb : Byt (clampL b)) : shN a (le32 (pubV b)) = 0 := by
  unfold shN
  rw [if_neg]
  intro h
  have h1 := (isP_X ka (isP_pub kb)).e
  rw [h, show v32 (List.replicate 32 0) % H255 = 0 by decide +kernel, toF_0, mul_mul'] at h1
  exact both_ne (kN_l hb kb) (kN_l ha ka) h1.symm
end Ed
end Go.Proofs.Ytmchkfganpgheaa

