/-
  Keys whose first bytes are turned: what remains of r and s. Plain maths, no conditions.
-/
import Derived.Test.YtngbfamlhlhbmaaPolyS
namespace Go.Proofs.Ytngbfamlhlhbmaa
set_option linter.unusedSimpArgs false
set_option linter.unusedVariables false
open Go Go.RowKit
namespace Sp
@[irreducible] def zS (i : Nat) (L : List Int) : List Int := if i % 4 = 3 then L.set i (bits .and .u8 (gi L i) 240) else if i = 4 ∨ i = 8 ∨ i = 12 then L.set i (bits .and .u8 (gi L i) 3) else L.set i 0
@[irreducible] def cS (i : Nat) (L : List Int) : List Int := if i % 4 = 3 then L.set i (bits .xor .u8 (gi L i) 240) else if i = 4 ∨ i = 8 ∨ i = 12 then L.set i (bits .xor .u8 (gi L i) 3) else L
theorem zS_length (i : Nat) (L : List Int) : (zS i L).length = L.length := by unfold zS; split; simp; split <;> simp
theorem cS_length (i : Nat) (L : List Int) : (cS i L).length = L.length := by unfold cS; split; simp; split <;> simp
def zI' (K : List Int) : Nat → List Int
  | 0 => K
  | i + 1 => zS i (zI' K i)
@[irreducible] def zI (K : List Int) (i : Nat) : List Int := zI' K i
theorem zI_0 (K : List Int) : zI K 0 = K := by unfold zI; rfl
theorem zI_s (K : List Int) (i : Nat) : zI K (i + 1) = zS i (zI K i) := by unfold zI; rfl
theorem zI_length (K : List Int) : ∀ i, (zI K i).length = K.length
  | 0 => by rw [zI_0]
  | i + 1 => by rw [zI_s, zS_length, zI_length K i]
attribute [simp] zI_length
def cI' (K : List Int) : Nat → List Int
  | 0 => K
  | i + 1 => cS i (cI' K i)
@[irreducible] def cI (K : List Int) (i : Nat) : List Int := cI' K i
theorem cI_0 (K : List Int) : cI K 0 = K := by unfold cI; rfl
theorem cI_s (K : List Int) (i : Nat) : cI K (i + 1) = cS i (cI K i) := by unfold cI; rfl
theorem cI_length (K : List Int) : ∀ i, (cI K i).length = K.length
  | 0 => by rw [cI_0]
  | i + 1 => by rw [cI_s, cS_length, cI_length K i]
attribute [simp] cI_length
/-- What a byte turns to. -/
def zB (i : Nat) (x : Int) : Int := if i % 4 = 3 then bits .and .u8 x 240 else if i = 4 ∨ i = 8 ∨ i = 12 then bits .and .u8 x 3 else 0
def cB (i : Nat) (x : Int) : Int := if i % 4 = 3 then bits .xor .u8 x 240 else if i = 4 ∨ i = 8 ∨ i = 12 then bits .xor .u8 x 3 else x
theorem zS_eq (i : Nat) (L : List Int) : zS i L = L.set i (zB i (gi L i)) := by unfold zS zB; split; rfl; split <;> rfl
theorem cS_eq {i : Nat} {L : List Int} (h : i < L.length) : cS i L = L.set i (cB i (gi L i)) := by
  unfold cS cB
  split
  · rfl
  · split
    · rfl
    · refine ext_gi (by simp) fun j _ => ?_
      by_cases hj : j = i
      · subst hj; rw [gi_same _ _ _ h]
      · rw [gi_upd _ _ _ _ hj]
theorem zI_gi {K : List Int} (hK : K.length = 32) : ∀ n, n ≤ 16 → ∀ j, gi (zI K n) j = if j < n then zB j (gi K j) else gi K j
  | 0, _, j => by rw [zI_0]; simp
  | n + 1, hn, j => by
    have ih := zI_gi hK n (by omega)
    rw [zI_s, zS_eq, ih n, if_neg (by omega)]
    by_cases hj : j = n
    · subst hj; rw [gi_same _ _ _ (by simp; omega), if_pos (by omega)]
    · rw [gi_upd _ _ _ _ hj, ih j]
      by_cases h : j < n
      · rw [if_pos h, if_pos (by omega)]
      · rw [if_neg h, if_neg (by omega)]
theorem cI_gi {K : List Int} (hK : K.length = 32) : ∀ n, n ≤ 16 → ∀ j, gi (cI K n) j = if j < n then cB j (gi K j) else gi K j
  | 0, _, j => by rw [cI_0]; simp
  | n + 1, hn, j => by
    have ih := cI_gi hK n (by omega)
    rw [cI_s, cS_eq (by simp; omega), ih n, if_neg (by omega)]
    by_cases hj : j = n
    · subst hj; rw [gi_same _ _ _ (by simp; omega), if_pos (by omega)]
    · rw [gi_upd _ _ _ _ hj, ih j]
      by_cases h : j < n
      · rw [if_pos h, if_pos (by omega)]
      · rw [if_neg h, if_neg (by omega)]
theorem zB_ok : ∀ i, i < 16 → ∀ n : Nat, n < 256 → (0 ≤ zB i (n : Int) ∧ zB i (n : Int) < 256) ∧ clB (zB i (n : Int)) i = 0 := by decide +kernel
theorem cB_ok : ∀ i, i < 16 → ∀ n : Nat, n < 256 → (0 ≤ cB i (n : Int) ∧ cB i (n : Int) < 256) ∧ clB (cB i (n : Int)) i = clB (n : Int) i := by decide +kernel
theorem byte_nat {x : Int} (h : 0 ≤ x ∧ x < 256) : ∃ n : Nat, x = (n : Int) ∧ n < 256 := by
  obtain ⟨n, hn⟩ := Int.eq_ofNat_of_zero_le h.1
  exact ⟨n, hn, by omega⟩
theorem zI_byts {K : List Int} (hl : K.length = 32) (hK : Byts K) : Byts (zI K 16) := fun j => by
  rw [zI_gi hl 16 (Nat.le_refl _)]
  split
  · rename_i h
    obtain ⟨n, hn, hlt⟩ := byte_nat (hK j)
    rw [hn]; exact (zB_ok j h n hlt).1
  · exact hK j
theorem cI_byts {K : List Int} (hl : K.length = 32) (hK : Byts K) : Byts (cI K 16) := fun j => by
  rw [cI_gi hl 16 (Nat.le_refl _)]
  split
  · rename_i h
    obtain ⟨n, hn, hlt⟩ := byte_nat (hK j)
    rw [hn]; exact (cB_ok j h n hlt).1
  · exact hK j
theorem zI_sV {K : List Int} (hl : K.length = 32) : sV (zI K 16) = sV K := sumN_congr fun i _ => by rw [zI_gi hl 16 (Nat.le_refl _), if_neg (by omega)]
theorem cI_sV {K : List Int} (hl : K.length = 32) : sV (cI K 16) = sV K := sumN_congr fun i _ => by rw [cI_gi hl 16 (Nat.le_refl _), if_neg (by omega)]
theorem zI_rV {K : List Int} (hl : K.length = 32) (hK : Byts K) : rV (zI K 16) = 0 := sumN_zero _ _ _ fun i hi => by
  rw [zI_gi hl 16 (Nat.le_refl _), if_pos hi]
  obtain ⟨n, hn, hlt⟩ := byte_nat (hK i)
  rw [hn]; exact (zB_ok i hi n hlt).2
theorem cI_rV {K : List Int} (hl : K.length = 32) (hK : Byts K) : rV (cI K 16) = rV K := sumN_congr fun i hi => by
  show clB (gi (cI K 16) i) i = clB (gi K i) i
  rw [cI_gi hl 16 (Nat.le_refl _), if_pos hi]
  obtain ⟨n, hn, hlt⟩ := byte_nat (hK i)
  rw [hn]; exact (cB_ok i hi n hlt).2
theorem hm_zero {K : List Int} (B : List Int) (h : rV K = 0) : ∀ j, Hm K B j = 0
  | 0 => rfl
  | j + 1 => by unfold Hm; rw [h, Int.mul_zero]; rfl
theorem hm_same {K L : List Int} (B : List Int) (h : rV K = rV L) : ∀ j, Hm K B j = Hm L B j
  | 0 => rfl
  | j + 1 => by unfold Hm; rw [hm_same B h j, h]
/-- With an r of 0 the tag is s. -/
theorem tg_zero {K : List Int} (B : List Int) (h : rV K = 0) : tg K B = digN 16 (sV K) := by unfold tg tagV; rw [hm_zero B h, Int.zero_add]
theorem tg_same {K L : List Int} (B : List Int) (h : rV K = rV L) (hs : sV K = sV L) : tg K B = tg L B := by unfold tg tagV; rw [hm_same B h, hs]
end Sp
end Go.Proofs.Ytngbfamlhlhbmaa

