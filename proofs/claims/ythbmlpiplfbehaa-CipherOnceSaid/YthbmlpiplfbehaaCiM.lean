/-
  What is sealed is opened as it was: plain law.
-/
import Derived.Test.YthbmlpiplfbehaaCiD
namespace Go.Proofs.Ythbmlpiplfbehaa
set_option linter.unusedSimpArgs false
set_option linter.unusedVariables false
open Go Go.RowKit
namespace Sp
open F M
theorem xor_xor {x y : Int} (hx : 0 ≤ x ∧ x < 256) (hy : 0 ≤ y ∧ y < 256) : bits .xor .u8 (bits .xor .u8 x y) y = x := by
  obtain ⟨a, rfl⟩ := Int.eq_ofNat_of_zero_le hx.1
  obtain ⟨b, rfl⟩ := Int.eq_ofNat_of_zero_le hy.1
  have ha := hx.2
  have hb := hy.2
  rw [u8_xor_nat a b (by omega) (by omega)]
  have h1 : a ^^^ b < 2 ^ 8 := Nat.xor_lt_two_pow (by omega) (by omega)
  rw [u8_xor_nat (a ^^^ b) b (by omega) (by omega), Nat.xor_assoc, Nat.xor_self, Nat.xor_zero]
theorem strm_b (K : List Int) (ct : Int) (N : List Int) (j : Nat) : 0 ≤ strm K ct N j ∧ strm K ct N j < 256 := by unfold strm; exact chB_byts _ _ _ _
theorem xo_xo (K : List Int) (ct : Int) (N : List Int) {B : List Int} (hB : Byts B) : xo K ct N (xo K ct N B) = B := by
  apply List.ext_getElem?
  intro j
  by_cases hj : j < B.length
  · rw [xo_get _ _ _ _ _ (by simpa using hj), gi_xo _ _ _ _ _ hj, xor_xor (hB j) (strm_b _ _ _ _), List.getElem?_eq_getElem hj]
    simp [gi, hj]
  · rw [List.getElem?_eq_none (by simp; omega), List.getElem?_eq_none (by omega)]
theorem box_ok (K N A B : List Int) (m : Nat) (hm : B.length = m) : boxOk K N A (sealV K N A B) (m + 16) := by
  unfold boxOk
  rw [Nat.add_sub_cancel, ← hm, sealV_take, sealV_drop]
theorem oE_back (K N : List Int) {A B : List Int} (h1 : A.length ≤ 4096) (h2 : B.length ≤ 4096) : oE K N A (sealV K N A B) = 0 := by
  refine oE_ok h1 (by simp) (by simp; omega) ?_
  rw [sealV_length]
  exact box_ok K N A B _ rfl
theorem oX_back (K N : List Int) {A B : List Int} (h1 : A.length ≤ 4096) (h2 : B.length ≤ 4096) (bB : Byts B) : oX K N A (sealV K N A B) = B := by
  rw [oX_ok (oE_back K N h1 h2), sealV_length, Nat.add_sub_cancel, sealV_take, xo_xo K 1 N bB]
/-- At most 64 bytes: one block of the key stream. -/
theorem xo_one (K : List Int) (ct : Int) (N B : List Int) (h : B.length ≤ 64) : xo K ct N B = List.zipWith (fun x y => bits .xor .u8 x y) B (chB K (ct + 0) N) := by
  apply List.ext_getElem?
  intro j
  by_cases hj : j < B.length
  · rw [xo_get _ _ _ _ _ hj, List.getElem?_zipWith]
    have hs : (chB K (ct + 0) N)[j]? = some (strm K ct N j) := by
      unfold strm
      rw [show j / 64 = 0 by omega, show j % 64 = j by omega, Int.natCast_zero]
      unfold gi
      rw [List.getD_eq_getElem?_getD, List.getElem?_eq_getElem (by simp; omega)]
      rfl
    rw [hs, List.getElem?_eq_getElem hj]
    simp [gi, hj]
  · rw [List.getElem?_eq_none (by simp; omega), List.getElem?_eq_none (by simp; omega)]
end Sp
end Go.Proofs.Ythbmlpiplfbehaa
