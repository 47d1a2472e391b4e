/-
  What aead's laws share: boxes are opened as they were sealed.
-/
import Derived.Test.YtpighhoehhilkaaAeW
namespace Go.Proofs.Ytpighhoehhilkaa
set_option linter.unusedSimpArgs false
set_option linter.unusedVariables false
open Go Go.RowKit

namespace Sp
open F M
theorem xor_xor {x y : Int} (hx : 0 ≤ x ∧ x < 256) (hy : 0 ≤ y ∧ y < 256) : bits .xor .u8 (bits .xor .u8 x y) y = x := by
  obtain ⟨a, rfl⟩ := Int.eq_ofNat_of_zero_le hx.1
  obtain ⟨b, rfl⟩ := Int.eq_ofNat_of_zero_le hy.1
  have ha := hx.2
  have hb := hy.2
  rw [u8_xor_nat a b (by omega) (by omega)]
  have h1 : a ^^^ b < 2 ^ 8 := Nat.xor_lt_two_pow (by omega) (by omega)
  rw [u8_xor_nat (a ^^^ b) b (by omega) (by omega), Nat.xor_assoc, Nat.xor_self, Nat.xor_zero]
theorem strm_b (K : List Int) (ct : Int) (N : List Int) (j : Nat) : 0 ≤ strm K ct N j ∧ strm K ct N j < 256 := by unfold strm; exact chB_byts _ _ _ _
theorem xo_xo (K : List Int) (ct : Int) (N : List Int) {B : List Int} (hB : Byts B) : xo K ct N (xo K ct N B) = B := by
  apply List.ext_getElem?
  intro j
  by_cases hj : j < B.length
  · rw [xo_get _ _ _ _ _ (by simpa using hj), gi_xo _ _ _ _ _ hj, xor_xor (hB j) (strm_b _ _ _ _), List.getElem?_eq_getElem hj]
    simp [gi, hj]
  · rw [List.getElem?_eq_none (by simp; omega), List.getElem?_eq_none (by omega)]
theorem box_ok (K N A B : List Int) (m : Nat) (hm : B.length = m) : boxOk K N A (sealV K N A B) (m + 16) := by
  unfold boxOk
  rw [Nat.add_sub_cancel, ← hm, sealV_take, sealV_drop]
/-- A box is opened as it was sealed. -/
theorem open_back (K N : List Int) (hK : K.length = 32) (hN : N.length = 12) (p q : Option Addr) (n c m d : Nat) (A B : List Int) (w : World) (hSA : Sl w p n c A) (hSB : Sl w q (m + 16) d (sealV K N A B)) (hBm : B.length = m) (bA : Byts A) (bB : Byts B) (hn : n ≤ 4096) (hm : m ≤ 4096) :
    Calls Try.prog 23 #[.agg (ints .u8 K), .agg (ints .u8 N), .slice p n c, .slice q (m + 16) d] w fun e w' => ∃ q c abs, e = .returned (.tuple #[.slice q m c, .int .i64 0]) ∧ AO q m c B abs ∧ OwnM w [] w' abs := by
  have h := open_ok K N hK hN p q n c (m + 16) d A (sealV K N A B) w hSA hSB bA (sealV_byts K N A bB) hn (by omega) (by omega) (box_ok K N A B m hBm)
  have ht : (sealV K N A B).take m = xo K 1 N B := by rw [← hBm]; exact sealV_take K N A B
  rw [Nat.add_sub_cancel, ht, xo_xo K 1 N bB] at h
  exact h
/-- A box that opens is that of what comes out. -/
theorem box_of (K N A : List Int) {X : List Int} (m : Nat) (hX : X.length = m) (h16 : 16 ≤ m) (bX : Byts X) (h : boxOk K N A X m) : sealV K N A (xo K 1 N (X.take (m - 16))) = X := by
  unfold boxOk at h
  unfold sealV
  rw [xo_xo K 1 N (bX.take2 _), h, List.take_append_drop]
end Sp

end Go.Proofs.Ytpighhoehhilkaa
