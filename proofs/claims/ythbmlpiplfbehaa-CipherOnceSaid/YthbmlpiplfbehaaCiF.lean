/-
  Lengths of what boxes hold; equal bytes.
-/
import Derived.Test.YthbmlpiplfbehaaCiE
namespace Go.Proofs.Ythbmlpiplfbehaa
set_option linter.unusedSimpArgs false
set_option linter.unusedVariables false
open Go Go.RowKit
namespace Sp
open F M
theorem sX_le (K N A B : List Int) : (sX K N A B).length ≤ 4112 := by
  by_cases h : 4096 < A.length ∨ 4096 < B.length
  · rw [sX_long h]; simp
  · rw [sX_ok (by omega) (by omega), sealV_length]; omega
theorem oX_le (K N A X : List Int) : (oX K N A X).length ≤ 4096 := by
  by_cases h : oE K N A X = 0
  · rw [oX_ok h]
    have h2 : ¬ (4096 < A.length ∨ 4112 < X.length) := fun h3 => by rw [oE_long h3] at h; exact absurd h (by decide)
    simp
    omega
  · rw [oX_bad h]; simp
theorem kX_le {X : List Int} {k : Nat} (n : Int) (h : X.length ≤ k) : (kX n X).length ≤ k := by
  by_cases h9 : 9007199254740991 ≤ n
  · rw [kX_end h9]; simp
  · rw [kX_in (by omega)]; exact h
theorem tX_le {X : List Int} {k : Nat} (n : Int) (h : X.length ≤ k) : (tX n X).length ≤ k := by
  by_cases h9 : n < 0 ∨ 9007199254740991 ≤ n
  · rw [tX_out h9]; simp
  · rw [tX_in (by omega) (by omega)]; exact h
theorem kX_byts {X : List Int} (n : Int) (h : Byts X) : Byts (kX n X) := by
  by_cases h9 : 9007199254740991 ≤ n
  · rw [kX_end h9]; exact byts_nil
  · rw [kX_in (by omega)]; exact h
theorem tX_byts {X : List Int} (n : Int) (h : Byts X) : Byts (tX n X) := by
  by_cases h9 : n < 0 ∨ 9007199254740991 ≤ n
  · rw [tX_out h9]; exact byts_nil
  · rw [tX_in (by omega) (by omega)]; exact h
theorem kN_ge {n : Int} (e : Int) (h : 0 ≤ n) : 0 ≤ kN n e := by
  by_cases he : e = 0
  · rw [he, kN_0]; omega
  · rw [kN_ne n he]; exact h
theorem eqb_t (p q : Option Addr) (n m c d : Nat) (A B : List Int) (w : World) (hA : Sl w p n c A) (hB : Sl w q m d B) (hmax : n ≤ 140737488355328) (h : A = B) : Calls Try.prog 16 #[.slice p n c, .slice q m d] w fun e w' => e = .returned (.bool true) ∧ Below w.heap.size w w' := by
  have := eqb_any p q n m c d A B w hA hB hmax
  rwa [decide_eq_true h] at this
theorem eqb_f (p q : Option Addr) (n m c d : Nat) (A B : List Int) (w : World) (hA : Sl w p n c A) (hB : Sl w q m d B) (hmax : n ≤ 140737488355328) (h : A ≠ B) : Calls Try.prog 16 #[.slice p n c, .slice q m d] w fun e w' => e = .returned (.bool false) ∧ Below w.heap.size w w' := by
  have := eqb_any p q n m c d A B w hA hB hmax
  rwa [decide_eq_false h] at this
end Sp
end Go.Proofs.Ythbmlpiplfbehaa
