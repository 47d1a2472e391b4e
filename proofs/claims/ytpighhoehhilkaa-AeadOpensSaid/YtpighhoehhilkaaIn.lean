/-
  The row of an In: a key, a nonce, and two slices.
-/
import Derived.Test.YtpighhoehhilkaaPolyPh
namespace Go.Proofs.Ytpighhoehhilkaa
set_option linter.unusedSimpArgs false
set_option linter.unusedVariables false
open Go Go.RowKit
namespace Sp
/-- The row of an In. -/
@[irreducible] def inRow (K N : List Int) (a b : Value) : Array Value := ints .u8 K ++ ints .u8 N ++ #[a, b]
variable {K N : List Int} {a b : Value}
theorem ir_size (hK : K.length = 32) (hN : N.length = 12) : (inRow K N a b).size = 46 := by unfold inRow; simp [ints_size, hK, hN]
theorem ir_k (hK : K.length = 32) : (inRow K N a b).extract 0 (0 + 32) = ints .u8 K := by
  unfold inRow
  apply Array.ext'
  simp [ints, hK]
theorem ir_n (hK : K.length = 32) (hN : N.length = 12) : (inRow K N a b).extract 32 (32 + 12) = ints .u8 N := by
  unfold inRow
  apply Array.ext'
  simp [ints, hK, hN]
theorem ir_a (hK : K.length = 32) (hN : N.length = 12) : (inRow K N a b)[44]? = some a := by
  unfold inRow
  rw [Array.getElem?_append_right (by simp [ints_size, hK, hN])]
  simp [ints_size, hK, hN]
theorem ir_b (hK : K.length = 32) (hN : N.length = 12) : (inRow K N a b)[45]? = some b := by
  unfold inRow
  rw [Array.getElem?_append_right (by simp [ints_size, hK, hN])]
  simp [ints_size, hK, hN]
theorem ir_setK (hK : K.length = 32) {i : Nat} (hi : i < 32) (x : Int) : (inRow K N a b).setIfInBounds i (.int .u8 x) = inRow (K.set i x) N a b := by
  unfold inRow
  apply Array.ext'
  simp [ints, List.set_append, hK, hi, List.map_set]
theorem ir_setB (hK : K.length = 32) (hN : N.length = 12) (x : Value) : (inRow K N a b).setIfInBounds 45 x = inRow K N a x := by
  unfold inRow
  apply Array.ext'
  simp [ints, List.set_append, hK, hN]
theorem ir_setA (hK : K.length = 32) (hN : N.length = 12) (x : Value) : (inRow K N a b).setIfInBounds 44 x = inRow K N x b := by
  unfold inRow
  apply Array.ext'
  simp [ints, List.set_append, hK, hN]
theorem ir_pk (hK : K.length = 32) {i : Nat} (hi : i < 32) (x : Int) : putAt (inRow K N a b) i [.int .u8 x] = inRow (K.set i x) N a b := by rw [← ir_setK hK hi]; simp [putAt]
theorem ir_pb (hK : K.length = 32) (hN : N.length = 12) (x : Value) : putAt (inRow K N a b) 45 [x] = inRow K N a x := by have := ir_setB (a := a) (b := b) hK hN x; simpa [putAt] using this
theorem ir_pa (hK : K.length = 32) (hN : N.length = 12) (x : Value) : putAt (inRow K N a b) 44 [x] = inRow K N x b := by have := ir_setA (a := a) (b := b) hK hN x; simpa [putAt] using this
theorem ir_cells (ha : a.oneCell' = true) (hb : b.oneCell' = true) : ∀ u ∈ (inRow K N a b).toList, u.oneCell' = true := by
  unfold inRow
  intro u hu
  simp only [Array.toList_append, List.mem_append] at hu
  rcases hu with (hu | hu) | hu
  · exact ints_mem u hu
  · exact ints_mem u hu
  · simp at hu
    rcases hu with rfl | rfl <;> assumption
theorem in_z : (Try.prog.info? 27).map (·.zero) = some (some (.agg (inRow (List.replicate 32 0) (List.replicate 12 0) (.slice none 0 0) (.slice none 0 0)))) := by unfold inRow; kernel_rfl
end Sp
end Go.Proofs.Ytpighhoehhilkaa
