/-
  The row of a cipher's state: made, a key, the next number.
-/
import Derived.Test.YthbmlpiplfbehaaSl
namespace Go.Proofs.Ythbmlpiplfbehaa
set_option linter.unusedSimpArgs false
set_option linter.unusedVariables false
open Go Go.RowKit
namespace Sp
/-- The row of a state. -/
@[irreducible] def stRow (g : Bool) (K : List Int) (n : Int) : Array Value := #[.bool g] ++ ints .u8 K ++ #[.int .i64 n]
variable {g : Bool} {K : List Int} {n : Int}
theorem st_size (hK : K.length = 32) : (stRow g K n).size = 34 := by unfold stRow; simp [ints_size, hK]
theorem st_g : (stRow g K n)[0]? = some (.bool g) := by
  unfold stRow
  rw [Array.append_assoc, Array.getElem?_append_left (by simp)]
  rfl
theorem st_k (hK : K.length = 32) : (stRow g K n).extract 1 (1 + 32) = ints .u8 K := by
  unfold stRow
  apply Array.ext'
  simp [ints, hK]
theorem st_n (hK : K.length = 32) : (stRow g K n)[33]? = some (.int .i64 n) := by
  unfold stRow
  rw [Array.getElem?_append_right (by simp [ints_size, hK])]
  simp [ints_size, hK]
theorem st_pn (hK : K.length = 32) (v : Int) : putAt (stRow g K n) 33 [.int .i64 v] = stRow g K v := by
  unfold stRow
  apply Array.ext'
  simp [putAt, ints, List.set_append, hK]
theorem st_pk (hK : K.length = 32) {i : Nat} (hi : i < 32) (x : Int) : putAt (stRow g K n) (1 + i) [.int .u8 x] = stRow g (K.set i x) n := by
  unfold stRow
  apply Array.ext'
  simp [putAt, ints, List.set_append, hK, hi, List.map_set, Nat.add_comm 1 i]
theorem st_cells : ∀ u ∈ (stRow g K n).toList, u.oneCell' = true := by
  unfold stRow
  intro u hu
  simp only [Array.toList_append, List.mem_append] at hu
  rcases hu with (hu | hu) | hu
  · simp at hu; subst hu; rfl
  · exact ints_mem u hu
  · simp at hu; subst hu; rfl
end Sp
end Go.Proofs.Ythbmlpiplfbehaa
