/-
  The row of a poly: its flag, r, s, the sum, the block that waits, how many bytes wait.
-/
import Derived.Test.YthbmlpiplfbehaaTab
namespace Go.Proofs.Ythbmlpiplfbehaa
set_option linter.unusedSimpArgs false
set_option linter.unusedVariables false
open Go Go.RowKit
namespace Sp
/-- The cells of a poly. -/
@[irreducible] def polyRow (g : Bool) (r0 r1 s0 s1 h0 h1 h2 : Int) (bl : List Int) (n : Int) : Array Value :=
  (.bool g :: .int .u64 r0 :: .int .u64 r1 :: .int .u64 s0 :: .int .u64 s1 :: .int .u64 h0 :: .int .u64 h1 :: .int .u64 h2 :: (bl.map (Value.int .u8) ++ [.int .i64 n])).toArray
section
variable {g : Bool} {r0 r1 s0 s1 h0 h1 h2 : Int} {bl : List Int} {n : Int}
theorem pr_size (hb : bl.length = 16) : (polyRow g r0 r1 s0 s1 h0 h1 h2 bl n).size = 25 := by simp [polyRow, hb]
theorem pr_g0 : (polyRow g r0 r1 s0 s1 h0 h1 h2 bl n)[0]? = some (.bool g) := by simp [polyRow]
theorem pr_g5 : (polyRow g r0 r1 s0 s1 h0 h1 h2 bl n)[5]? = some (.int .u64 h0) := by simp [polyRow]
theorem pr_g6 : (polyRow g r0 r1 s0 s1 h0 h1 h2 bl n)[6]? = some (.int .u64 h1) := by simp [polyRow]
theorem pr_g7 : (polyRow g r0 r1 s0 s1 h0 h1 h2 bl n)[7]? = some (.int .u64 h2) := by simp [polyRow]
theorem pr_g3 : (polyRow g r0 r1 s0 s1 h0 h1 h2 bl n)[3]? = some (.int .u64 s0) := by simp [polyRow]
theorem pr_g4 : (polyRow g r0 r1 s0 s1 h0 h1 h2 bl n)[4]? = some (.int .u64 s1) := by simp [polyRow]
theorem pr_gn (hb : bl.length = 16) : (polyRow g r0 r1 s0 s1 h0 h1 h2 bl n)[24]? = some (.int .i64 n) := by
  simp [polyRow, List.getElem?_append, hb]
theorem pr_xr (hb : bl.length = 16) : (polyRow g r0 r1 s0 s1 h0 h1 h2 bl n).extract 1 (1 + 2) = ints .u64 [r0, r1] := by simp [polyRow, ints]
theorem pr_xh (hb : bl.length = 16) : (polyRow g r0 r1 s0 s1 h0 h1 h2 bl n).extract 5 (5 + 3) = ints .u64 [h0, h1, h2] := by simp [polyRow, ints]
theorem pr_xb (hb : bl.length = 16) {m : Nat} (hm : m ≤ 16) : (polyRow g r0 r1 s0 s1 h0 h1 h2 bl n).extract 8 (8 + m) = ints .u8 (bl.take m) := by
  simp [polyRow, ints, List.take_append, hb, show m - 16 = 0 by omega, List.map_take]
theorem pr_p5 {v : Int} : putAt (polyRow g r0 r1 s0 s1 h0 h1 h2 bl n) 5 [.int .u64 v] = polyRow g r0 r1 s0 s1 v h1 h2 bl n := by simp [putAt, polyRow]
theorem pr_p6 {v : Int} : putAt (polyRow g r0 r1 s0 s1 h0 h1 h2 bl n) 6 [.int .u64 v] = polyRow g r0 r1 s0 s1 h0 v h2 bl n := by simp [putAt, polyRow]
theorem pr_p7 {v : Int} : putAt (polyRow g r0 r1 s0 s1 h0 h1 h2 bl n) 7 [.int .u64 v] = polyRow g r0 r1 s0 s1 h0 h1 v bl n := by simp [putAt, polyRow]
theorem pr_ph {u v x : Int} : putAt (polyRow g r0 r1 s0 s1 h0 h1 h2 bl n) 5 [.int .u64 u, .int .u64 v, .int .u64 x] = polyRow g r0 r1 s0 s1 u v x bl n := by simp [putAt, polyRow]
theorem pr_pn {v : Int} (hb : bl.length = 16) : putAt (polyRow g r0 r1 s0 s1 h0 h1 h2 bl n) 24 [.int .i64 v] = polyRow g r0 r1 s0 s1 h0 h1 h2 bl v := by
  simp [putAt, polyRow, List.set_append, hb]
/-- Bytes put into a block, from a place on. -/
def spl (bl : List Int) (o : Nat) (cs : List Int) : List Int := bl.take o ++ (cs ++ bl.drop (o + cs.length))
theorem spl_length (bl : List Int) (o : Nat) (cs : List Int) (h : o + cs.length ≤ bl.length) : (spl bl o cs).length = bl.length := by simp [spl]; omega
theorem pr_pb (hb : bl.length = 16) {o : Nat} {cs : List Int} (h : o + cs.length ≤ 16) : putAt (polyRow g r0 r1 s0 s1 h0 h1 h2 bl n) (8 + o) (ints .u8 cs).toList = polyRow g r0 r1 s0 s1 h0 h1 h2 (spl bl o cs) n := by
  have hl := spl_length bl o cs (by omega)
  apply Array.ext_getElem?
  intro j
  rw [putAt_get _ _ _ _ (by rw [pr_size hb]; simp [ints]; omega)]
  simp only [polyRow, List.getElem?_toArray]
  by_cases h1 : j < 8
  · rw [if_neg (by omega)]
    have : j = 0 ∨ j = 1 ∨ j = 2 ∨ j = 3 ∨ j = 4 ∨ j = 5 ∨ j = 6 ∨ j = 7 := by omega
    rcases this with rfl | rfl | rfl | rfl | rfl | rfl | rfl | rfl <;> simp
  · obtain ⟨k, rfl⟩ : ∃ k, j = k + 8 := ⟨j - 8, by omega⟩
    simp only [List.getElem?_cons_succ, List.getElem?_append, List.length_map, hb, hl]
    by_cases h2 : 8 + o ≤ k + 8 ∧ k + 8 < 8 + o + (ints .u8 cs).toList.length
    · rw [if_pos h2]
      simp only [ints, List.length_map, Array.length_toList, List.size_toArray] at h2
      rw [if_pos (by omega)]
      simp only [ints, List.getElem?_map, spl]
      rw [List.getElem?_append, if_neg (by simp; omega), List.getElem?_append, if_pos (by simp; omega)]
      congr 2
      simp
      omega
    · rw [if_neg h2]
      simp only [ints, List.length_map, Array.length_toList, List.size_toArray] at h2
      by_cases h3 : k < 16
      · rw [if_pos h3, if_pos h3]
        simp only [List.getElem?_map, spl]
        by_cases h4 : k < o
        · rw [List.getElem?_append, if_pos (by simp; omega)]
          simp [h4]
        · rw [List.getElem?_append, if_neg (by simp; omega), List.getElem?_append, if_neg (by simp; omega)]
          simp only [List.getElem?_drop, List.length_take]
          congr 2
          omega
      · rw [if_neg h3, if_neg h3]
end
theorem pr_cells {g : Bool} {r0 r1 s0 s1 h0 h1 h2 : Int} {bl : List Int} {n : Int} : ∀ u ∈ (polyRow g r0 r1 s0 s1 h0 h1 h2 bl n).toList, u.oneCell' = true := by
  intro u hu
  simp only [polyRow, List.mem_cons, List.mem_append, List.mem_map, List.not_mem_nil, or_false] at hu
  rcases hu with rfl | rfl | rfl | rfl | rfl | rfl | rfl | rfl | ⟨x, _, rfl⟩ | rfl <;> rfl
end Sp
end Go.Proofs.Ythbmlpiplfbehaa
