/-
  works() is true; tail, less.
-/
import Derived.Test.YthbmlpiplfbehaaPolyQ
namespace Go.Proofs.Ythbmlpiplfbehaa
set_option linter.unusedSimpArgs false
set_option linter.unusedVariables false
open Go Go.RowKit

namespace Sp
open F
@[irreducible] def wkK : List Int := [133, 214, 190, 120, 87, 85, 109, 51, 127, 68, 82, 254, 66, 213, 6, 168, 1, 3, 128, 138, 251, 13, 178, 253, 74, 191, 246, 175, 65, 73, 245, 27]
@[irreducible] def wkB : List Int := [67, 114, 121, 112, 116, 111, 103, 114, 97, 112, 104, 105, 99, 32, 70, 111, 114, 117, 109, 32, 82, 101, 115, 101, 97, 114, 99, 104, 32, 71, 114, 111, 117, 112]
@[irreducible] def wkT : List Int := [168, 6, 29, 193, 48, 81, 54, 198, 194, 43, 139, 175, 12, 1, 39, 169]
theorem wkK_b : Byts wkK := fun j => by
  by_cases h : j < 32
  · have : ∀ j, j < 32 → 0 ≤ gi wkK j ∧ gi wkK j < 256 := by unfold wkK; decide +kernel
    exact this j h
  · rw [gi_over _ _ (by unfold wkK; simp; omega)]; omega
theorem wkB_b : Byts wkB := fun j => by
  by_cases h : j < 34
  · have : ∀ j, j < 34 → 0 ≤ gi wkB j ∧ gi wkB j < 256 := by unfold wkB; decide +kernel
    exact this j h
  · rw [gi_over _ _ (by unfold wkB; simp; omega)]; omega
theorem wk_tag : ptag wkK wkB = wkT := by
  rw [ptag_val wkK_b wkB_b]
  unfold wkK wkB wkT
  decide +kernel
theorem wkB_len : wkB.length = 34 := by unfold wkB; rfl
theorem wkK_len : wkK.length = 32 := by unfold wkK; rfl
theorem wkT_len : wkT.length = 16 := by unfold wkT; rfl
attribute [simp] wkB_len wkK_len wkT_len
theorem wk_b1 : Try.prog.built 23 [(0, .int .u8 133), (1, .int .u8 214), (2, .int .u8 190), (3, .int .u8 120), (4, .int .u8 87), (5, .int .u8 85), (6, .int .u8 109), (7, .int .u8 51), (8, .int .u8 127), (9, .int .u8 68), (10, .int .u8 82), (11, .int .u8 254), (12, .int .u8 66), (13, .int .u8 213), (14, .int .u8 6), (15, .int .u8 168), (16, .int .u8 1), (17, .int .u8 3), (18, .int .u8 128), (19, .int .u8 138), (20, .int .u8 251), (21, .int .u8 13), (22, .int .u8 178), (23, .int .u8 253), (24, .int .u8 74), (25, .int .u8 191), (26, .int .u8 246), (27, .int .u8 175), (28, .int .u8 65), (29, .int .u8 73), (30, .int .u8 245), (31, .int .u8 27)] = some (ints .u8 (wkK)) := by unfold wkK; kernel_rfl
theorem wk_b2 : Try.prog.built 72 [(0, .int .u8 168), (1, .int .u8 6), (2, .int .u8 29), (3, .int .u8 193), (4, .int .u8 48), (5, .int .u8 81), (6, .int .u8 54), (7, .int .u8 198), (8, .int .u8 194), (9, .int .u8 43), (10, .int .u8 139), (11, .int .u8 175), (12, .int .u8 12), (13, .int .u8 1), (14, .int .u8 39), (15, .int .u8 169)] = some (ints .u8 (wkT)) := by unfold wkT; kernel_rfl
theorem wk_b3 : Instr.fill (fun i => some (i * 1, 1)) ((Array.range (34 * 1)).map ((Value.cells (.int .u8 0))[· % (Value.cells (.int .u8 0)).size]!)) [(0, .int .u8 67), (1, .int .u8 114), (2, .int .u8 121), (3, .int .u8 112), (4, .int .u8 116), (5, .int .u8 111), (6, .int .u8 103), (7, .int .u8 114), (8, .int .u8 97), (9, .int .u8 112), (10, .int .u8 104), (11, .int .u8 105), (12, .int .u8 99), (13, .int .u8 32), (14, .int .u8 70), (15, .int .u8 111), (16, .int .u8 114), (17, .int .u8 117), (18, .int .u8 109), (19, .int .u8 32), (20, .int .u8 82), (21, .int .u8 101), (22, .int .u8 115), (23, .int .u8 101), (24, .int .u8 97), (25, .int .u8 114), (26, .int .u8 99), (27, .int .u8 104), (28, .int .u8 32), (29, .int .u8 71), (30, .int .u8 114), (31, .int .u8 111), (32, .int .u8 117), (33, .int .u8 112)] = some (ints .u8 (wkB)) := by unfold wkB; kernel_rfl

def tlI' (K : List Int) : Nat → List Int
  | 0 => List.replicate 16 0
  | i + 1 => (tlI' K i).set i (gi K (16 + i))
@[irreducible] def tlI (K : List Int) (i : Nat) : List Int := tlI' K i
theorem tlI_0 (K : List Int) : tlI K 0 = List.replicate 16 0 := by unfold tlI; rfl
theorem tlI_s (K : List Int) (i : Nat) : tlI K (i + 1) = (tlI K i).set i (gi K (16 + i)) := by unfold tlI; rfl
theorem tlI_length (K : List Int) : ∀ i, (tlI K i).length = (List.replicate 16 0).length
  | 0 => by simp [tlI_0]
  | i + 1 => by rw [tlI_s]; simp [tlI_length K i]
attribute [simp] tlI_length

theorem tlI_val (K : List Int) : ∀ n, n ≤ 16 → ∀ j, gi (tlI K n) j = if j < n then gi K (16 + j) else 0
  | 0, _, j => by rw [tlI_0, gi_rep]; simp
  | n + 1, hn, j => by
    rw [tlI_s]
    by_cases hj : j = n
    · subst hj
      rw [gi_same _ _ _ (by simp; omega), if_pos (by omega)]
    · rw [gi_upd _ _ _ _ hj, tlI_val K n (by omega)]
      by_cases h : j < n
      · rw [if_pos h, if_pos (by omega)]
      · rw [if_neg h, if_neg (by omega)]
theorem tlI_eq {K : List Int} (hK : Byts K) : tlI K 16 = digN 16 (sV K) := by
  have h : Dig 256 (gi (tlI K 16)) 16 := fun i hi => by rw [tlI_val K 16 (Nat.le_refl _), if_pos hi]; exact hK _
  rw [eq_digN (n := 16) (by simp) h, sumN_congr (g := fun i => gi K (16 + i)) (fun i hi => by rw [tlI_val K 16 (Nat.le_refl _), if_pos hi])]
  rfl
end Sp
end Go.Proofs.Ythbmlpiplfbehaa
