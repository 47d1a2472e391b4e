/-
  The box of usual(), each byte of it turned.
-/
import Derived.Test.YtpighhoehhilkaaAeUW
namespace Go.Proofs.Ytpighhoehhilkaa
set_option linter.unusedSimpArgs false
set_option linter.unusedVariables false
open Go Go.RowKit

namespace Sp
open F M
@[irreducible] def usO : List Int := [123, 172, 43, 37, 45, 180, 71, 175, 9, 182, 122, 85, 164, 233, 85, 132, 10, 225, 214, 115, 16, 117, 217, 235, 42, 147, 117, 120, 62, 213, 83, 255]
@[irreducible] def usT : List Int := [26, 225, 11, 89, 79, 9, 226, 106, 126, 144, 46, 203, 208, 96, 6, 145]
@[irreducible] def usZ : List Int := [211, 26, 141, 52, 100, 142, 96, 219, 123, 134, 175, 188, 83, 239, 126, 194, 164, 173, 237, 81, 41, 110, 8, 254, 169, 226, 181, 167, 54, 238, 98, 214, 61, 190, 164, 94, 140, 169, 103, 18, 130, 250, 251, 105, 218, 146, 114, 139, 26, 113, 222, 10, 158, 6, 11, 41, 5, 214, 165, 182, 126, 205, 59, 54, 146, 221, 189, 127, 45, 119, 139, 140, 152, 3, 174, 227, 40, 9, 27, 88, 250, 179, 36, 228, 250, 214, 117, 148, 85, 133, 128, 139, 72, 49, 215, 188, 63, 244, 222, 240, 142, 75, 122, 157, 229, 118, 210, 101, 134, 206, 198, 75, 97, 22, 26, 225, 11, 89, 79, 9, 226, 106, 126, 144, 46, 203, 208, 96, 6, 145]
theorem us_once : onceK usK usN = usO := by decide +kernel
theorem us_tag : aeT usK usN usA usX = usT := by unfold aeT; rw [us_once]; decide +kernel
theorem us_box : sealV usK usN usA usB = usZ := by unfold sealV; rw [us_xo, us_tag]; decide +kernel
theorem usZ_length : usZ.length = 130 := by unfold usZ; rfl
attribute [simp] usZ_length
theorem nm_all : (List.range 130).all (fun i => decide (tg usO (aeM usA ((usZ.set i (bits .xor .u8 (gi usZ i) 1)).take 114)) ≠ (usZ.set i (bits .xor .u8 (gi usZ i) 1)).drop 114)) = true := by decide +kernel
theorem nm_flip {i : Nat} (hi : i < 130) : ¬ boxOk usK usN usA (usZ.set i (bits .xor .u8 (gi usZ i) 1)) 130 := by
  have h := List.all_eq_true.1 nm_all i (List.mem_range.2 hi)
  unfold boxOk aeT
  rw [us_once]
  simpa using h
end Sp

end Go.Proofs.Ytpighhoehhilkaa
