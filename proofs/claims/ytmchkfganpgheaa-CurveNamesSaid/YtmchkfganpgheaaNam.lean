/-
  CurveNames' facts: the two vectors, by the kernel. Plain maths, no conditions.
-/
import Derived.Test.YtmchkfganpgheaaAwk
namespace Go.Proofs.Ytmchkfganpgheaa
set_option linter.unusedSimpArgs false
set_option linter.unusedVariables false
open Go Go.RowKit


namespace Nam
@[irreducible] def k0 : List Int := [165, 70, 227, 107, 240, 82, 124, 157, 59, 22, 21, 75, 130, 70, 94, 221, 98, 20, 76, 10, 193, 252, 90, 24, 80, 106, 34, 68, 186, 68, 154, 196]
@[irreducible] def u0 : List Int := [230, 219, 104, 103, 88, 48, 48, 219, 53, 148, 193, 164, 36, 177, 95, 124, 114, 102, 36, 236, 38, 179, 53, 59, 16, 169, 3, 166, 208, 171, 28, 76]
theorem k0_ok : Bytes32 k0 := ⟨by unfold k0; rfl, by unfold Dig k0; decide +kernel⟩
theorem u0_ok : Bytes32 u0 := ⟨by unfold u0; rfl, by unfold Dig u0; decide +kernel⟩
theorem hex0 : ((hexN (Low.shX k0 u0) 32).toList == ({ data := #[99, 51, 100, 97, 53, 53, 51, 55, 57, 100, 101, 57, 99, 54, 57, 48, 56, 101, 57, 52, 101, 97, 52, 100, 102, 50, 56, 100, 48, 56, 52, 102, 51, 50, 101, 99, 99, 102, 48, 51, 52, 57, 49, 99, 55, 49, 102, 55, 53, 52, 98, 52, 48, 55, 53, 53, 55, 55, 97, 50, 56, 53, 53, 50] } : ByteArray).toList) = true := by
  unfold Low.shX
  rw [vX_mX]
  unfold k0 u0
  decide +kernel
theorem hex1 : ((hexN (Low.shX Low.base9 Low.base9) 32).toList == ({ data := #[52, 50, 50, 99, 56, 101, 55, 97, 54, 50, 50, 55, 100, 55, 98, 99, 97, 49, 51, 53, 48, 98, 51, 101, 50, 98, 98, 55, 50, 55, 57, 102, 55, 56, 57, 55, 98, 56, 55, 98, 98, 54, 56, 53, 52, 98, 55, 56, 51, 99, 54, 48, 101, 56, 48, 51, 49, 49, 97, 101, 51, 48, 55, 57] } : ByteArray).toList) = true := by
  unfold Low.shX
  rw [vX_mX]
  unfold Low.base9
  decide +kernel
end Nam


end Go.Proofs.Ytmchkfganpgheaa
