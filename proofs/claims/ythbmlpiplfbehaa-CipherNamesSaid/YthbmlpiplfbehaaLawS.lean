/-
  What every row needs of this seat.
-/
import Derived.Test.YthbmlpiplfbehaaOpenS
import Derived.Test.YthbmlpiplfbehaaTab
namespace Go.Proofs.Ythbmlpiplfbehaa
set_option linter.unusedSimpArgs false
set_option linter.unusedVariables false
open Go Go.RowKit

open Go.ChangeShapes Go.WideShapes Go.ChangeAt in
theorem rfl_vars {H : Type} {enc : TypeId × Value → H} {W : World} {sp : Nat → Bool} : DataW.TrodVars enc Try.prog W sp [] [] [] := rfl
end Go.Proofs.Ythbmlpiplfbehaa
