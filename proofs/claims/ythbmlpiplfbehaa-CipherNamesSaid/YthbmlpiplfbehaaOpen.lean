/-
  Arguments that are arrays of integers: opened.
-/
import Derived.Test.YthbmlpiplfbehaaLib
import Derived.ProofKit
import Derived.OpenShut
namespace Go.Proofs.Ythbmlpiplfbehaa
set_option linter.unusedSimpArgs false
set_option linter.unusedVariables false
open Go Go.ChangeShapes Go.WideShapes Go.ChangeAt Go.RowKit

section
variable {H : Type} {enc : TypeId × Value → H} {P : Program} {w : World} {base : Nat} {spare : Nat → Bool} {held : Bool}

end
end Go.Proofs.Ythbmlpiplfbehaa
