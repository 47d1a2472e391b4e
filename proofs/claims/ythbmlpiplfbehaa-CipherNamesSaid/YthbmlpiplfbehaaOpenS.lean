/-
  Arguments that are slices of bytes: opened.
-/
import Derived.Test.YthbmlpiplfbehaaOpen
import Derived.Test.YthbmlpiplfbehaaSl
import Derived.Deep.Slices
import Derived.SizedLaws
namespace Go.Proofs.Ythbmlpiplfbehaa
set_option linter.unusedSimpArgs false
set_option linter.unusedVariables false
open Go Go.ChangeShapes Go.WideShapes Go.ChangeAt Go.RowKit Sp M

section
variable {H : Type} {enc : TypeId × Value → H} {P : Program} {w : World} {base : Nat} {spare : Nat → Bool} {held : Bool}
end
end Go.Proofs.Ythbmlpiplfbehaa
