/-
  works() is true; tail, less.
-/
import Derived.Test.YthbmlpiplfbehaaPolyQ
namespace Go.Proofs.Ythbmlpiplfbehaa
set_option linter.unusedSimpArgs false
set_option linter.unusedVariables false
open Go Go.RowKit

namespace Sp
open F
end Sp
end Go.Proofs.Ythbmlpiplfbehaa
