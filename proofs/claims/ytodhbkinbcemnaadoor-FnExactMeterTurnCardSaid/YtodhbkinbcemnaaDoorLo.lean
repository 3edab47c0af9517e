/-
  An argument that is a list of fractions, opened.
-/
import Derived.Test.YtodhbkinbcemnaaDoorPg
import Derived.Test.YtodhbkinbcemnaaDoorPc
import Derived.ChangeSlices
import Derived.Deep.Slices
namespace Go.Proofs.YtodhbkinbcemnaaDoor
set_option linter.unusedSimpArgs false
set_option linter.unusedVariables false
open Go.ChangeShapes Go.WideShapes Go.ChangeAt Go.RowKit Go.WideElems Go.Deep
def zfr0 : Fr := ⟨0, 0, 0⟩
end Go.Proofs.YtodhbkinbcemnaaDoor
