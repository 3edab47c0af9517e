/-
  An argument that is a list of Stokes numbers, opened.
-/
import Derived.Test.YtalcjmefmffcnaaDoorLo
import Derived.Test.YtalcjmefmffcnaaDoorPh
namespace Go.Proofs.YtalcjmefmffcnaaDoor
set_option linter.unusedSimpArgs false
set_option linter.unusedVariables false
open Go.ChangeShapes Go.WideShapes Go.ChangeAt Go.RowKit Go.WideElems Go.Deep
theorem co_LA4 : Tryd.prog.cellsOf 56 = 12 := by kernel_rfl
theorem fl_LA4 : Flat Tryd.prog 56 12 3 := flat_array Tryd.underlying56 fl_LFrac co_LFrac co_LA4
theorem co_LStk : Tryd.prog.cellsOf 58 = 12 := by kernel_rfl
theorem fl_LStk : Flat Tryd.prog 58 12 4 := flat_struct1 Tryd.underlying58 fl_LA4 co_LA4 rfl co_LStk
end Go.Proofs.YtalcjmefmffcnaaDoor
