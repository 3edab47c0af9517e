/-
  Reading of arguments and of the listed variables, for the frames of the statements.
-/
import Derived.Test.YtmaifiakjlbooaaFl
import Derived.Test.YtmaifiakjlbooaaWc
namespace Go.Proofs.Ytmaifiakjlbooaa
set_option linter.unusedSimpArgs false
set_option linter.unusedVariables false
open Go.ChangeShapes Go.WideShapes Go.ChangeAt Go.RowKit Go.WideElems
theorem fl_int : Flat Try.prog 3 1 1 := flat_int Try.underlying3
theorem co_int : Try.prog.cellsOf 3 = 1 := by kernel_rfl
theorem co_Frac : Try.prog.cellsOf 42 = 3 := by kernel_rfl
theorem fl_Frac : Flat Try.prog 42 3 2 := flat_struct3 Try.underlying42 fl_int co_int rfl fl_int co_int rfl fl_int co_int rfl co_Frac
end Go.Proofs.Ytmaifiakjlbooaa
