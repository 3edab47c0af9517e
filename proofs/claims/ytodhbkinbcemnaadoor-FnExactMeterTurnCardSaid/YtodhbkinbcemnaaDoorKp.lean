/-
  An argument that is a list of Stokes numbers, opened.
-/
import Derived.Test.YtodhbkinbcemnaaDoorLo
import Derived.Test.YtodhbkinbcemnaaDoorPh
namespace Go.Proofs.YtodhbkinbcemnaaDoor
set_option linter.unusedSimpArgs false
set_option linter.unusedVariables false
open Go.ChangeShapes Go.WideShapes Go.ChangeAt Go.RowKit Go.WideElems Go.Deep
theorem co_LA4 : Tryd.prog.cellsOf 24 = 12 := by kernel_rfl
theorem fl_LA4 : Flat Tryd.prog 24 12 3 := flat_array Tryd.underlying24 fl_LFrac co_LFrac co_LA4
theorem co_LStk : Tryd.prog.cellsOf 26 = 12 := by kernel_rfl
theorem fl_LStk : Flat Tryd.prog 26 12 4 := flat_struct1 Tryd.underlying26 fl_LA4 co_LA4 rfl co_LStk
def stL (m : Mt) : List Value := [.int .i64 m.a.re, .int .i64 m.a.im, .int .i64 m.a.den, .int .i64 m.b.re, .int .i64 m.b.im, .int .i64 m.b.den, .int .i64 m.c.re, .int .i64 m.c.im, .int .i64 m.c.den, .int .i64 m.d.re, .int .i64 m.d.im, .int .i64 m.d.den]
def zst0 : Mt := ⟨⟨0, 0, 0⟩, ⟨0, 0, 0⟩, ⟨0, 0, 0⟩, ⟨0, 0, 0⟩⟩
end Go.Proofs.YtodhbkinbcemnaaDoor
