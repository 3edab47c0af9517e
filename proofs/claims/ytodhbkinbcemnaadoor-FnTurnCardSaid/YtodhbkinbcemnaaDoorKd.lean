/-
  The walk of the program's determinant: one row more.
-/
import Derived.Test.YtodhbkinbcemnaaDoorPd
namespace Go.Proofs.YtodhbkinbcemnaaDoor
set_option linter.unusedSimpArgs false
set_option linter.unusedVariables false
open Go.RowKit
attribute [local go_sem ↓] Go.wp_at_zero Go.wp_at_succ
end Go.Proofs.YtodhbkinbcemnaaDoor
