/-
  The walks of what compares matrices, and of light in a fibre.
-/
import Derived.Test.YtiagnnmnaakmoaaDoorLa
import Derived.Test.YtiagnnmnaakmoaaDoorNe
import Derived.Test.YtiagnnmnaakmoaaDoorSk
namespace Go.Proofs.YtiagnnmnaakmoaaDoor
set_option linter.unusedSimpArgs false
set_option linter.unusedVariables false
open Go.RowKit
attribute [local go_sem ↓] Go.wp_at_zero Go.wp_at_succ
end Go.Proofs.YtiagnnmnaakmoaaDoor
