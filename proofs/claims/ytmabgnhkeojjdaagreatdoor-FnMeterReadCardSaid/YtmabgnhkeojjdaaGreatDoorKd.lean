/-
  The walk of the program's determinant: one row more.
-/
import Derived.Test.YtmabgnhkeojjdaaGreatDoorPd
namespace Go.Proofs.YtmabgnhkeojjdaaGreatDoor
set_option linter.unusedSimpArgs false
set_option linter.unusedVariables false
open Go.RowKit
attribute [local go_sem ↓] Go.wp_at_zero Go.wp_at_succ
end Go.Proofs.YtmabgnhkeojjdaaGreatDoor
