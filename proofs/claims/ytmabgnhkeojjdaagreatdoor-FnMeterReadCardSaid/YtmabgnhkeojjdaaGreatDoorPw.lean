/-
  Texts of this claim, joined: Rt; Ru. Nothing is claimed here; the other texts of this claim use it.
-/
import Derived.Test.YtmabgnhkeojjdaaGreatDoorPa
import Derived.Deep.RegionHeld3
import Derived.Deep.DrawnRows
namespace Go.Proofs.YtmabgnhkeojjdaaGreatDoor
set_option linter.unusedSimpArgs false
set_option linter.unusedVariables false
section
open Go.RowKit
attribute [local go_sem ↓] Go.wp_at_zero Go.wp_at_succ
end
section
open Go.RowKit
end
end Go.Proofs.YtmabgnhkeojjdaaGreatDoor
