/-
  The walks of the helpers of the statements on lists of fractions: handed over, compared.
-/
import Derived.Test.YtodhbkinbcemnaaGreatDoorPj
import Derived.Test.YtodhbkinbcemnaaGreatDoorPc
import Derived.Deep.RegionHeld3
import Derived.Test.YtodhbkinbcemnaaGreatDoorRows
namespace Go.Proofs.YtodhbkinbcemnaaGreatDoor
set_option linter.unusedSimpArgs false
set_option linter.unusedVariables false
open Go.RowKit
theorem infoSa : (Tryz.prog.info? 40).map (fun i => (i.zero, i.size, i.bytes)) = some (some (.agg #[.int .i64 0, .int .i64 0]), 2, 16) := by kernel_rfl
end Go.Proofs.YtodhbkinbcemnaaGreatDoor
