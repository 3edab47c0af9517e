/-
  The walks of the operations on exact fractions, program and reference.
-/
import Derived.Test.YtmaifiakjlbooaaWs
namespace Go.Proofs.Ytmaifiakjlbooaa
set_option linter.unusedSimpArgs false
set_option linter.unusedVariables false
open Go.RowKit
end Go.Proofs.Ytmaifiakjlbooaa
