/-
  The walks of the operations on exact fractions, program and reference.
-/
import Derived.Test.YtddfpbdmppnkiaaWs
namespace Go.Proofs.Ytddfpbdmppnkiaa
set_option linter.unusedSimpArgs false
set_option linter.unusedVariables false
open Go.RowKit
end Go.Proofs.Ytddfpbdmppnkiaa
