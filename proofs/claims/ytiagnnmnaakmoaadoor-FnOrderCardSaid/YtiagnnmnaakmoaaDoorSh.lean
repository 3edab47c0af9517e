/-
  The walks of what makes a fibre short, program and reference.
-/
import Derived.Test.YtiagnnmnaakmoaaDoorBk
namespace Go.Proofs.YtiagnnmnaakmoaaDoor
set_option linter.unusedSimpArgs false
set_option linter.unusedVariables false
open Go.RowKit
/-- What is drawn together stays small. -/
def small (s : Sec) : Prop := 0 ≤ s.t ∧ s.t ≤ 3
def g4 (ph : Int) : Int := gcdI 4 ph
end Go.Proofs.YtiagnnmnaakmoaaDoor
