/-
  The walks of the statements that compare the matrix of a fibre with the reference's: they return true, for every list.
-/
import Derived.Test.YtiagnnmnaakmoaaDoorFm
import Derived.Test.YtiagnnmnaakmoaaDoorFn
import Derived.Test.YtiagnnmnaakmoaaDoorGa
namespace Go.Proofs.YtiagnnmnaakmoaaDoor
set_option linter.unusedSimpArgs false
set_option linter.unusedVariables false
open Go.RowKit
attribute [local go_sem ↓] Go.wp_at_zero Go.wp_at_succ
theorem Own.read {base n cap : Nat} {A : Option Addr} {xs : List Sec} {w : World} (h : Own base (.slice A n cap) xs w) : Secs A n cap xs w := by
  obtain ⟨A', cap', e, hS⟩ := h.secs
  simp only [Value.slice.injEq] at e
  obtain ⟨rfl, rfl, rfl⟩ := e
  exact hS
end Go.Proofs.YtiagnnmnaakmoaaDoor
