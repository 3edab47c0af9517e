/-
  The walks of the functions on matrices of elements: what a reckoning gives; adjoints.
-/
import Derived.Test.YtejkeihgcggmbaaDoorMt
namespace Go.Proofs.YtejkeihgcggmbaaDoor
set_option linter.unusedSimpArgs false
set_option linter.unusedVariables false
open Go.RowKit
attribute [local go_sem ↓] Go.wp_at_zero Go.wp_at_succ
abbrev Z6 : Jn := ⟨⟨0, 0, 0⟩, ⟨0, 0, 0⟩⟩
abbrev Z12 : Mt := ⟨⟨0, 0, 0⟩, ⟨0, 0, 0⟩, ⟨0, 0, 0⟩, ⟨0, 0, 0⟩⟩
theorem m4_eq (a b c d : Option Fr) : gotF (a.isNone || b.isNone || c.isNone || d.isNone) Z12 ⟨a.getD ⟨0, 0, 0⟩, b.getD ⟨0, 0, 0⟩, c.getD ⟨0, 0, 0⟩, d.getD ⟨0, 0, 0⟩⟩ = (m4 a b c d).getD Z12 ∧
    (a.isSome && b.isSome && c.isSome && d.isSome) = (m4 a b c d).isSome := by
  cases a <;> cases b <;> cases c <;> cases d <;> exact ⟨rfl, rfl⟩
end Go.Proofs.YtejkeihgcggmbaaDoor
