/-
  The walks of the products of matrices, and of a matrix and a vector (program).
-/
import Derived.Test.YtejkeihgcggmbaaDoorMu
namespace Go.Proofs.YtejkeihgcggmbaaDoor
set_option linter.unusedSimpArgs false
set_option linter.unusedVariables false
open Go.RowKit
attribute [local go_sem ↓] Go.wp_at_zero Go.wp_at_succ
/-- A matrix in a block. -/
def MtAt (w : World) (b : Nat) (m : Mt) : Prop := w.cell? ⟨b, 0, none⟩ = some (.int .i64 m.a.re) ∧ w.cell? ⟨b, 1, none⟩ = some (.int .i64 m.a.im) ∧ w.cell? ⟨b, 2, none⟩ = some (.int .i64 m.a.den) ∧ w.cell? ⟨b, 3, none⟩ = some (.int .i64 m.b.re) ∧ w.cell? ⟨b, 4, none⟩ = some (.int .i64 m.b.im) ∧ w.cell? ⟨b, 5, none⟩ = some (.int .i64 m.b.den) ∧ w.cell? ⟨b, 6, none⟩ = some (.int .i64 m.c.re) ∧ w.cell? ⟨b, 7, none⟩ = some (.int .i64 m.c.im) ∧ w.cell? ⟨b, 8, none⟩ = some (.int .i64 m.c.den) ∧ w.cell? ⟨b, 9, none⟩ = some (.int .i64 m.d.re) ∧ w.cell? ⟨b, 10, none⟩ = some (.int .i64 m.d.im) ∧ w.cell? ⟨b, 11, none⟩ = some (.int .i64 m.d.den)
def JnAt (w : World) (b : Nat) (v : Jn) : Prop := w.cell? ⟨b, 0, none⟩ = some (.int .i64 v.x.re) ∧ w.cell? ⟨b, 1, none⟩ = some (.int .i64 v.x.im) ∧ w.cell? ⟨b, 2, none⟩ = some (.int .i64 v.x.den) ∧ w.cell? ⟨b, 3, none⟩ = some (.int .i64 v.y.re) ∧ w.cell? ⟨b, 4, none⟩ = some (.int .i64 v.y.im) ∧ w.cell? ⟨b, 5, none⟩ = some (.int .i64 v.y.den)
def cellV (p q r s : Fr) : Fr := (addI ((timesI p q).getD ⟨0, 0, 0⟩) ((timesI r s).getD ⟨0, 0, 0⟩)).getD ⟨0, 0, 0⟩
def cellN (p q r s : Fr) : Bool := (timesI p q).isNone || (timesI r s).isNone || (addI ((timesI p q).getD ⟨0, 0, 0⟩) ((timesI r s).getD ⟨0, 0, 0⟩)).isNone
theorem inner_eq (p q r s : Fr) : innerI p q r s = if cellN p q r s then none else some (cellV p q r s) := by
  unfold innerI cellN cellV
  cases hx : timesI p q
  · simp
  cases hy : timesI r s
  · simp
  rename_i x y
  cases hz : addI x y <;> simp [hz]
end Go.Proofs.YtejkeihgcggmbaaDoor
