/-
  The walk of the statement that compares MeterRow with the reference's: it returns true, for all stations.
-/
import Derived.Test.YtodhbkinbcemnaaGreatDoorUl
import Derived.Test.YtodhbkinbcemnaaGreatDoorSb
import Derived.Test.YtodhbkinbcemnaaGreatDoorPh
namespace Go.Proofs.YtodhbkinbcemnaaGreatDoor
set_option linter.unusedSimpArgs false
set_option linter.unusedVariables false
open Go.RowKit
attribute [local go_sem ↓] Go.wp_at_zero Go.wp_at_succ
theorem rwb_form (s : Sta) : ∃ (q : Mt) (ok : Bool), rwb (rowI s) = .tuple #[mtv q, .bool ok] ∧ ok = (rowI s).isSome ∧ (ok = true → rowI s = some (row4 q)) := by
  cases h : rowI s with
  | none => exact ⟨zm, false, rfl, rfl, fun h => by cases h⟩
  | some r =>
    obtain ⟨h1, -⟩ := row_some h
    match r, h1 with
    | [a, b, c, d], _ => exact ⟨⟨a, b, c, d⟩, true, rfl, rfl, fun _ => rfl⟩
/-- What the row's value and its mark say. -/
theorem row_parts (s : Sta) : ∃ (q : Mt) (ok : Bool), rwb (rowI s) = .tuple #[mtv q, .bool ok] ∧ ok = rowOk s ∧ (ok = true → rowG s = row4 q) := by
  obtain ⟨q, ok, h1, h2, h3⟩ := rwb_form s
  exact ⟨q, ok, h1, h2, fun h => by rw [rowG, h3 h]; rfl⟩
theorem row_m (s : Sta) (q : Mt) (ok : Bool) (w : World) (hO : GO w) (hZ : GZ w) (hT : GT w) (e : Hid (rwb (rowI s) = .tuple #[mtv q, .bool ok])) :
    Calls Tryz.prog 25 #[stv s] w fun e w' => e = .returned (.tuple #[mtv q, .bool ok]) ∧ Below w.heap.size w w' := by
  rw [← e.out]; exact meterRow_any s w hO hZ hT
theorem srow_m (s : Sta) (q : Mt) (ok : Bool) (w : World) (e : Hid (rwb (rowI s) = .tuple #[mtv q, .bool ok])) :
    Calls Tryz.prog 29 #[stv s] w fun e w' => e = .returned (.tuple #[mtv q, .bool ok]) ∧ Below w.heap.size w w' := by
  rw [← e.out]; exact smeterRow_any s w
end Go.Proofs.YtodhbkinbcemnaaGreatDoor
