/-
  The walks of MeterCalibrate, the program's and the reference's.
-/
import Derived.Test.YtodhbkinbcemnaaGreatDoorKj
import Derived.Test.YtodhbkinbcemnaaGreatDoorPh
namespace Go.Proofs.YtodhbkinbcemnaaGreatDoor
set_option linter.unusedSimpArgs false
set_option linter.unusedVariables false
open Go.RowKit
attribute [local go_sem ↓] Go.wp_at_zero Go.wp_at_succ
theorem ArrW.newM (W : World) (m : Mt) (t : TypeId) : ArrW (W.alloc (.cells #[.int .i64 m.a.re, .int .i64 m.a.im, .int .i64 m.a.den, .int .i64 m.b.re, .int .i64 m.b.im, .int .i64 m.b.den, .int .i64 m.c.re, .int .i64 m.c.im, .int .i64 m.c.den, .int .i64 m.d.re, .int .i64 m.d.im, .int .i64 m.d.den] t)) W.heap.size (row4 m) := by
  refine ⟨fun i s hi => ?_, fun o => frozenNew W _ t o, by simp⟩
  have hi4 := (List.getElem?_eq_some_iff.1 hi).1
  have : i = 0 ∨ i = 1 ∨ i = 2 ∨ i = 3 := by simp [row4] at hi4; omega
  rcases this with rfl | rfl | rfl | rfl <;> (simp [row4] at hi; subst hi; exact ⟨World.cell?_alloc_at _ _ _ _ rfl, World.cell?_alloc_at _ _ _ _ rfl, World.cell?_alloc_at _ _ _ _ rfl⟩)
theorem arrV_form (o : Option (List Fr)) : ∃ (q : Mt) (ok : Bool), arrV o = .tuple #[mtv q, .bool ok] := by
  unfold arrV
  split
  · rename_i x y z u
    exact ⟨⟨x, y, z, u⟩, true, rfl⟩
  · exact ⟨⟨⟨0, 0, 0⟩, ⟨0, 0, 0⟩, ⟨0, 0, 0⟩, ⟨0, 0, 0⟩⟩, false, rfl⟩
theorem solve_m (A : Option Addr) (len cap : Nat) (rows : List (List Fr)) (A2 : Option Addr) (len2 cap2 : Nat) (rs : List Fr) (q : Mt) (ok : Bool) (w : World) (hR0 : ∀ bs, w.heap.size ≤ bs → RowsAt bs A len cap rows w) (hrl : ∀ r ∈ rows, r.length = 4) (hF : Frs A2 len2 cap2 rs w) (hG : GZ w) (e : Hid (arrV (solI rows rs) = .tuple #[mtv q, .bool ok])) :
    Calls Tryz.prog 55 #[.slice A len cap, .slice A2 len2 cap2] w fun e w' => e = .returned (.tuple #[mtv q, .bool ok]) ∧ Below w.heap.size w w' := by
  rw [← e.out]; exact solve_any A len cap rows A2 len2 cap2 rs w hR0 hrl hF hG
theorem ssolve_m (A : Option Addr) (cap : Nat) (rows : List (List Fr)) (A2 : Option Addr) (len2 cap2 : Nat) (rs : List Fr) (q : Mt) (ok : Bool) (w : World) (hR0 : ∀ bs, w.heap.size ≤ bs → RowsAt bs A 4 cap rows w) (hrl : ∀ r ∈ rows, r.length = 4) (hF : Frs A2 len2 cap2 rs w) (e : Hid (arrV (solS rows rs) = .tuple #[mtv q, .bool ok])) :
    Calls Tryz.prog 58 #[.slice A 4 cap, .slice A2 len2 cap2] w fun e w' => e = .returned (.tuple #[mtv q, .bool ok]) ∧ Below w.heap.size w w' := by
  rw [← e.out]; exact ssolve_any A cap rows A2 len2 cap2 rs w hR0 hrl hF
end Go.Proofs.YtodhbkinbcemnaaGreatDoor
