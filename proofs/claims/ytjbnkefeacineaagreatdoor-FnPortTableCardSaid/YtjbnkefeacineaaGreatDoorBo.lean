/-
  Blocks of memory with all their cells: plain.
-/
import Derived.Test.YtjbnkefeacineaaGreatDoorPa
import Derived.Test.YtjbnkefeacineaaGreatDoorMt
namespace Go.Proofs.YtjbnkefeacineaaGreatDoor
set_option linter.unusedSimpArgs false
set_option linter.unusedVariables false
open Go.RowKit
/-- A block of memory with all its cells. -/
abbrev Blk (W : World) (b : Nat) (cs : Array Value) (ty : TypeId) : Prop := W.heap[b]? = some (.cells cs ty (0, 0))
/-- The cells of a fraction, of a matrix. -/
def frc (f : Fr) : Array Value := #[.int .i64 f.re, .int .i64 f.im, .int .i64 f.den]
def mtc (m : Mt) : Array Value := #[.int .i64 m.a.re, .int .i64 m.a.im, .int .i64 m.a.den, .int .i64 m.b.re, .int .i64 m.b.im, .int .i64 m.b.den, .int .i64 m.c.re, .int .i64 m.c.im, .int .i64 m.c.den, .int .i64 m.d.re, .int .i64 m.d.im, .int .i64 m.d.den]
theorem frc_one (f : Fr) : (frc f).all (·.oneCell') = true := by simp [frc, Value.oneCell']
def z3c : Array Value := #[.int .i64 0, .int .i64 0, .int .i64 0]
def ptv (b : Nat) : Value := .pointer (some ⟨b, 0, none⟩)
theorem blk_lt {W : World} {b : Nat} {cs : Array Value} {ty : TypeId} (h : Blk W b cs ty) : b < W.heap.size := (Array.getElem?_eq_some_iff.1 h).1
theorem blk_fr0 {W : World} {ty : TypeId} {b : Nat} {f : Fr} (h : Blk W b (frc f) ty) : W.cell? ⟨b, 0, none⟩ = some (.int .i64 f.re) ∧ W.cell? ⟨b, 1, none⟩ = some (.int .i64 f.im) ∧ W.cell? ⟨b, 2, none⟩ = some (.int .i64 f.den) := by
  refine ⟨?_, ?_, ?_⟩ <;> simp [World.cell?, h, frc]
end Go.Proofs.YtjbnkefeacineaaGreatDoor
