/-
  The walks of the functions on vectors of light, program and reference.
-/
import Derived.Test.YtejkeihgcggmbaaDoorSm
import Derived.Deep.RegionHeld3
import Derived.Deep.DrawnRows
namespace Go.Proofs.YtejkeihgcggmbaaDoor
set_option linter.unusedSimpArgs false
set_option linter.unusedVariables false
open Go.RowKit
attribute [local go_sem ↓] Go.wp_at_zero Go.wp_at_succ
/-- A vector of light. -/
structure Jn where
  x : Fr
  y : Fr
  deriving DecidableEq
abbrev jnv (a : Jn) : Value := .agg #[.int .i64 a.x.re, .int .i64 a.x.im, .int .i64 a.x.den, .int .i64 a.y.re, .int .i64 a.y.im, .int .i64 a.y.den]
abbrev jnb (o : Option Jn) : Value := .tuple #[jnv (o.getD ⟨⟨0, 0, 0⟩, ⟨0, 0, 0⟩⟩), .bool o.isSome]
abbrev Z3 : Fr := ⟨0, 0, 0⟩
def jvalid (a : Jn) : Bool := fvalid a.x && fvalid a.y
def jpowerI (a : Jn) : Option Fr := if jvalid a then (powerI a.x).bind fun x => (powerI a.y).bind fun y => addI x y else none
def jaddI (a b : Jn) : Option Jn := (addI a.x b.x).bind fun x => (addI a.y b.y).bind fun y => some ⟨x, y⟩
def jlessI (a b : Jn) : Option Jn := (lessI a.x b.x).bind fun x => (lessI a.y b.y).bind fun y => some ⟨x, y⟩
def jtimesI (a : Jn) (c : Fr) : Option Jn := (timesI a.x c).bind fun x => (timesI a.y c).bind fun y => some ⟨x, y⟩
def jdark (a : Jn) : Bool := a.x == ⟨0, 0, 1⟩ && a.y == ⟨0, 0, 1⟩
/-- The sum of two products. -/
def innerI (a b c d : Fr) : Option Fr := (timesI a b).bind fun x => (timesI c d).bind fun y => addI x y
def jalikeI (a b : Jn) : Bool := jvalid a && jvalid b && (timesI a.x b.y).isSome && (timesI a.y b.x).isSome && (timesI a.x b.y == timesI a.y b.x) && (jdark a == jdark b)
end Go.Proofs.YtejkeihgcggmbaaDoor
