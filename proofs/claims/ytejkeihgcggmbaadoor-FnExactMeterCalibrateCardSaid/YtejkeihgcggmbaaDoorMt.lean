/-
  The walks of the functions on matrices of elements, program and reference: definitions, validity.
-/
import Derived.Test.YtejkeihgcggmbaaDoorJn
import Derived.LoopN
namespace Go.Proofs.YtejkeihgcggmbaaDoor
set_option linter.unusedSimpArgs false
set_option linter.unusedVariables false
open Go.RowKit
attribute [local go_sem ↓] Go.wp_at_zero Go.wp_at_succ
/-- A matrix of an element. -/
structure Mt where
  a : Fr
  b : Fr
  c : Fr
  d : Fr
  deriving DecidableEq
abbrev mtv (m : Mt) : Value := .agg #[.int .i64 m.a.re, .int .i64 m.a.im, .int .i64 m.a.den, .int .i64 m.b.re, .int .i64 m.b.im, .int .i64 m.b.den, .int .i64 m.c.re, .int .i64 m.c.im, .int .i64 m.c.den, .int .i64 m.d.re, .int .i64 m.d.im, .int .i64 m.d.den]
abbrev mtb (o : Option Mt) : Value := .tuple #[mtv (o.getD ⟨⟨0, 0, 0⟩, ⟨0, 0, 0⟩, ⟨0, 0, 0⟩, ⟨0, 0, 0⟩⟩), .bool o.isSome]
def mvalid (m : Mt) : Bool := fvalid m.a && fvalid m.b && fvalid m.c && fvalid m.d
def m4 (a b c d : Option Fr) : Option Mt := a.bind fun x => b.bind fun y => c.bind fun z => d.bind fun u => some ⟨x, y, z, u⟩
def mtimesI (m n : Mt) : Option Mt := if mvalid m && mvalid n then m4 (innerI m.a n.a m.b n.c) (innerI m.a n.b m.b n.d) (innerI m.c n.a m.d n.c) (innerI m.c n.b m.d n.d) else none
def madjI (m : Mt) : Option Mt := m4 (mirrorI m.a) (mirrorI m.c) (mirrorI m.b) (mirrorI m.d)
def mapplyI (m : Mt) (v : Jn) : Option Jn := if mvalid m && jvalid v then (innerI m.a v.x m.b v.y).bind fun x => (innerI m.c v.x m.d v.y).bind fun y => some ⟨x, y⟩ else none
theorem idx0 (m : Mt) (w : World) : (Instr.index 28 (.agg #[.int .i64 m.a.re, .int .i64 m.a.im, .int .i64 m.a.den, .int .i64 m.b.re, .int .i64 m.b.im, .int .i64 m.b.den, .int .i64 m.c.re, .int .i64 m.c.im, .int .i64 m.c.den, .int .i64 m.d.re, .int .i64 m.d.im, .int .i64 m.d.den]) (.int .i64 0)).run Tryd.prog w = .ok (frv m.a) w := by kernel_rfl
theorem idx1 (m : Mt) (w : World) : (Instr.index 28 (.agg #[.int .i64 m.a.re, .int .i64 m.a.im, .int .i64 m.a.den, .int .i64 m.b.re, .int .i64 m.b.im, .int .i64 m.b.den, .int .i64 m.c.re, .int .i64 m.c.im, .int .i64 m.c.den, .int .i64 m.d.re, .int .i64 m.d.im, .int .i64 m.d.den]) (.int .i64 1)).run Tryd.prog w = .ok (frv m.b) w := by kernel_rfl
theorem idx2 (m : Mt) (w : World) : (Instr.index 28 (.agg #[.int .i64 m.a.re, .int .i64 m.a.im, .int .i64 m.a.den, .int .i64 m.b.re, .int .i64 m.b.im, .int .i64 m.b.den, .int .i64 m.c.re, .int .i64 m.c.im, .int .i64 m.c.den, .int .i64 m.d.re, .int .i64 m.d.im, .int .i64 m.d.den]) (.int .i64 2)).run Tryd.prog w = .ok (frv m.c) w := by kernel_rfl
theorem idx3 (m : Mt) (w : World) : (Instr.index 28 (.agg #[.int .i64 m.a.re, .int .i64 m.a.im, .int .i64 m.a.den, .int .i64 m.b.re, .int .i64 m.b.im, .int .i64 m.b.den, .int .i64 m.c.re, .int .i64 m.c.im, .int .i64 m.c.den, .int .i64 m.d.re, .int .i64 m.d.im, .int .i64 m.d.den]) (.int .i64 3)).run Tryd.prog w = .ok (frv m.d) w := by kernel_rfl
attribute [local go_sem] idx0 idx1 idx2 idx3
end Go.Proofs.YtejkeihgcggmbaaDoor
