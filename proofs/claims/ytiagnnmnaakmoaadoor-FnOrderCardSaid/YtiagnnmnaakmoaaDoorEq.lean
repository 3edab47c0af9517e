/-
  Equality of two matrices whose parts are the same numbers.
-/
import Derived.Test.YtiagnnmnaakmoaaDoorMu
import Derived.DeepKeys
namespace Go.Proofs.YtiagnnmnaakmoaaDoor
set_option linter.unusedSimpArgs false
set_option linter.unusedVariables false
open Go.RowKit
attribute [local go_sem ↓] Go.wp_at_zero Go.wp_at_succ
theorem part_f (m : Mt) (w : World) : (part 31 #[.int .i64 m.a.re, .int .i64 m.a.im, .int .i64 m.a.den, .int .i64 m.b.re, .int .i64 m.b.im, .int .i64 m.b.den, .int .i64 m.c.re, .int .i64 m.c.im, .int .i64 m.c.den, .int .i64 m.d.re, .int .i64 m.d.im, .int .i64 m.d.den] 0).run Tryd.prog w = .ok (frv m.a) w ∧ (part 31 #[.int .i64 m.a.re, .int .i64 m.a.im, .int .i64 m.a.den, .int .i64 m.b.re, .int .i64 m.b.im, .int .i64 m.b.den, .int .i64 m.c.re, .int .i64 m.c.im, .int .i64 m.c.den, .int .i64 m.d.re, .int .i64 m.d.im, .int .i64 m.d.den] 3).run Tryd.prog w = .ok (frv m.b) w ∧ (part 31 #[.int .i64 m.a.re, .int .i64 m.a.im, .int .i64 m.a.den, .int .i64 m.b.re, .int .i64 m.b.im, .int .i64 m.b.den, .int .i64 m.c.re, .int .i64 m.c.im, .int .i64 m.c.den, .int .i64 m.d.re, .int .i64 m.d.im, .int .i64 m.d.den] 6).run Tryd.prog w = .ok (frv m.c) w ∧ (part 31 #[.int .i64 m.a.re, .int .i64 m.a.im, .int .i64 m.a.den, .int .i64 m.b.re, .int .i64 m.b.im, .int .i64 m.b.den, .int .i64 m.c.re, .int .i64 m.c.im, .int .i64 m.c.den, .int .i64 m.d.re, .int .i64 m.d.im, .int .i64 m.d.den] 9).run Tryd.prog w = .ok (frv m.d) w := ⟨by kernel_rfl, by kernel_rfl, by kernel_rfl, by kernel_rfl⟩
theorem part_i (a : Fr) (w : World) : (part 3 #[.int .i64 a.re, .int .i64 a.im, .int .i64 a.den] 0).run Tryd.prog w = .ok (.int .i64 a.re) w ∧ (part 3 #[.int .i64 a.re, .int .i64 a.im, .int .i64 a.den] 1).run Tryd.prog w = .ok (.int .i64 a.im) w ∧ (part 3 #[.int .i64 a.re, .int .i64 a.im, .int .i64 a.den] 2).run Tryd.prog w = .ok (.int .i64 a.den) w := ⟨by kernel_rfl, by kernel_rfl, by kernel_rfl⟩
theorem fields_f : (Tryd.prog.fieldsOf 31).toList.map (fun f => (f.name == "_", f.type, f.offset)) = [(false, 3, 0), (false, 3, 1), (false, 3, 2)] := by kernel_rfl
end Go.Proofs.YtiagnnmnaakmoaaDoor
