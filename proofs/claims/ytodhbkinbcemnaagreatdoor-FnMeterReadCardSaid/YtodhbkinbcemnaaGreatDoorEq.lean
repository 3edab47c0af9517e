/-
  Equality of two matrices whose parts are the same numbers.
-/
import Derived.Test.YtodhbkinbcemnaaGreatDoorPf
import Derived.DeepKeys
namespace Go.Proofs.YtodhbkinbcemnaaGreatDoor
set_option linter.unusedSimpArgs false
set_option linter.unusedVariables false
open Go.RowKit
attribute [local go_sem ↓] Go.wp_at_zero Go.wp_at_succ
theorem part_f (m : Mt) (w : World) : (part 25 #[.int .i64 m.a.re, .int .i64 m.a.im, .int .i64 m.a.den, .int .i64 m.b.re, .int .i64 m.b.im, .int .i64 m.b.den, .int .i64 m.c.re, .int .i64 m.c.im, .int .i64 m.c.den, .int .i64 m.d.re, .int .i64 m.d.im, .int .i64 m.d.den] 0).run Tryz.prog w = .ok (frv m.a) w ∧ (part 25 #[.int .i64 m.a.re, .int .i64 m.a.im, .int .i64 m.a.den, .int .i64 m.b.re, .int .i64 m.b.im, .int .i64 m.b.den, .int .i64 m.c.re, .int .i64 m.c.im, .int .i64 m.c.den, .int .i64 m.d.re, .int .i64 m.d.im, .int .i64 m.d.den] 3).run Tryz.prog w = .ok (frv m.b) w ∧ (part 25 #[.int .i64 m.a.re, .int .i64 m.a.im, .int .i64 m.a.den, .int .i64 m.b.re, .int .i64 m.b.im, .int .i64 m.b.den, .int .i64 m.c.re, .int .i64 m.c.im, .int .i64 m.c.den, .int .i64 m.d.re, .int .i64 m.d.im, .int .i64 m.d.den] 6).run Tryz.prog w = .ok (frv m.c) w ∧ (part 25 #[.int .i64 m.a.re, .int .i64 m.a.im, .int .i64 m.a.den, .int .i64 m.b.re, .int .i64 m.b.im, .int .i64 m.b.den, .int .i64 m.c.re, .int .i64 m.c.im, .int .i64 m.c.den, .int .i64 m.d.re, .int .i64 m.d.im, .int .i64 m.d.den] 9).run Tryz.prog w = .ok (frv m.d) w := ⟨by kernel_rfl, by kernel_rfl, by kernel_rfl, by kernel_rfl⟩
theorem part_i (a : Fr) (w : World) : (part 3 #[.int .i64 a.re, .int .i64 a.im, .int .i64 a.den] 0).run Tryz.prog w = .ok (.int .i64 a.re) w ∧ (part 3 #[.int .i64 a.re, .int .i64 a.im, .int .i64 a.den] 1).run Tryz.prog w = .ok (.int .i64 a.im) w ∧ (part 3 #[.int .i64 a.re, .int .i64 a.im, .int .i64 a.den] 2).run Tryz.prog w = .ok (.int .i64 a.den) w := ⟨by kernel_rfl, by kernel_rfl, by kernel_rfl⟩
theorem fields_f : (Tryz.prog.fieldsOf 25).toList.map (fun f => (f.name == "_", f.type, f.offset)) = [(false, 3, 0), (false, 3, 1), (false, 3, 2)] := by kernel_rfl
theorem eqF_run (d : Nat) (a : Fr) (w : World) : (Op.equalIn (d + 2) 25 (frv a) (frv a)).run Tryz.prog w = .ok true w := by
  rw [run_equalIn_struct w (d + 1) _ _ _ (by kernel_rfl) (by kernel_rfl)]
  have hf := fields_f
  generalize (Tryz.prog.fieldsOf 25).toList = fs at hf
  obtain ⟨f0, f1, f2, rfl⟩ : ∃ f0 f1 f2, fs = [f0, f1, f2] := by
    have hl : fs.length = 3 := by simpa using congrArg List.length hf
    rcases fs with _ | ⟨f0, _ | ⟨f1, _ | ⟨f2, _ | ⟨f3, fs⟩⟩⟩⟩
    · simp at hl
    · simp at hl
    · simp at hl
    · exact ⟨f0, f1, f2, rfl⟩
    · simp at hl
  simp only [List.map_cons, List.map_nil, List.cons.injEq, Prod.mk.injEq, and_true] at hf
  obtain ⟨⟨n0, t0, o0⟩, ⟨n1, t1, o1⟩, ⟨n2, t2, o2⟩⟩ := hf
  obtain ⟨p0, p1, p2⟩ := part_i a w
  have ei : ∀ x : Int, (Op.equalIn (d + 1) 3 (.int .i64 x) (.int .i64 x)).run Tryz.prog w = .ok true w := fun x => by
    rw [run_equalIn_int w d 3 .i64 .i64 x x Tryz.underlying3]; simp
  have m0 : f0.name ≠ "_" := by simpa using n0
  have m1 : f1.name ≠ "_" := by simpa using n1
  have m2 : f2.name ≠ "_" := by simpa using n2
  simp only [Op.eqFields, Sem.run_bind, t0, t1, t2, o0, o1, o2, m0, m1, m2, ne_eq, not_false_eq_true, if_true, p0, p1, p2, ei, Result.andThen_ok, Bool.not_true, Bool.false_eq_true, if_false, Sem.run_pure]
theorem eqM_run (m : Mt) (w : World) : (Op.equalIn 9999 26 (mtv m) (mtv m)).run Tryz.prog w = .ok true w := by
  obtain ⟨i, hi⟩ : ∃ i, Tryz.prog.info? 25 = some i := Option.isSome_iff_exists.1 (by kernel_rfl)
  rw [show (9999 : Nat) = 9998 + 1 from rfl, run_equalIn_array w 9998 _ _ Tryz.underlying26 hi]
  obtain ⟨p0, p1, p2, p3⟩ := part_f m w
  have e : ∀ a : Fr, (Op.equalIn 9998 25 (frv a) (frv a)).run Tryz.prog w = .ok true w := fun a => eqF_run 9996 a w
  simp only [show List.range 4 = [0, 1, 2, 3] from rfl, show Tryz.prog.cellsOf 25 = 3 by kernel_rfl, Op.eqItems, Sem.run_bind, Nat.zero_mul, Nat.one_mul, show 2 * 3 = 6 from rfl, show 3 * 3 = 9 from rfl, p0, p1, p2, p3, e, Result.andThen_ok, Bool.not_true, Bool.false_eq_true, if_false, Sem.run_pure]
end Go.Proofs.YtodhbkinbcemnaaGreatDoor
