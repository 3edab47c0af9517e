/-
  Products of matrices, and powers of a plate: what they stand for. Plain arithmetic.
-/
import Derived.Test.YtiagnnmnaakmoaaDoorVa
namespace Go.Proofs.YtiagnnmnaakmoaaDoor
set_option linter.unusedSimpArgs false
set_option linter.unusedVariables false
open Go.RowKit
/-- The parts of a matrix stand for these numbers over one bottom. -/
structure RM (m : Mt) (x0 y0 x1 y1 x2 y2 x3 y3 d : Int) : Prop where
  a : Rep m.a x0 y0 d
  b : Rep m.b x1 y1 d
  c : Rep m.c x2 y2 d
  d : Rep m.d x3 y3 d
theorem RM.valid {m : Mt} {x0 y0 x1 y1 x2 y2 x3 y3 d : Int} (h : RM m x0 y0 x1 y1 x2 y2 x3 y3 d) : mvalid m = true := by simp [mvalid, h.a.ok, h.b.ok, h.c.ok, h.d.ok]
theorem m4_some {a b c d : Option Fr} {r : Mt} (h : m4 a b c d = some r) : a = some r.a ∧ b = some r.b ∧ c = some r.c ∧ d = some r.d := by
  cases a with
  | none => cases h
  | some a => cases b with
    | none => cases h
    | some b => cases c with
      | none => cases h
      | some c => cases d with
        | none => cases h
        | some d => obtain rfl := Option.some.inj h; exact ⟨rfl, rfl, rfl, rfl⟩
theorem rm_times {m n r : Mt} {x0 y0 x1 y1 x2 y2 x3 y3 d u0 v0 u1 v1 u2 v2 u3 v3 e : Int} (hm : RM m x0 y0 x1 y1 x2 y2 x3 y3 d) (hn : RM n u0 v0 u1 v1 u2 v2 u3 v3 e) (h : mtimesI m n = some r) :
    RM r ((x0 * u0 - y0 * v0) + (x1 * u2 - y1 * v2)) ((x0 * v0 + y0 * u0) + (x1 * v2 + y1 * u2)) ((x0 * u1 - y0 * v1) + (x1 * u3 - y1 * v3)) ((x0 * v1 + y0 * u1) + (x1 * v3 + y1 * u3))
      ((x2 * u0 - y2 * v0) + (x3 * u2 - y3 * v2)) ((x2 * v0 + y2 * u0) + (x3 * v2 + y3 * u2)) ((x2 * u1 - y2 * v1) + (x3 * u3 - y3 * v3)) ((x2 * v1 + y2 * u1) + (x3 * v3 + y3 * u3)) (d * e) := by
  rw [mtimesI, hm.valid, hn.valid] at h
  obtain ⟨ha, hb, hc, hd⟩ := m4_some (by simpa using h)
  exact ⟨val_inner hm.a hn.a hm.b hn.c ha, val_inner hm.a hn.b hm.b hn.d hb, val_inner hm.c hn.a hm.d hn.c hc, val_inner hm.c hn.b hm.d hn.d hd⟩
/-- A power of a plate, of direction c, s over n: its phase is a + bi. -/
def RW (m : Mt) (c s a b n : Int) : Prop := RM m (c * c + s * s * a) (s * s * b) (c * s * (1 - a)) (-(c * s * b)) (c * s * (1 - a)) (-(c * s * b)) (s * s + c * c * a) (c * c * b) (n * n)
end Go.Proofs.YtiagnnmnaakmoaaDoor
