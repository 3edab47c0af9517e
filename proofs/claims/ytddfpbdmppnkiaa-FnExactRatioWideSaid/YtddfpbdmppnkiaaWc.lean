/-
  The walks of division, power, mirror and comparison of exact fractions, program and reference; what the package-level variables hold.
-/
import Derived.Test.YtddfpbdmppnkiaaWb
namespace Go.Proofs.Ytddfpbdmppnkiaa
set_option linter.unusedSimpArgs false
set_option linter.unusedVariables false
open Go.RowKit
abbrev IsFr (w : World) (g o : Nat) (a : Fr) : Prop := w.cell? ⟨g, o, none⟩ = some (.int .i64 a.re) ∧ w.cell? ⟨g, o + 1, none⟩ = some (.int .i64 a.im) ∧ w.cell? ⟨g, o + 2, none⟩ = some (.int .i64 a.den)
theorem IsFr.below {w w' : World} {g o : Nat} {a : Fr} (h : IsFr w g o a) (hb : Below w.heap.size w w') (hg : g < w.heap.size) : IsFr w' g o a :=
  ⟨(hb.cell (p := ⟨g, o, none⟩) hg).trans h.1, (hb.cell (p := ⟨g, o + 1, none⟩) hg).trans h.2.1, (hb.cell (p := ⟨g, o + 2, none⟩) hg).trans h.2.2⟩
/- What the package-level variables that the code reads hold: one statement for each. -/
theorem over_bd (b : Fr) (hb : fvalid b = true) (hz : isZero b = false) : (-9000000000000000000 ≤ b.den * b.re ∧ b.den * b.re ≤ 9000000000000000000) ∧ (-9000000000000000000 ≤ -b.den * b.im ∧ -b.den * b.im ≤ 9000000000000000000) ∧ (1 ≤ b.re * b.re + b.im * b.im ∧ b.re * b.re + b.im * b.im ≤ 9000000000000000000) ∧ (b.re * b.re ≤ 4000000000000000000 ∧ -4000000000000000000 ≤ b.re * b.re) ∧ (b.im * b.im ≤ 4000000000000000000 ∧ -4000000000000000000 ≤ b.im * b.im) ∧ (-9000000000000000000 ≤ -b.den ∧ -b.den ≤ 9000000000000000000) := by
  obtain ⟨⟨b1, b2⟩, ⟨b3, b4⟩, ⟨b5, b6⟩⟩ := fvalid_bd b hb
  have n := norm_pos b hz
  have m1 := mulbd b.den b.re (by omega) (by omega) (by omega) (by omega)
  have m2 := mulbd (-b.den) b.im (by omega) (by omega) (by omega) (by omega)
  have m3 := mulbd b.re b.re (by omega) (by omega) (by omega) (by omega)
  have m4 := mulbd b.im b.im (by omega) (by omega) (by omega) (by omega)
  omega
theorem power_bd (b : Fr) (hb : fvalid b = true) : (-9000000000000000000 ≤ b.re * b.re + b.im * b.im ∧ b.re * b.re + b.im * b.im ≤ 9000000000000000000) ∧ (b.re * b.re ≤ 4000000000000000000 ∧ -4000000000000000000 ≤ b.re * b.re) ∧ (b.im * b.im ≤ 4000000000000000000 ∧ -4000000000000000000 ≤ b.im * b.im) ∧ (1 ≤ b.den * b.den ∧ b.den * b.den ≤ 9000000000000000000) := by
  obtain ⟨⟨b1, b2⟩, ⟨b3, b4⟩, ⟨b5, b6⟩⟩ := fvalid_bd b hb
  have m2 := mulbd1 b.den b.den (by omega) (by omega) (by omega) (by omega)
  have m3 := mulbd b.re b.re (by omega) (by omega) (by omega) (by omega)
  have m4 := mulbd b.im b.im (by omega) (by omega) (by omega) (by omega)
  omega
end Go.Proofs.Ytddfpbdmppnkiaa
