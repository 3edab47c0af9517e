/-
  Plain laws of the exact fractions.
-/
import Derived.Test.YtejpbdgblpehnaaDoorJn
namespace Go.Proofs.YtejpbdgblpehnaaDoor
set_option linter.unusedSimpArgs false
set_option linter.unusedVariables false
theorem lowI_self {a : Fr} (h : fvalid a = true) : lowI a.re a.im a.den = some a := by
  have hb := fvalid_bd a h
  have hg := fvalid_gcd a h
  have h1 : inB a.re (-2000000000) 2000000000 = true := by rw [inB_iff]; exact hb.1
  have h2 : inB a.im (-2000000000) 2000000000 = true := by rw [inB_iff]; exact hb.2.1
  have h3 : ¬ (2000000000 < a.den) := by omega
  simp [lowI, hg, h1, h2, h3]
theorem over_one {a : Fr} (h : fvalid a = true) : overI a ⟨1, 0, 1⟩ = some a := by
  have h1 : fvalid ⟨1, 0, 1⟩ = true := by decide
  have h2 : turnI ⟨1, 0, 1⟩ = some ⟨1, 0, 1⟩ := by decide
  have h3 : isZero ⟨1, 0, 1⟩ = false := by decide
  simp [overI, h, h1, h2, h3, timesI, lowI_self h]
end Go.Proofs.YtejpbdgblpehnaaDoor
