/-
  The walks of the reference's operations on exact fractions that are made of others.
-/
import Derived.Test.YtddfpbdmppnkiaaWc
namespace Go.Proofs.Ytddfpbdmppnkiaa
set_option linter.unusedSimpArgs false
set_option linter.unusedVariables false
open Go.RowKit
theorem sum_bd (a b : Fr) (ha : fvalid a = true) (hb : fvalid b = true) : (-4000000000000000000 ≤ a.re * b.den ∧ a.re * b.den ≤ 4000000000000000000) ∧ (-4000000000000000000 ≤ b.re * a.den ∧ b.re * a.den ≤ 4000000000000000000) ∧ (-4000000000000000000 ≤ a.im * b.den ∧ a.im * b.den ≤ 4000000000000000000) ∧ (-4000000000000000000 ≤ b.im * a.den ∧ b.im * a.den ≤ 4000000000000000000) ∧ (1 ≤ a.den * b.den ∧ a.den * b.den ≤ 4000000000000000000) := by
  obtain ⟨⟨a1, a2⟩, ⟨a3, a4⟩, ⟨a5, a6⟩⟩ := fvalid_bd a ha
  obtain ⟨⟨b1, b2⟩, ⟨b3, b4⟩, ⟨b5, b6⟩⟩ := fvalid_bd b hb
  exact ⟨mulbd _ _ a1 a2 (by omega) b6, mulbd _ _ b1 b2 (by omega) a6, mulbd _ _ a3 a4 (by omega) b6, mulbd _ _ b3 b4 (by omega) a6, mulbd1 _ _ a5 a6 b5 b6⟩
end Go.Proofs.Ytddfpbdmppnkiaa
