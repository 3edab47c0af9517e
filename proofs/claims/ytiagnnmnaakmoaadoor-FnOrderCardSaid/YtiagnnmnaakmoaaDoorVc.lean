/-
  Whole waves of one plate leave light as it was: plain arithmetic.
-/
import Derived.Test.YtiagnnmnaakmoaaDoorVb
import Derived.Test.YtiagnnmnaakmoaaDoorPs
import Derived.Test.YtiagnnmnaakmoaaDoorFx
import Derived.Test.YtiagnnmnaakmoaaDoorSh
namespace Go.Proofs.YtiagnnmnaakmoaaDoor
set_option linter.unusedSimpArgs false
set_option linter.unusedVariables false
open Go.RowKit
theorem plate_rw {p q k : Int} {pl : Mt} (h : dirOk p q = true) (hk : inB k 0 3 = true) (e : plateI p q k = some pl) : RW pl (p * p - q * q) (2 * p * q) (phR k) (phJ k) (p * p + q * q) := by
  obtain ⟨a, ea, ha⟩ := repM_rd h hk
  have hadj := repM_adj h
  have e2 : mtimesI a (adjR p q) = some pl := by simpa [plateI, h, hk, ea] using e
  have h1 : RM a (p * p - q * q) 0 (-(2 * p * q) * phR k) (-(2 * p * q) * phJ k) (2 * p * q) 0 ((p * p - q * q) * phR k) ((p * p - q * q) * phJ k) (p * p + q * q) := by
    obtain ⟨r0, r1, r2, r3⟩ := ha
    exact ⟨by simpa [f4] using r0, by simpa [f4] using r1, by simpa [f4] using r2, by simpa [f4] using r3⟩
  have h2 : RM (adjR p q) (p * p - q * q) 0 (2 * p * q) 0 (-(2 * p * q)) 0 (p * p - q * q) 0 (p * p + q * q) := by
    obtain ⟨r0, r1, r2, r3⟩ := hadj
    exact ⟨by simpa [f4] using r0, by simpa [f4] using r1, by simpa [f4] using r2, by simpa [f4] using r3⟩
  obtain ⟨ra, rb, rc, rd⟩ := rm_times h1 h2 e2
  generalize p * p - q * q = c at *
  generalize 2 * p * q = s at *
  generalize p * p + q * q = n at *
  generalize phR k = u at *
  generalize phJ k = v at *
  refine ⟨?_, ?_, ?_, ?_⟩
  · refine cast ?_ ra
    clear ra rb rc rd h1 h2 e2 e ea ha hadj
    congr 1 <;> grind
  · refine cast ?_ rb
    clear ra rb rc rd h1 h2 e2 e ea ha hadj
    congr 1 <;> grind
  · refine cast ?_ rc
    clear ra rb rc rd h1 h2 e2 e ea ha hadj
    congr 1 <;> grind
  · refine cast ?_ rd
    clear ra rb rc rd h1 h2 e2 e ea ha hadj
    congr 1 <;> grind
end Go.Proofs.YtiagnnmnaakmoaaDoor
