/-
  Whole waves of one plate leave light as it was: plain arithmetic.
-/
import Derived.Test.YtmaifiakjlbooaaDoorVb
import Derived.Test.YtmaifiakjlbooaaDoorPs
import Derived.Test.YtmaifiakjlbooaaDoorFx
import Derived.Test.YtmaifiakjlbooaaDoorSh
namespace Go.Proofs.YtmaifiakjlbooaaDoor
set_option linter.unusedSimpArgs false
set_option linter.unusedVariables false
open Go.RowKit
theorem plate_rw {p q k : Int} {pl : Mt} (h : dirOk p q = true) (hk : inB k 0 3 = true) (e : plateI p q k = some pl) : RW pl (p * p - q * q) (2 * p * q) (phR k) (phJ k) (p * p + q * q) := by
  obtain ⟨a, ea, ha⟩ := repM_rd h hk
  have hadj := repM_adj h
  have e2 : mtimesI a (adjR p q) = some pl := by simpa [plateI, h, hk, ea] using e
  have h1 : RM a (p * p - q * q) 0 (-(2 * p * q) * phR k) (-(2 * p * q) * phJ k) (2 * p * q) 0 ((p * p - q * q) * phR k) ((p * p - q * q) * phJ k) (p * p + q * q) := by
    obtain ⟨r0, r1, r2, r3⟩ := ha
    exact ⟨by simpa [f4] using r0, by simpa [f4] using r1, by simpa [f4] using r2, by simpa [f4] using r3⟩
  have h2 : RM (adjR p q) (p * p - q * q) 0 (2 * p * q) 0 (-(2 * p * q)) 0 (p * p - q * q) 0 (p * p + q * q) := by
    obtain ⟨r0, r1, r2, r3⟩ := hadj
    exact ⟨by simpa [f4] using r0, by simpa [f4] using r1, by simpa [f4] using r2, by simpa [f4] using r3⟩
  obtain ⟨ra, rb, rc, rd⟩ := rm_times h1 h2 e2
  generalize p * p - q * q = c at *
  generalize 2 * p * q = s at *
  generalize p * p + q * q = n at *
  generalize phR k = u at *
  generalize phJ k = v at *
  refine ⟨?_, ?_, ?_, ?_⟩
  · refine cast ?_ ra
    clear ra rb rc rd h1 h2 e2 e ea ha hadj
    congr 1 <;> grind
  · refine cast ?_ rb
    clear ra rb rc rd h1 h2 e2 e ea ha hadj
    congr 1 <;> grind
  · refine cast ?_ rc
    clear ra rb rc rd h1 h2 e2 e ea ha hadj
    congr 1 <;> grind
  · refine cast ?_ rd
    clear ra rb rc rd h1 h2 e2 e ea ha hadj
    congr 1 <;> grind
/-- The powers of a phase. -/
def cpow (a b : Int) : Nat → Int × Int
  | 0 => (1, 0)
  | n + 1 => (a * (cpow a b n).1 - b * (cpow a b n).2, a * (cpow a b n).2 + b * (cpow a b n).1)
theorem mulN_rw {pl : Mt} {c s a b n : Int} (hn : 1 ≤ n) (hc : c * c + s * s = n * n) (hp : RW pl c s a b n) : ∀ (j : Nat) (m : Mt), mulN pl j oneM = some m → RW m c s (cpow a b j).1 (cpow a b j).2 n
  | 0, m, h => by
    obtain rfl := Option.some.inj h
    exact rw_start hn hc
  | j + 1, m, h => by
    rw [mulN] at h
    cases hx : mulN pl j oneM with
    | none => rw [hx] at h; cases h
    | some x =>
      rw [hx] at h
      exact rw_mul hn hc hp (mulN_rw hn hc hp j x hx) h
theorem beat_pow {k : Int} (hk : inB k 0 3 = true) : cpow (phR k) (phJ k) (beatI k).toNat = (1, 0) := by
  rw [inB_iff] at hk
  rcases (show k = 0 ∨ k = 1 ∨ k = 2 ∨ k = 3 by omega) with rfl | rfl | rfl | rfl <;> decide
theorem beat_one {p q k : Int} {m : Mt} (h : dirOk p q = true) (hk : inB k 0 3 = true) (e : fibMatI [⟨p, q, k, beatI k⟩] = some m) : m = oneM := by
  have b := dir_bd p q h
  have hc : (p * p - q * q) * (p * p - q * q) + 2 * p * q * (2 * p * q) = (p * p + q * q) * (p * p + q * q) := by clear b e; grind
  have hbt := beatI_bd k
  have hok : fibOk [⟨p, q, k, beatI k⟩] = true := by
    have : inB (beatI k) 0 50 = true := by rw [inB_iff]; omega
    simp [fibOk, secOk, h, hk, this]
  rw [fibMatI, if_pos hok] at e
  have e1 : fibK [⟨p, q, k, beatI k⟩] 1 = (plateI p q k).bind fun pl => mulN pl (beatI k).toNat oneM := rfl
  rw [show [(⟨p, q, k, beatI k⟩ : Sec)].length = 1 from rfl, e1] at e
  cases hpl : plateI p q k with
  | none => rw [hpl] at e; cases e
  | some pl =>
    rw [hpl] at e
    have hr := mulN_rw b.1.1 hc (plate_rw h hk hpl) _ m e
    rw [beat_pow hk] at hr
    exact rw_one b.1.1 hc hr
theorem rot_one : rotI 1 0 = some oneM := by decide
end Go.Proofs.YtmaifiakjlbooaaDoor
