/-
  A plate of a direction that can be told is never too great: plain arithmetic.
-/
import Derived.Test.YtiagnnmnaakmoaaDoorNe
import Derived.Test.YtiagnnmnaakmoaaDoorRp
namespace Go.Proofs.YtiagnnmnaakmoaaDoor
set_option linter.unusedSimpArgs false
set_option linter.unusedVariables false
open Go.RowKit
theorem rep_c {p q : Int} (h : dirOk p q = true) : Rep (dirC p q) (p * p - q * q) 0 (p * p + q * q) ∧ Rep (dirS p q) (2 * p * q) 0 (p * p + q * q) := by
  have b := dir_bd p q h
  obtain ⟨f, ef, hf⟩ := lowI_small (p * p - q * q) 0 (p * p + q * q) (by omega) (by omega) (by omega) (by omega)
  obtain ⟨g, eg, hg⟩ := lowI_small (2 * p * q) 0 (p * p + q * q) (by omega) (by omega) (by omega) (by omega)
  exact ⟨by simpa [dirC, ef] using hf, by simpa [dirS, eg] using hg⟩
/-- The two parts of a power of i. -/
def phR (k : Int) : Int := if k = 0 then 1 else if k = 2 then -1 else 0
def phJ (k : Int) : Int := if k = 1 then 1 else if k = 3 then -1 else 0
theorem rep_ph {k : Int} (h : inB k 0 3 = true) : Rep (phF k) (phR k) (phJ k) 1 ∧ (few (phR k) ∧ few (phJ k)) := by
  rw [inB_iff] at h
  rcases (show k = 0 ∨ k = 1 ∨ k = 2 ∨ k = 3 by omega) with rfl | rfl | rfl | rfl
  all_goals exact ⟨⟨by decide, by decide, by decide, by decide⟩, ⟨by decide, by decide⟩, ⟨by decide, by decide⟩⟩
theorem rep_zero : Rep ⟨0, 0, 1⟩ 0 0 1 := ⟨by decide, by decide, by decide, by decide⟩
theorem few_of {x : Int} (h1 : -20000 ≤ x) (h2 : x ≤ 20000) : few x := ⟨h1, h2⟩
theorem few_neg {x : Int} (h : few x) : few (-x) := by unfold few at *; omega
theorem few_zero : few 0 := by unfold few; omega
/-- A matrix whose parts stand for numbers over one bottom. -/
structure RepM (m : Mt) (x : Fin 4 → Int) (y : Fin 4 → Int) (d : Int) : Prop where
  a : Rep m.a (x 0) (y 0) d
  b : Rep m.b (x 1) (y 1) d
  c : Rep m.c (x 2) (y 2) d
  d : Rep m.d (x 3) (y 3) d
theorem RepM.valid {m : Mt} {x y : Fin 4 → Int} {d : Int} (h : RepM m x y d) : mvalid m = true := by simp [mvalid, h.a.ok, h.b.ok, h.c.ok, h.d.ok]
theorem repM_times {m n : Mt} {x y u v : Fin 4 → Int} {d e : Int} (hm : RepM m x y d) (hn : RepM n u v e) (fx : ∀ i, few (x i)) (fy : ∀ i, few (y i)) (fu : ∀ i, few (u i)) (fv : ∀ i, few (v i)) (fd : few d) (fe : few e) :
    ∃ r, mtimesI m n = some r ∧
      Rep r.a ((x 0 * u 0 - y 0 * v 0) + (x 1 * u 2 - y 1 * v 2)) ((x 0 * v 0 + y 0 * u 0) + (x 1 * v 2 + y 1 * u 2)) (d * e) ∧
      Rep r.b ((x 0 * u 1 - y 0 * v 1) + (x 1 * u 3 - y 1 * v 3)) ((x 0 * v 1 + y 0 * u 1) + (x 1 * v 3 + y 1 * u 3)) (d * e) ∧
      Rep r.c ((x 2 * u 0 - y 2 * v 0) + (x 3 * u 2 - y 3 * v 2)) ((x 2 * v 0 + y 2 * u 0) + (x 3 * v 2 + y 3 * u 2)) (d * e) ∧
      Rep r.d ((x 2 * u 1 - y 2 * v 1) + (x 3 * u 3 - y 3 * v 3)) ((x 2 * v 1 + y 2 * u 1) + (x 3 * v 3 + y 3 * u 3)) (d * e) := by
  obtain ⟨a, ea, ha⟩ := rep_inner hm.a hn.a hm.b hn.c (fx 0) (fy 0) (fu 0) (fv 0) (fx 1) (fy 1) (fu 2) (fv 2) fd fe
  obtain ⟨b, eb, hb⟩ := rep_inner hm.a hn.b hm.b hn.d (fx 0) (fy 0) (fu 1) (fv 1) (fx 1) (fy 1) (fu 3) (fv 3) fd fe
  obtain ⟨c, ec, hc⟩ := rep_inner hm.c hn.a hm.d hn.c (fx 2) (fy 2) (fu 0) (fv 0) (fx 3) (fy 3) (fu 2) (fv 2) fd fe
  obtain ⟨z, ez, hz⟩ := rep_inner hm.c hn.b hm.d hn.d (fx 2) (fy 2) (fu 1) (fv 1) (fx 3) (fy 3) (fu 3) (fv 3) fd fe
  exact ⟨⟨a, b, c, z⟩, by simp [mtimesI, hm.valid, hn.valid, m4, ea, eb, ec, ez], ha, hb, hc, hz⟩
/-- Four numbers in a row. -/
def f4 (a b c d : Int) : Fin 4 → Int := fun i => if i = 0 then a else if i = 1 then b else if i = 2 then c else d
theorem f4_few {a b c d : Int} (ha : few a) (hb : few b) (hc : few c) (hd : few d) : ∀ i, few (f4 a b c d i) := by
  intro i
  unfold f4
  split
  · exact ha
  · split
    · exact hb
    · split
      · exact hc
      · exact hd
theorem repM_rot {p q : Int} (h : dirOk p q = true) : RepM (rotM p q) (f4 (p * p - q * q) (-(2 * p * q)) (2 * p * q) (p * p - q * q)) (f4 0 (-0) 0 0) (p * p + q * q) :=
  ⟨(rep_c h).1, rep_neg (rep_c h).2, (rep_c h).2, (rep_c h).1⟩
theorem adj_eq {p q : Int} (h : dirOk p q = true) : adjR p q = ⟨⟨(dirC p q).re, -(dirC p q).im, (dirC p q).den⟩, ⟨(dirS p q).re, -(dirS p q).im, (dirS p q).den⟩, ⟨-(dirS p q).re, - -(dirS p q).im, (dirS p q).den⟩, ⟨(dirC p q).re, -(dirC p q).im, (dirC p q).den⟩⟩ := by
  have h1 := (rep_mirror (rep_c h).1).1
  have h2 := (rep_mirror (rep_c h).2).1
  have h3 := (rep_mirror (rep_neg (rep_c h).2)).1
  simp [adjR, madjI, rotM, m4, h1, h2, h3]
theorem repM_adj {p q : Int} (h : dirOk p q = true) : RepM (adjR p q) (f4 (p * p - q * q) (2 * p * q) (-(2 * p * q)) (p * p - q * q)) (f4 (-0) (-0) (- -0) (-0)) (p * p + q * q) := by
  rw [adj_eq h]
  exact ⟨(rep_mirror (rep_c h).1).2, (rep_mirror (rep_c h).2).2, (rep_mirror (rep_neg (rep_c h).2)).2, (rep_mirror (rep_c h).1).2⟩
theorem repM_diag {k : Int} (h : inB k 0 3 = true) : RepM (diagM (phF 0) (phF k)) (f4 (phR 0) 0 0 (phR k)) (f4 (phJ 0) 0 0 (phJ k)) 1 :=
  ⟨(rep_ph (k := 0) (by decide)).1, rep_zero, rep_zero, (rep_ph h).1⟩
theorem ph0 : phR 0 = 1 ∧ phJ 0 = 0 := ⟨by decide, by decide⟩
theorem repM_rd {p q k : Int} (h : dirOk p q = true) (hk : inB k 0 3 = true) : ∃ a, mtimesI (rotM p q) (diagM (phF 0) (phF k)) = some a ∧
    RepM a (f4 (p * p - q * q) (-(2 * p * q) * phR k) (2 * p * q) ((p * p - q * q) * phR k)) (f4 0 (-(2 * p * q) * phJ k) 0 ((p * p - q * q) * phJ k)) (p * p + q * q) := by
  have b := dir_bd p q h
  have fc := few_of b.2.1.1 b.2.1.2
  have fs := few_of b.2.2.1.1 b.2.2.1.2
  have fn := few_of (show -20000 ≤ p * p + q * q by omega) b.1.2
  have fp := (rep_ph hk).2
  have f0 := few_zero
  have f1 : few (phR 0) := by rw [ph0.1]; unfold few; omega
  have f2 : few (phJ 0) := by rw [ph0.2]; exact f0
  obtain ⟨r, er, ha, hb, hc, hd⟩ := repM_times (repM_rot h) (repM_diag hk) (f4_few fc (few_neg fs) fs fc) (f4_few f0 (few_neg f0) f0 f0) (f4_few f1 f0 f0 fp.1) (f4_few f2 f0 f0 fp.2) fn (by unfold few; omega)
  refine ⟨r, er, ?_, ?_, ?_, ?_⟩
  · simpa [f4, ph0.1, ph0.2] using ha
  · simpa [f4, ph0.1, ph0.2] using hb
  · simpa [f4, ph0.1, ph0.2] using hc
  · simpa [f4, ph0.1, ph0.2] using hd
theorem few_ph {x k : Int} (hk : inB k 0 3 = true) (h : few x) : few (x * phR k) ∧ few (x * phJ k) := by
  rw [inB_iff] at hk
  unfold few at *
  rcases (show k = 0 ∨ k = 1 ∨ k = 2 ∨ k = 3 by omega) with rfl | rfl | rfl | rfl <;> simp [phR, phJ] <;> omega
theorem plate_some {p q k : Int} (h : dirOk p q = true) (hk : inB k 0 3 = true) : ∃ a b, mtimesI (rotM p q) (diagM (phF 0) (phF k)) = some a ∧ mtimesI a (adjR p q) = some b := by
  have b := dir_bd p q h
  have fc := few_of b.2.1.1 b.2.1.2
  have fs := few_of b.2.2.1.1 b.2.2.1.2
  have fn := few_of (show -20000 ≤ p * p + q * q by omega) b.1.2
  have f0 := few_zero
  obtain ⟨a, ea, ha⟩ := repM_rd h hk
  obtain ⟨r, er, _⟩ := repM_times ha (repM_adj h) (f4_few fc (few_ph hk (few_neg fs)).1 fs (few_ph hk fc).1) (f4_few f0 (few_ph hk (few_neg fs)).2 f0 (few_ph hk fc).2) (f4_few fc fs (few_neg fs) fc) (f4_few (few_neg f0) (few_neg f0) (few_neg (few_neg f0)) (few_neg f0)) fn fn
  exact ⟨a, r, ea, er⟩
end Go.Proofs.YtiagnnmnaakmoaaDoor
