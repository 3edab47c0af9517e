/-
  Exact fractions and the numbers that they stand for: plain arithmetic; plates are never too great.
-/
import Derived.Test.YtiagnnmnaakmoaaDoorJn
import Derived.Test.YtiagnnmnaakmoaaDoorMt
import Derived.Test.YtiagnnmnaakmoaaDoorSe
namespace Go.Proofs.YtiagnnmnaakmoaaDoor
set_option linter.unusedSimpArgs false
set_option linter.unusedVariables false
open Go.RowKit
/-- The fraction f stands for (x + yi)/d. -/
structure Rep (f : Fr) (x y d : Int) : Prop where
  ok : fvalid f = true
  pos : 1 ≤ d
  re : f.re * d = x * f.den
  im : f.im * d = y * f.den
theorem small_div {x g x' : Int} (h : x = g * x') (hg : 1 ≤ g) (h1 : -2000000000 ≤ x) (h2 : x ≤ 2000000000) : -2000000000 ≤ x' ∧ x' ≤ 2000000000 := by
  have e : x.natAbs = g.natAbs * x'.natAbs := by rw [h, Int.natAbs_mul]
  have : x'.natAbs ≤ g.natAbs * x'.natAbs := Nat.le_mul_of_pos_left _ (by omega)
  omega
theorem lowI_small (x y d : Int) (hd : 1 ≤ d) (hd2 : d ≤ 2000000000) (hx : -2000000000 ≤ x ∧ x ≤ 2000000000) (hy : -2000000000 ≤ y ∧ y ≤ 2000000000) : ∃ f, lowI x y d = some f ∧ Rep f x y d := by
  obtain ⟨x', y', d', e1, e2, e3, t1, t2, t3, g1, hd'⟩ := low_parts x y d hd
  have hg := gcd3_pos x y d hd
  have bx := small_div e1 hg hx.1 hx.2
  have by' := small_div e2 hg hy.1 hy.2
  have bd := small_div e3 hg (by omega) hd2
  have hs : lowI x y d = some ⟨x', y', d'⟩ := by
    unfold lowI
    simp only [t1, t2, t3]
    rw [if_pos]
    simp only [Bool.and_eq_true, inB_iff, Bool.not_eq_true', decide_eq_false_iff_not]
    exact ⟨⟨bx, by'⟩, by omega⟩
  refine ⟨_, hs, lowI_valid hd hs, hd, ?_, ?_⟩
  · show x' * d = x * d'
    generalize gcd3 x y d = g at *
    rw [e1, e3]
    rw [Int.mul_left_comm, Int.mul_assoc]
  · show y' * d = y * d'
    generalize gcd3 x y d = g at *
    rw [e2, e3]
    rw [Int.mul_left_comm, Int.mul_assoc]
theorem lowI_rep {re im den x y d : Int} (h1 : 1 ≤ den) (hd : 1 ≤ d) (hd2 : d ≤ 2000000000) (hx : -2000000000 ≤ x ∧ x ≤ 2000000000) (hy : -2000000000 ≤ y ∧ y ≤ 2000000000) (er : re * d = x * den) (ei : im * d = y * den) :
    ∃ f, lowI re im den = some f ∧ Rep f x y d := by
  have e1 : lowI re im den = lowI x y d := by
    rw [← lowI_scale d re im den hd h1, ← lowI_scale den x y d h1 hd, Int.mul_comm d re, er, Int.mul_comm d im, ei, Int.mul_comm x den, Int.mul_comm y den, Int.mul_comm d den]
  rw [e1]
  exact lowI_small x y d hd hd2 hx hy
theorem Rep.bd {f : Fr} {x y d : Int} (h : Rep f x y d) : 1 ≤ f.den ∧ f.den ≤ 2000000000 := (fvalid_bd f h.ok).2.2
theorem rep_times {f g : Fr} {x y d u v e : Int} (hf : Rep f x y d) (hg : Rep g u v e) (b1 : -2000000000 ≤ x * u - y * v ∧ x * u - y * v ≤ 2000000000) (b2 : -2000000000 ≤ x * v + y * u ∧ x * v + y * u ≤ 2000000000) (b3 : 1 ≤ d * e ∧ d * e ≤ 2000000000) :
    ∃ h, timesI f g = some h ∧ Rep h (x * u - y * v) (x * v + y * u) (d * e) := by
  have e0 : timesI f g = lowI (f.re * g.re - f.im * g.im) (f.re * g.im + f.im * g.re) (f.den * g.den) := by simp [timesI, hf.ok, hg.ok]
  rw [e0]
  have k := mulbd1 f.den g.den hf.bd.1 hf.bd.2 hg.bd.1 hg.bd.2
  have h1 := hf.re; have h2 := hf.im; have h3 := hg.re; have h4 := hg.im
  refine lowI_rep k.1 b3.1 b3.2 b1 b2 ?_ ?_
  · clear e0 k b1 b2 b3 hf hg; grind
  · clear e0 k b1 b2 b3 hf hg; grind
theorem rep_add {f g : Fr} {x y u v d : Int} (hf : Rep f x y d) (hg : Rep g u v d) (b1 : -2000000000 ≤ x + u ∧ x + u ≤ 2000000000) (b2 : -2000000000 ≤ y + v ∧ y + v ≤ 2000000000) (b3 : d ≤ 2000000000) :
    ∃ h, addI f g = some h ∧ Rep h (x + u) (y + v) d := by
  have e0 : addI f g = lowI (f.re * g.den + g.re * f.den) (f.im * g.den + g.im * f.den) (f.den * g.den) := by simp [addI, hf.ok, hg.ok]
  rw [e0]
  have k := mulbd1 f.den g.den hf.bd.1 hf.bd.2 hg.bd.1 hg.bd.2
  have h1 := hf.re; have h2 := hf.im; have h3 := hg.re; have h4 := hg.im
  refine lowI_rep k.1 hf.pos b3 b1 b2 ?_ ?_
  · clear e0 k b1 b2 b3 hf hg; grind
  · clear e0 k b1 b2 b3 hf hg; grind
/-- A number that is not great. -/
def few (x : Int) : Prop := -20000 ≤ x ∧ x ≤ 20000
theorem few_mul {x y : Int} (hx : few x) (hy : few y) : -400000000 ≤ x * y ∧ x * y ≤ 400000000 := by
  unfold few at hx hy
  have h : (x * y).natAbs ≤ 20000 * 20000 := by
    rw [Int.natAbs_mul]
    exact Nat.mul_le_mul (by omega) (by omega)
  omega
theorem few_pos {x y : Int} (hx : few x) (hy : few y) (h1 : 1 ≤ x) (h2 : 1 ≤ y) : 1 ≤ x * y ∧ x * y ≤ 400000000 := by
  have := few_mul hx hy
  have k := Int.mul_le_mul h1 h2 (by omega) (by omega)
  omega
theorem rep_inner {p q r s : Fr} {x1 y1 u1 v1 x2 y2 u2 v2 d e : Int} (hp : Rep p x1 y1 d) (hq : Rep q u1 v1 e) (hr : Rep r x2 y2 d) (hs : Rep s u2 v2 e)
    (a1 : few x1) (a2 : few y1) (a3 : few u1) (a4 : few v1) (a5 : few x2) (a6 : few y2) (a7 : few u2) (a8 : few v2) (a9 : few d) (a10 : few e) :
    ∃ h, innerI p q r s = some h ∧ Rep h ((x1 * u1 - y1 * v1) + (x2 * u2 - y2 * v2)) ((x1 * v1 + y1 * u1) + (x2 * v2 + y2 * u2)) (d * e) := by
  have m1 := few_mul a1 a3; have m2 := few_mul a2 a4; have m3 := few_mul a1 a4; have m4 := few_mul a2 a3
  have m5 := few_mul a5 a7; have m6 := few_mul a6 a8; have m7 := few_mul a5 a8; have m8 := few_mul a6 a7
  have m9 := few_pos a9 a10 hp.pos hq.pos
  obtain ⟨f, ef, hf⟩ := rep_times hp hq (by omega) (by omega) (by omega)
  obtain ⟨g, eg, hg⟩ := rep_times hr hs (by omega) (by omega) (by omega)
  obtain ⟨h, eh, hh⟩ := rep_add hf hg (by omega) (by omega) (by omega)
  exact ⟨h, by simp [innerI, ef, eg, eh], hh⟩
theorem gcd3_neg (a b c : Int) : gcd3 (-a) (-b) c = gcd3 a b c := by simp [gcd3, gcdI, absI]
theorem gcd3_neg2 (a b c : Int) : gcd3 a (-b) c = gcd3 a b c := by simp [gcd3, gcdI, absI]
theorem rep_neg {f : Fr} {x y d : Int} (h : Rep f x y d) : Rep ⟨-f.re, -f.im, f.den⟩ (-x) (-y) d := by
  refine ⟨?_, h.pos, ?_, ?_⟩
  · have b := fvalid_bd f h.ok
    have g := fvalid_gcd f h.ok
    simp only [fvalid, gcd3_neg, g, Bool.and_eq_true, inB_iff, beq_self_eq_true, and_true]
    omega
  · show -f.re * d = -x * f.den
    rw [Int.neg_mul, Int.neg_mul, h.re]
  · show -f.im * d = -y * f.den
    rw [Int.neg_mul, Int.neg_mul, h.im]
theorem rep_mirror {f : Fr} {x y d : Int} (h : Rep f x y d) : mirrorI f = some ⟨f.re, -f.im, f.den⟩ ∧ Rep ⟨f.re, -f.im, f.den⟩ x (-y) d := by
  refine ⟨by simp [mirrorI, h.ok], ?_, h.pos, h.re, ?_⟩
  · have b := fvalid_bd f h.ok
    have g := fvalid_gcd f h.ok
    simp only [fvalid, gcd3_neg2, g, Bool.and_eq_true, inB_iff, beq_self_eq_true, and_true]
    omega
  · show -f.im * d = -y * f.den
    rw [Int.neg_mul, Int.neg_mul, h.im]
end Go.Proofs.YtiagnnmnaakmoaaDoor
