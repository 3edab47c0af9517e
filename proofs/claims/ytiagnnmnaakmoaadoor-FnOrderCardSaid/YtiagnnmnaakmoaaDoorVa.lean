/-
  What sums and products of exact fractions stand for, wherever they are told: no bounds. Plain arithmetic.
-/
import Derived.Test.YtiagnnmnaakmoaaDoorRp
namespace Go.Proofs.YtiagnnmnaakmoaaDoor
set_option linter.unusedSimpArgs false
set_option linter.unusedVariables false
open Go.RowKit
theorem lowI_val {re im den : Int} {h : Fr} (hd : 1 ≤ den) (e : lowI re im den = some h) : fvalid h = true ∧ h.re * den = re * h.den ∧ h.im * den = im * h.den := by
  refine ⟨lowI_valid hd e, ?_⟩
  obtain ⟨x', y', d', e1, e2, e3, t1, t2, t3, g1, hd'⟩ := low_parts re im den hd
  have hh : h = ⟨x', y', d'⟩ := by
    unfold lowI at e
    simp only [t1, t2, t3] at e
    split at e
    · exact (Option.some.inj e).symm
    · cases e
  subst hh
  generalize gcd3 re im den = g at *
  clear t1 t2 t3 g1 e
  constructor
  · show x' * den = re * d'
    rw [e1, e3]; grind
  · show y' * den = im * d'
    rw [e2, e3]; grind
theorem cancel {k a b : Int} (hk : 1 ≤ k) (h : k * a = k * b) : a = b := Int.eq_of_mul_eq_mul_left (by omega) h
theorem rep_of_val {h : Fr} {re im den x y d : Int} (hd : 1 ≤ den) (hp : 1 ≤ d) (e : lowI re im den = some h) (er : re * d = x * den) (ei : im * d = y * den) : Rep h x y d := by
  obtain ⟨hv, h1, h2⟩ := lowI_val hd e
  refine ⟨hv, hp, cancel hd ?_, cancel hd ?_⟩
  · clear hv h2 ei e hd hp; grind
  · clear hv h1 er e hd hp; grind
theorem val_times {f g h : Fr} {x y d u v e : Int} (hf : Rep f x y d) (hg : Rep g u v e) (hh : timesI f g = some h) : Rep h (x * u - y * v) (x * v + y * u) (d * e) := by
  have e0 : timesI f g = lowI (f.re * g.re - f.im * g.im) (f.re * g.im + f.im * g.re) (f.den * g.den) := by simp [timesI, hf.ok, hg.ok]
  rw [e0] at hh
  have k := mulbd1 f.den g.den hf.bd.1 hf.bd.2 hg.bd.1 hg.bd.2
  have kd : 1 ≤ d * e := by
    have := Int.mul_le_mul hf.pos hg.pos (by omega) (by have := hf.pos; omega)
    omega
  have h1 := hf.re; have h2 := hf.im; have h3 := hg.re; have h4 := hg.im
  refine rep_of_val k.1 kd hh ?_ ?_
  · clear e0 k kd hf hg hh; grind
  · clear e0 k kd hf hg hh; grind
theorem val_add {f g h : Fr} {x y u v d e : Int} (hf : Rep f x y d) (hg : Rep g u v e) (hh : addI f g = some h) : Rep h (x * e + u * d) (y * e + v * d) (d * e) := by
  have e0 : addI f g = lowI (f.re * g.den + g.re * f.den) (f.im * g.den + g.im * f.den) (f.den * g.den) := by simp [addI, hf.ok, hg.ok]
  rw [e0] at hh
  have k := mulbd1 f.den g.den hf.bd.1 hf.bd.2 hg.bd.1 hg.bd.2
  have kd : 1 ≤ d * e := by
    have := Int.mul_le_mul hf.pos hg.pos (by omega) (by have := hf.pos; omega)
    omega
  have h1 := hf.re; have h2 := hf.im; have h3 := hg.re; have h4 := hg.im
  refine rep_of_val k.1 kd hh ?_ ?_
  · clear e0 k kd hf hg hh; grind
  · clear e0 k kd hf hg hh; grind
theorem rep_cancel {f : Fr} {k x y d : Int} (hk : 1 ≤ k) (hd : 1 ≤ d) (h : Rep f (k * x) (k * y) (k * d)) : Rep f x y d := by
  obtain ⟨h0, _, h2, h3⟩ := h
  refine ⟨h0, hd, cancel hk ?_, cancel hk ?_⟩
  · clear h3; grind
  · clear h2; grind
theorem val_add_same {f g h : Fr} {x y u v d : Int} (hf : Rep f x y d) (hg : Rep g u v d) (hh : addI f g = some h) : Rep h (x + u) (y + v) d := by
  have := val_add hf hg hh
  refine rep_cancel hf.pos hf.pos ?_
  rwa [show d * (x + u) = x * d + u * d by grind, show d * (y + v) = y * d + v * d by grind]
theorem val_inner {p q r s h : Fr} {x1 y1 u1 v1 x2 y2 u2 v2 d e : Int} (hp : Rep p x1 y1 d) (hq : Rep q u1 v1 e) (hr : Rep r x2 y2 d) (hs : Rep s u2 v2 e) (hh : innerI p q r s = some h) :
    Rep h ((x1 * u1 - y1 * v1) + (x2 * u2 - y2 * v2)) ((x1 * v1 + y1 * u1) + (x2 * v2 + y2 * u2)) (d * e) := by
  unfold innerI at hh
  cases hx : timesI p q with
  | none => rw [hx] at hh; cases hh
  | some f =>
    cases hy : timesI r s with
    | none => rw [hx, hy] at hh; cases hh
    | some g =>
      rw [hx, hy] at hh
      exact val_add_same (val_times hp hq hx) (val_times hr hs hy) hh
/-- Equal values are equal fractions. -/
theorem rep_uniq {f g : Fr} {x y d : Int} (hf : Rep f x y d) (hg : Rep g x y d) : f = g := by
  have e : lowI f.re f.im f.den = lowI g.re g.im g.den := by
    have b1 := hf.bd
    have b2 := hg.bd
    rw [← lowI_scale g.den f.re f.im f.den b2.1 b1.1, ← lowI_scale f.den g.re g.im g.den b1.1 b2.1]
    have h1 := hf.re; have h2 := hf.im; have h3 := hg.re; have h4 := hg.im; have hd := hf.pos
    rw [show g.den * f.re = f.den * g.re from cancel hd (by clear h2 h4; grind), show g.den * f.im = f.den * g.im from cancel hd (by clear h1 h3; grind), Int.mul_comm g.den f.den]
  have self : ∀ a : Fr, fvalid a = true → lowI a.re a.im a.den = some a := by
    intro a ha
    have hg := fvalid_gcd a ha
    have hb := fvalid_bd a ha
    unfold lowI
    simp only [hg, Int.tdiv_one, Int.ediv_one]
    rw [if_pos]
    simp only [Bool.and_eq_true, inB_iff, Bool.not_eq_true', decide_eq_false_iff_not]
    exact ⟨⟨hb.1, hb.2.1⟩, by omega⟩
  rw [self f hf.ok, self g hg.ok] at e
  exact Option.some.inj e
end Go.Proofs.YtiagnnmnaakmoaaDoor
