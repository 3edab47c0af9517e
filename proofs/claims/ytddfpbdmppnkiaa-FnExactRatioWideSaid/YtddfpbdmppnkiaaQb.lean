/-
  The floats of exact fractions, wide and single, and distances of single numbers: plain values, never NaN, never too great.
-/
import Derived.Test.YtddfpbdmppnkiaaQa
import Derived.Test.YtddfpbdmppnkiaaPl
namespace Go.Proofs.Ytddfpbdmppnkiaa
set_option linter.unusedSimpArgs false
set_option linter.unusedVariables false
open Ieee
theorem LoM_int {n : Int} (h1 : -2000000000 ≤ n) (h2 : n ≤ 2000000000) : LoM n.natAbs 0 30 := by
  rcases log_lt (m := n.natAbs) (a := 30) (by omega) with h | h
  · exact .inl h
  · exact .inr (by omega)
/-- A wide number that stands for a bounded one. -/
def LoD (x : Nat) (K : Int) : Prop := LoW double x K
/-- One part of a fraction, wide. -/
def partW (n d : Int) : Nat := (floatBits .quo .f64 (floatOfInt .f64 n) (floatOfInt .f64 d)).getD 0
theorem partW_some {n d : Int} (h1 : -2000000000 ≤ n) (h2 : n ≤ 2000000000) (h3 : 1 ≤ d) (h4 : d ≤ 2000000000) :
    floatBits .quo .f64 (floatOfInt .f64 n) (floatOfInt .f64 d) = some (partW n d) ∧ LoW double (partW n d) 32 := by
  obtain ⟨m1, p1, e1, l1, -⟩ := near_f64 (n < 0) n.natAbs 0 30 (LoM_int h1 h2) (by omega) (by omega)
  obtain ⟨m2, p2, e2, l2, g2⟩ := near_f64 (d < 0) d.natAbs 0 30 (LoM_int (by omega) h4) (by omega) (by omega)
  obtain ⟨hn, hl⟩ := g2 (by omega) (by omega)
  obtain ⟨k, b, hq, hk⟩ := quotient_lo (s := decide (n < 0)) (t := decide (d < 0)) (m := m1) (n := m2) (i := p1) (j := p2) (K := 31) (double.fractionBits + 2) (by decide) l1 hn hl
  have e : floatBits .quo .f64 (floatOfInt .f64 n) (floatOfInt .f64 d) = some (double.nearest (decide (n < 0) ^^ decide (d < 0)) k b) := by
    show double.div (double.nearest (decide (n < 0)) n.natAbs 0) (double.nearest (decide (d < 0)) d.natAbs 0) = _
    unfold Format.div
    rw [e1, e2, hq]
    rfl
  obtain ⟨m3, p3, e3, l3, -⟩ := near_f64 (decide (n < 0) ^^ decide (d < 0)) k b 31 hk (by omega) (by omega)
  refine ⟨by rw [partW, e]; rfl, ?_⟩
  rw [partW, e]
  exact ⟨_, _, _, e3, l3⟩
theorem not_inf {f : Format} {x : Nat} {K : Int} (h : LoW f x K) : (f.read x).isInfinity = false := by
  obtain ⟨s, m, p, e, -⟩ := h
  rw [e]; rfl
/-- Narrowed. -/
def narrow (x : Nat) : Nat := (floatToFloatBits .f64 x .f32).getD 0
theorem narrow_some {x : Nat} (h : LoW double x 32) : floatToFloatBits .f64 x .f32 = some (narrow x) ∧ LoW single (narrow x) 33 := by
  obtain ⟨s, m, p, e, hl⟩ := h
  have hn := near_f32 s m p 32 hl (by omega) (by omega)
  have e2 : floatToFloatBits .f64 x .f32 = some (single.nearest s m p) := by
    unfold floatToFloatBits
    rw [if_neg (by decide)]
    rw [show FloatKind.f64.decode x = .number s m p from e]
    simp only
    rw [if_neg]
    · rfl
    · rw [show FloatKind.f32.decode (FloatKind.f32.encode (.number s m p)) = single.read (single.nearest s m p) from rfl, not_inf hn]
      decide
  exact ⟨by rw [narrow, e2]; rfl, by rw [narrow, e2]; exact hn⟩
/-- Widened. -/
def widen (x : Nat) : Nat := (floatToFloatBits .f32 x .f64).getD 0
theorem widen_some {x : Nat} {K : Int} (h : LoW single x K) (hK : K ≤ 1000) (h0 : 0 ≤ K) : floatToFloatBits .f32 x .f64 = some (widen x) ∧ LoW double (widen x) (K + 1) := by
  obtain ⟨s, m, p, e, hl⟩ := h
  obtain ⟨m', p', e', l', -⟩ := near_f64 s m p K hl hK h0
  have hn : LoW double (double.nearest s m p) (K + 1) := ⟨_, _, _, e', l'⟩
  have e2 : floatToFloatBits .f32 x .f64 = some (double.nearest s m p) := by
    unfold floatToFloatBits
    rw [if_neg (by decide)]
    rw [show FloatKind.f32.decode x = .number s m p from e]
    simp only
    rw [if_neg]
    · rfl
    · rw [show FloatKind.f64.decode (FloatKind.f64.encode (.number s m p)) = double.read (double.nearest s m p) from rfl, not_inf hn]
      decide
  exact ⟨by rw [widen, e2]; rfl, by rw [widen, e2]; exact hn⟩
def subS (x y : Nat) : Nat := (floatBits .sub .f32 x y).getD 0
def mulS (x y : Nat) : Nat := (floatBits .mul .f32 x y).getD 0
def addS (x y : Nat) : Nat := (floatBits .add .f32 x y).getD 0
theorem sub_some {x y : Nat} {K : Int} (hx : LoW single x K) (hy : LoW single y K) (h0 : 0 ≤ K) (hK : K ≤ 110) : floatBits .sub .f32 x y = some (subS x y) ∧ LoW single (subS x y) (K + 2) := by
  obtain ⟨s, m, p, e, hl⟩ := hx
  obtain ⟨t, n, q, e', hl'⟩ := hy
  obtain ⟨u, k, b, hs, hb⟩ := sum_lo (s := s) (t := !t) hl hl'
  have e2 : floatBits .sub .f32 x y = some (single.nearest u k b) := by
    show single.sub x y = _
    unfold Format.sub
    rw [e, e', opposite_number, hs]
    rfl
  exact ⟨by rw [subS, e2]; rfl, by rw [subS, e2]; exact (near_f32 u k b (K + 1) hb (by omega) (by omega)).mono (by omega)⟩
theorem add_some {x y : Nat} {K : Int} (hx : LoW single x K) (hy : LoW single y K) (h0 : 0 ≤ K) (hK : K ≤ 110) : floatBits .add .f32 x y = some (addS x y) ∧ LoW single (addS x y) (K + 2) := by
  obtain ⟨s, m, p, e, hl⟩ := hx
  obtain ⟨t, n, q, e', hl'⟩ := hy
  obtain ⟨u, k, b, hs, hb⟩ := sum_lo (s := s) (t := t) hl hl'
  have e2 : floatBits .add .f32 x y = some (single.nearest u k b) := by
    show single.add x y = _
    unfold Format.add
    rw [e, e', hs]
    rfl
  exact ⟨by rw [addS, e2]; rfl, by rw [addS, e2]; exact (near_f32 u k b (K + 1) hb (by omega) (by omega)).mono (by omega)⟩
theorem mul_some {x y : Nat} {K : Int} (hx : LoW single x K) (hy : LoW single y K) (h0 : 0 ≤ K) (hK : K ≤ 50) : floatBits .mul .f32 x y = some (mulS x y) ∧ LoW single (mulS x y) (2 * K + 2) := by
  obtain ⟨s, m, p, e, hl⟩ := hx
  obtain ⟨t, n, q, e', hl'⟩ := hy
  obtain ⟨k, b, hs, hb⟩ := product_lo (s := s) (t := t) hl hl'
  have e2 : floatBits .mul .f32 x y = some (single.nearest (s ^^ t) k b) := by
    show single.mul x y = _
    unfold Format.mul
    rw [e, e', hs]
    rfl
  exact ⟨by rw [mulS, e2]; rfl, by rw [mulS, e2]; exact (near_f32 _ k b (K + K + 1) hb (by omega) (by omega)).mono (by omega)⟩
/-- The distance of two single numbers, squared. -/
def farS (a b c d : Nat) : Nat := addS (mulS (subS a c) (subS a c)) (mulS (subS b d) (subS b d))
def partS (n d : Int) : Nat := narrow (partW n d)
def farI (a b : Fr) : Nat := farS (partS a.re a.den) (partS a.im a.den) (partS b.re b.den) (partS b.im b.den)
theorem fr_parts {a : Fr} (h : fvalid a = true) : (-2000000000 ≤ a.re ∧ a.re ≤ 2000000000) ∧ (-2000000000 ≤ a.im ∧ a.im ≤ 2000000000) ∧ 1 ≤ a.den ∧ a.den ≤ 2000000000 := by
  obtain ⟨h1, h2, h3, h4⟩ := fvalid_bd a h
  refine ⟨?_, ?_, ?_⟩ <;> first | exact ⟨by omega, by omega⟩ | omega
theorem partsW {a : Fr} (h : fvalid a = true) : (floatBits .quo .f64 (floatOfInt .f64 a.re) (floatOfInt .f64 a.den) = some (partW a.re a.den) ∧ LoW double (partW a.re a.den) 32) ∧ (floatBits .quo .f64 (floatOfInt .f64 a.im) (floatOfInt .f64 a.den) = some (partW a.im a.den) ∧ LoW double (partW a.im a.den) 32) := by
  obtain ⟨⟨h1, h2⟩, ⟨h3, h4⟩, h5, h6⟩ := fr_parts h
  exact ⟨partW_some h1 h2 h5 h6, partW_some h3 h4 h5 h6⟩
theorem partsS {a : Fr} (h : fvalid a = true) : LoW single (partS a.re a.den) 33 ∧ LoW single (partS a.im a.den) 33 := by
  obtain ⟨⟨-, h1⟩, -, h2⟩ := partsW h
  exact ⟨(narrow_some h1).2, (narrow_some h2).2⟩
theorem convS {a : Fr} (h : fvalid a = true) : cConvBits .f64 (partW a.re a.den) (partW a.im a.den) .f32 = some (partS a.re a.den, partS a.im a.den) := by
  obtain ⟨⟨-, h1⟩, -, h2⟩ := partsW h
  unfold cConvBits
  rw [(narrow_some h1).1, (narrow_some h2).1]
  rfl
/-- All that a distance needs. -/
structure FarOk (a b c d : Nat) : Prop where
  df : cSumBits .sub .f32 a b c d = some (subS a c, subS b d)
  sx : floatBits .mul .f32 (subS a c) (subS a c) = some (mulS (subS a c) (subS a c))
  sy : floatBits .mul .f32 (subS b d) (subS b d) = some (mulS (subS b d) (subS b d))
  sm : floatBits .add .f32 (mulS (subS a c) (subS a c)) (mulS (subS b d) (subS b d)) = some (farS a b c d)
  lo : LoW single (farS a b c d) 74
theorem far_ok {a b c d : Nat} (ha : LoW single a 33) (hb : LoW single b 33) (hc : LoW single c 33) (hd : LoW single d 33) : FarOk a b c d := by
  obtain ⟨e1, l1⟩ := sub_some ha hc (by omega) (by omega)
  obtain ⟨e2, l2⟩ := sub_some hb hd (by omega) (by omega)
  obtain ⟨e3, l3⟩ := mul_some l1 l1 (by omega) (by omega)
  obtain ⟨e4, l4⟩ := mul_some l2 l2 (by omega) (by omega)
  obtain ⟨e5, l5⟩ := add_some l3 l4 (by omega) (by omega)
  exact ⟨by unfold cSumBits; rw [e1, e2]; rfl, e3, e4, e5, l5.mono (K := 2 * (33 + 2) + 2 + 2) (by omega)⟩
theorem far_all {a b : Fr} (ha : fvalid a = true) (hb : fvalid b = true) : FarOk (partS a.re a.den) (partS a.im a.den) (partS b.re b.den) (partS b.im b.den) :=
  far_ok (partsS ha).1 (partsS ha).2 (partsS hb).1 (partsS hb).2
/-- A word that is no NaN: it stands as it stands to itself. -/
theorem order_self {f : Format} {x : Nat} {K : Int} (h : LoW f x K) : f.order x x = some .eq := by
  obtain ⟨s, m, p, e, -⟩ := h
  unfold Format.order Datum.order
  rw [e]
  simp
/-- One over a number is no NaN. -/
theorem quo_one {x : Nat} {K : Int} (h : LoW double x K) : ∃ r, floatBits .quo .f64 4607182418800017408 x = some r := by
  obtain ⟨s, m, p, e, -⟩ := h
  have e1 : double.read 4607182418800017408 = .number false 4503599627370496 (-52) := by decide +kernel
  show ∃ r, double.div 4607182418800017408 x = some r
  unfold Format.div
  rw [e, e1]
  unfold Datum.quotient
  simp only
  split <;> exact ⟨_, rfl⟩
end Go.Proofs.Ytddfpbdmppnkiaa
