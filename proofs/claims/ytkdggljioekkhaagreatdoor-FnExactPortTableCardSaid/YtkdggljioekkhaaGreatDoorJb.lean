/-
  Texts of this claim, joined: Rp; Va; Ka; Kg; Ta; Tv. Nothing is claimed here; the other texts of this claim use it.
-/
import Derived.Test.YtkdggljioekkhaaGreatDoorPa
namespace Go.Proofs.YtkdggljioekkhaaGreatDoor
set_option linter.unusedSimpArgs false
set_option linter.unusedVariables false
section
open Go.RowKit
/-- The fraction f stands for (x + yi)/d. -/
structure Rep (f : Fr) (x y d : Int) : Prop where
  ok : fvalid f = true
  pos : 1 ≤ d
  re : f.re * d = x * f.den
  im : f.im * d = y * f.den
theorem small_div {x g x' : Int} (h : x = g * x') (hg : 1 ≤ g) (h1 : -2000000000 ≤ x) (h2 : x ≤ 2000000000) : -2000000000 ≤ x' ∧ x' ≤ 2000000000 := by
  have e : x.natAbs = g.natAbs * x'.natAbs := by rw [h, Int.natAbs_mul]
  have : x'.natAbs ≤ g.natAbs * x'.natAbs := Nat.le_mul_of_pos_left _ (by omega)
  omega
theorem lowI_small (x y d : Int) (hd : 1 ≤ d) (hd2 : d ≤ 2000000000) (hx : -2000000000 ≤ x ∧ x ≤ 2000000000) (hy : -2000000000 ≤ y ∧ y ≤ 2000000000) : ∃ f, lowI x y d = some f ∧ Rep f x y d := by
  obtain ⟨x', y', d', e1, e2, e3, t1, t2, t3, g1, hd'⟩ := low_parts x y d hd
  have hg := gcd3_pos x y d hd
  have bx := small_div e1 hg hx.1 hx.2
  have by' := small_div e2 hg hy.1 hy.2
  have bd := small_div e3 hg (by omega) hd2
  have hs : lowI x y d = some ⟨x', y', d'⟩ := by
    unfold lowI
    simp only [t1, t2, t3]
    rw [if_pos]
    simp only [Bool.and_eq_true, inB_iff, Bool.not_eq_true', decide_eq_false_iff_not]
    exact ⟨⟨bx, by'⟩, by omega⟩
  refine ⟨_, hs, lowI_valid hd hs, hd, ?_, ?_⟩
  · show x' * d = x * d'
    generalize gcd3 x y d = g at *
    rw [e1, e3]
    rw [Int.mul_left_comm, Int.mul_assoc]
  · show y' * d = y * d'
    generalize gcd3 x y d = g at *
    rw [e2, e3]
    rw [Int.mul_left_comm, Int.mul_assoc]
theorem lowI_rep {re im den x y d : Int} (h1 : 1 ≤ den) (hd : 1 ≤ d) (hd2 : d ≤ 2000000000) (hx : -2000000000 ≤ x ∧ x ≤ 2000000000) (hy : -2000000000 ≤ y ∧ y ≤ 2000000000) (er : re * d = x * den) (ei : im * d = y * den) :
    ∃ f, lowI re im den = some f ∧ Rep f x y d := by
  have e1 : lowI re im den = lowI x y d := by
    rw [← lowI_scale d re im den hd h1, ← lowI_scale den x y d h1 hd, Int.mul_comm d re, er, Int.mul_comm d im, ei, Int.mul_comm x den, Int.mul_comm y den, Int.mul_comm d den]
  rw [e1]
  exact lowI_small x y d hd hd2 hx hy
theorem Rep.bd {f : Fr} {x y d : Int} (h : Rep f x y d) : 1 ≤ f.den ∧ f.den ≤ 2000000000 := (fvalid_bd f h.ok).2.2
theorem rep_times {f g : Fr} {x y d u v e : Int} (hf : Rep f x y d) (hg : Rep g u v e) (b1 : -2000000000 ≤ x * u - y * v ∧ x * u - y * v ≤ 2000000000) (b2 : -2000000000 ≤ x * v + y * u ∧ x * v + y * u ≤ 2000000000) (b3 : 1 ≤ d * e ∧ d * e ≤ 2000000000) :
    ∃ h, timesI f g = some h ∧ Rep h (x * u - y * v) (x * v + y * u) (d * e) := by
  have e0 : timesI f g = lowI (f.re * g.re - f.im * g.im) (f.re * g.im + f.im * g.re) (f.den * g.den) := by simp [timesI, hf.ok, hg.ok]
  rw [e0]
  have k := mulbd1 f.den g.den hf.bd.1 hf.bd.2 hg.bd.1 hg.bd.2
  have h1 := hf.re; have h2 := hf.im; have h3 := hg.re; have h4 := hg.im
  refine lowI_rep k.1 b3.1 b3.2 b1 b2 ?_ ?_
  · clear e0 k b1 b2 b3 hf hg; grind
  · clear e0 k b1 b2 b3 hf hg; grind
theorem rep_add {f g : Fr} {x y u v d : Int} (hf : Rep f x y d) (hg : Rep g u v d) (b1 : -2000000000 ≤ x + u ∧ x + u ≤ 2000000000) (b2 : -2000000000 ≤ y + v ∧ y + v ≤ 2000000000) (b3 : d ≤ 2000000000) :
    ∃ h, addI f g = some h ∧ Rep h (x + u) (y + v) d := by
  have e0 : addI f g = lowI (f.re * g.den + g.re * f.den) (f.im * g.den + g.im * f.den) (f.den * g.den) := by simp [addI, hf.ok, hg.ok]
  rw [e0]
  have k := mulbd1 f.den g.den hf.bd.1 hf.bd.2 hg.bd.1 hg.bd.2
  have h1 := hf.re; have h2 := hf.im; have h3 := hg.re; have h4 := hg.im
  refine lowI_rep k.1 hf.pos b3 b1 b2 ?_ ?_
  · clear e0 k b1 b2 b3 hf hg; grind
  · clear e0 k b1 b2 b3 hf hg; grind
/-- A number that is not great. -/
def few (x : Int) : Prop := -20000 ≤ x ∧ x ≤ 20000
theorem few_mul {x y : Int} (hx : few x) (hy : few y) : -400000000 ≤ x * y ∧ x * y ≤ 400000000 := by
  unfold few at hx hy
  have h : (x * y).natAbs ≤ 20000 * 20000 := by
    rw [Int.natAbs_mul]
    exact Nat.mul_le_mul (by omega) (by omega)
  omega
theorem few_pos {x y : Int} (hx : few x) (hy : few y) (h1 : 1 ≤ x) (h2 : 1 ≤ y) : 1 ≤ x * y ∧ x * y ≤ 400000000 := by
  have := few_mul hx hy
  have k := Int.mul_le_mul h1 h2 (by omega) (by omega)
  omega
theorem rep_inner {p q r s : Fr} {x1 y1 u1 v1 x2 y2 u2 v2 d e : Int} (hp : Rep p x1 y1 d) (hq : Rep q u1 v1 e) (hr : Rep r x2 y2 d) (hs : Rep s u2 v2 e)
    (a1 : few x1) (a2 : few y1) (a3 : few u1) (a4 : few v1) (a5 : few x2) (a6 : few y2) (a7 : few u2) (a8 : few v2) (a9 : few d) (a10 : few e) :
    ∃ h, innerI p q r s = some h ∧ Rep h ((x1 * u1 - y1 * v1) + (x2 * u2 - y2 * v2)) ((x1 * v1 + y1 * u1) + (x2 * v2 + y2 * u2)) (d * e) := by
  have m1 := few_mul a1 a3; have m2 := few_mul a2 a4; have m3 := few_mul a1 a4; have m4 := few_mul a2 a3
  have m5 := few_mul a5 a7; have m6 := few_mul a6 a8; have m7 := few_mul a5 a8; have m8 := few_mul a6 a7
  have m9 := few_pos a9 a10 hp.pos hq.pos
  obtain ⟨f, ef, hf⟩ := rep_times hp hq (by omega) (by omega) (by omega)
  obtain ⟨g, eg, hg⟩ := rep_times hr hs (by omega) (by omega) (by omega)
  obtain ⟨h, eh, hh⟩ := rep_add hf hg (by omega) (by omega) (by omega)
  exact ⟨h, by simp [innerI, ef, eg, eh], hh⟩
theorem gcd3_neg (a b c : Int) : gcd3 (-a) (-b) c = gcd3 a b c := by simp [gcd3, gcdI, absI]
theorem gcd3_neg2 (a b c : Int) : gcd3 a (-b) c = gcd3 a b c := by simp [gcd3, gcdI, absI]
theorem rep_neg {f : Fr} {x y d : Int} (h : Rep f x y d) : Rep ⟨-f.re, -f.im, f.den⟩ (-x) (-y) d := by
  refine ⟨?_, h.pos, ?_, ?_⟩
  · have b := fvalid_bd f h.ok
    have g := fvalid_gcd f h.ok
    simp only [fvalid, gcd3_neg, g, Bool.and_eq_true, inB_iff, beq_self_eq_true, and_true]
    omega
  · show -f.re * d = -x * f.den
    rw [Int.neg_mul, Int.neg_mul, h.re]
  · show -f.im * d = -y * f.den
    rw [Int.neg_mul, Int.neg_mul, h.im]
theorem rep_mirror {f : Fr} {x y d : Int} (h : Rep f x y d) : mirrorI f = some ⟨f.re, -f.im, f.den⟩ ∧ Rep ⟨f.re, -f.im, f.den⟩ x (-y) d := by
  refine ⟨by simp [mirrorI, h.ok], ?_, h.pos, h.re, ?_⟩
  · have b := fvalid_bd f h.ok
    have g := fvalid_gcd f h.ok
    simp only [fvalid, gcd3_neg2, g, Bool.and_eq_true, inB_iff, beq_self_eq_true, and_true]
    omega
  · show -f.im * d = -y * f.den
    rw [Int.neg_mul, Int.neg_mul, h.im]
end
section
open Go.RowKit
theorem lowI_val {re im den : Int} {h : Fr} (hd : 1 ≤ den) (e : lowI re im den = some h) : fvalid h = true ∧ h.re * den = re * h.den ∧ h.im * den = im * h.den := by
  refine ⟨lowI_valid hd e, ?_⟩
  obtain ⟨x', y', d', e1, e2, e3, t1, t2, t3, g1, hd'⟩ := low_parts re im den hd
  have hh : h = ⟨x', y', d'⟩ := by
    unfold lowI at e
    simp only [t1, t2, t3] at e
    split at e
    · exact (Option.some.inj e).symm
    · cases e
  subst hh
  generalize gcd3 re im den = g at *
  clear t1 t2 t3 g1 e
  constructor
  · show x' * den = re * d'
    rw [e1, e3]; grind
  · show y' * den = im * d'
    rw [e2, e3]; grind
theorem cancel {k a b : Int} (hk : 1 ≤ k) (h : k * a = k * b) : a = b := Int.eq_of_mul_eq_mul_left (by omega) h
theorem rep_of_val {h : Fr} {re im den x y d : Int} (hd : 1 ≤ den) (hp : 1 ≤ d) (e : lowI re im den = some h) (er : re * d = x * den) (ei : im * d = y * den) : Rep h x y d := by
  obtain ⟨hv, h1, h2⟩ := lowI_val hd e
  refine ⟨hv, hp, cancel hd ?_, cancel hd ?_⟩
  · clear hv h2 ei e hd hp; grind
  · clear hv h1 er e hd hp; grind
theorem val_times {f g h : Fr} {x y d u v e : Int} (hf : Rep f x y d) (hg : Rep g u v e) (hh : timesI f g = some h) : Rep h (x * u - y * v) (x * v + y * u) (d * e) := by
  have e0 : timesI f g = lowI (f.re * g.re - f.im * g.im) (f.re * g.im + f.im * g.re) (f.den * g.den) := by simp [timesI, hf.ok, hg.ok]
  rw [e0] at hh
  have k := mulbd1 f.den g.den hf.bd.1 hf.bd.2 hg.bd.1 hg.bd.2
  have kd : 1 ≤ d * e := by
    have := Int.mul_le_mul hf.pos hg.pos (by omega) (by have := hf.pos; omega)
    omega
  have h1 := hf.re; have h2 := hf.im; have h3 := hg.re; have h4 := hg.im
  refine rep_of_val k.1 kd hh ?_ ?_
  · clear e0 k kd hf hg hh; grind
  · clear e0 k kd hf hg hh; grind
theorem val_add {f g h : Fr} {x y u v d e : Int} (hf : Rep f x y d) (hg : Rep g u v e) (hh : addI f g = some h) : Rep h (x * e + u * d) (y * e + v * d) (d * e) := by
  have e0 : addI f g = lowI (f.re * g.den + g.re * f.den) (f.im * g.den + g.im * f.den) (f.den * g.den) := by simp [addI, hf.ok, hg.ok]
  rw [e0] at hh
  have k := mulbd1 f.den g.den hf.bd.1 hf.bd.2 hg.bd.1 hg.bd.2
  have kd : 1 ≤ d * e := by
    have := Int.mul_le_mul hf.pos hg.pos (by omega) (by have := hf.pos; omega)
    omega
  have h1 := hf.re; have h2 := hf.im; have h3 := hg.re; have h4 := hg.im
  refine rep_of_val k.1 kd hh ?_ ?_
  · clear e0 k kd hf hg hh; grind
  · clear e0 k kd hf hg hh; grind
theorem rep_cancel {f : Fr} {k x y d : Int} (hk : 1 ≤ k) (hd : 1 ≤ d) (h : Rep f (k * x) (k * y) (k * d)) : Rep f x y d := by
  obtain ⟨h0, _, h2, h3⟩ := h
  refine ⟨h0, hd, cancel hk ?_, cancel hk ?_⟩
  · clear h3; grind
  · clear h2; grind
theorem val_add_same {f g h : Fr} {x y u v d : Int} (hf : Rep f x y d) (hg : Rep g u v d) (hh : addI f g = some h) : Rep h (x + u) (y + v) d := by
  have := val_add hf hg hh
  refine rep_cancel hf.pos hf.pos ?_
  rwa [show d * (x + u) = x * d + u * d by grind, show d * (y + v) = y * d + v * d by grind]
theorem val_inner {p q r s h : Fr} {x1 y1 u1 v1 x2 y2 u2 v2 d e : Int} (hp : Rep p x1 y1 d) (hq : Rep q u1 v1 e) (hr : Rep r x2 y2 d) (hs : Rep s u2 v2 e) (hh : innerI p q r s = some h) :
    Rep h ((x1 * u1 - y1 * v1) + (x2 * u2 - y2 * v2)) ((x1 * v1 + y1 * u1) + (x2 * v2 + y2 * u2)) (d * e) := by
  unfold innerI at hh
  cases hx : timesI p q with
  | none => rw [hx] at hh; cases hh
  | some f =>
    cases hy : timesI r s with
    | none => rw [hx, hy] at hh; cases hh
    | some g =>
      rw [hx, hy] at hh
      exact val_add_same (val_times hp hq hx) (val_times hr hs hy) hh
/-- Equal values are equal fractions. -/
theorem rep_uniq {f g : Fr} {x y d : Int} (hf : Rep f x y d) (hg : Rep g x y d) : f = g := by
  have e : lowI f.re f.im f.den = lowI g.re g.im g.den := by
    have b1 := hf.bd
    have b2 := hg.bd
    rw [← lowI_scale g.den f.re f.im f.den b2.1 b1.1, ← lowI_scale f.den g.re g.im g.den b1.1 b2.1]
    have h1 := hf.re; have h2 := hf.im; have h3 := hg.re; have h4 := hg.im; have hd := hf.pos
    rw [show g.den * f.re = f.den * g.re from cancel hd (by clear h2 h4; grind), show g.den * f.im = f.den * g.im from cancel hd (by clear h1 h3; grind), Int.mul_comm g.den f.den]
  have self : ∀ a : Fr, fvalid a = true → lowI a.re a.im a.den = some a := by
    intro a ha
    have hg := fvalid_gcd a ha
    have hb := fvalid_bd a ha
    unfold lowI
    simp only [hg, Int.tdiv_one, Int.ediv_one]
    rw [if_pos]
    simp only [Bool.and_eq_true, inB_iff, Bool.not_eq_true', decide_eq_false_iff_not]
    exact ⟨⟨hb.1, hb.2.1⟩, by omega⟩
  rw [self f hf.ok, self g hg.ok] at e
  exact Option.some.inj e
end
section
open Go.RowKit
def zK : Fr := ⟨0, 0, 0⟩
def cutK (k : Nat) (r : List Fr) : List Fr := r.take k ++ r.drop (k + 1)
def minorK (k : Nat) (rows : List (List Fr)) : List (List Fr) := rows.tail.map (cutK k)
def entryK (rows : List (List Fr)) (k : Nat) : Fr := (rows.headD []).getD k zK
/-- One column more, the program's way: the value and whether something was none. -/
def stepI (D : List (List Fr) → Fr × Bool) (rows : List (List Fr)) (s : Fr × Bool) (k : Nat) : Fr × Bool :=
  let d := D (minorK k rows)
  let p := timesI (entryK rows k) d.1
  let b := (s.2 || d.2) || p.isNone
  if k = 0 then (p.getD zK, b)
  else if k % 2 = 1 then ((lessI s.1 (p.getD zK)).getD zK, b || (lessI s.1 (p.getD zK)).isNone)
  else ((addI s.1 (p.getD zK)).getD zK, b || (addI s.1 (p.getD zK)).isNone)
def detIK (D : List (List Fr) → Fr × Bool) (rows : List (List Fr)) : Nat → Fr × Bool
  | 0 => (zK, false)
  | k + 1 => stepI D rows (detIK D rows k) k
def detI : Nat → List (List Fr) → Fr × Bool
  | 0 => fun rows => (entryK rows 0, false)
  | n + 1 => fun rows => detIK (detI n) rows (n + 2)
/-- The reference's way. -/
def stepS (D : List (List Fr) → Fr × Bool) (rows : List (List Fr)) (s : Fr × Bool) (k : Nat) : Fr × Bool :=
  let d := D (minorK k rows)
  let p := timesI (entryK rows k) d.1
  let b := (s.2 || d.2) || p.isNone
  if k % 2 = 1 then ((lessI s.1 (p.getD zK)).getD zK, b || (lessI s.1 (p.getD zK)).isNone)
  else ((addI s.1 (p.getD zK)).getD zK, b || (addI s.1 (p.getD zK)).isNone)
def detSK (D : List (List Fr) → Fr × Bool) (rows : List (List Fr)) : Nat → Fr × Bool
  | 0 => (⟨0, 0, 1⟩, false)
  | k + 1 => stepS D rows (detSK D rows k) k
def detS : Nat → List (List Fr) → Fr × Bool
  | 0 => fun rows => (entryK rows 0, false)
  | n + 1 => fun rows => detSK (detS n) rows (n + 2)
/-- n + 1 rows of n + 1 real fractions each. -/
def Sq (n : Nat) (rows : List (List Fr)) : Prop := rows.length = n + 1 ∧ ∀ r ∈ rows, r.length = n + 1 ∧ ∀ f ∈ r, realOk f = true
theorem low_real {re den : Int} {h : Fr} (hd : 1 ≤ den) (e : lowI re 0 den = some h) : realOk h = true := by
  obtain ⟨hv, -, hi⟩ := lowI_val hd e
  rw [Int.zero_mul] at hi
  have : h.im = 0 := by
    rcases Int.mul_eq_zero.1 hi with h1 | h1
    · exact h1
    · omega
  simp [realOk, hv, this]
theorem real_parts {a : Fr} (h : realOk a = true) : fvalid a = true ∧ a.im = 0 ∧ 1 ≤ a.den := by
  simp only [realOk, Bool.and_eq_true, beq_iff_eq] at h
  exact ⟨h.1, h.2, (fvalid_bd a h.1).2.2.1⟩
theorem dens_pos {a b : Int} (ha : 1 ≤ a) (hb : 1 ≤ b) : 1 ≤ a * b := by
  have := Int.mul_le_mul ha hb (by omega) (by omega)
  omega
theorem times_real {a b h : Fr} (ha : realOk a = true) (hb : realOk b = true) (e : timesI a b = some h) : realOk h = true := by
  obtain ⟨va, ia, da⟩ := real_parts ha
  obtain ⟨vb, ib, db⟩ := real_parts hb
  rw [timesI, va, vb, ia, ib] at e
  simp only [Bool.and_self, if_true, Int.mul_zero, Int.zero_mul, Int.add_zero] at e
  exact low_real (dens_pos da db) e
theorem add_real {a b h : Fr} (ha : realOk a = true) (hb : realOk b = true) (e : addI a b = some h) : realOk h = true := by
  obtain ⟨va, ia, da⟩ := real_parts ha
  obtain ⟨vb, ib, db⟩ := real_parts hb
  rw [addI, va, vb, ia, ib] at e
  simp only [Bool.and_self, if_true, Int.zero_mul, Int.add_zero] at e
  exact low_real (dens_pos da db) e
theorem less_real {a b h : Fr} (ha : realOk a = true) (hb : realOk b = true) (e : lessI a b = some h) : realOk h = true := by
  obtain ⟨va, ia, da⟩ := real_parts ha
  obtain ⟨vb, ib, db⟩ := real_parts hb
  rw [lessI, va, vb, ia, ib] at e
  simp only [Bool.and_self, if_true, Int.zero_mul, Int.sub_zero] at e
  exact low_real (dens_pos da db) e
theorem add_zeroK {x : Fr} (h : fvalid x = true) : addI ⟨0, 0, 1⟩ x = some x := by
  have hg := fvalid_gcd x h
  have hb := fvalid_bd x h
  have e : lowI x.re x.im x.den = some x := by
    unfold lowI
    simp only [hg, Int.tdiv_one, Int.ediv_one]
    rw [if_pos]
    simp only [Bool.and_eq_true, inB_iff, Bool.not_eq_true', decide_eq_false_iff_not]
    exact ⟨⟨hb.1, hb.2.1⟩, by omega⟩
  rw [addI, h, show fvalid ⟨0, 0, 1⟩ = true by decide]
  simpa using e
theorem sq_minor {n k : Nat} {rows : List (List Fr)} (h : Sq (n + 1) rows) (hk : k < n + 2) : Sq n (minorK k rows) := by
  refine ⟨by rw [minorK, List.length_map, List.length_tail, h.1]; omega, fun r hr => ?_⟩
  obtain ⟨r0, hr0, rfl⟩ := List.mem_map.1 hr
  obtain ⟨hl, hf⟩ := h.2 r0 (List.mem_of_mem_tail hr0)
  refine ⟨by rw [cutK, List.length_append, List.length_take, List.length_drop, hl]; omega, fun f hm => ?_⟩
  rcases List.mem_append.1 hm with h1 | h1
  · exact hf f (List.mem_of_mem_take h1)
  · exact hf f (List.mem_of_mem_drop h1)
theorem entry_real {n k : Nat} {rows : List (List Fr)} (h : Sq n rows) (hk : k < n + 1) : realOk (entryK rows k) = true := by
  obtain ⟨hl, hr⟩ := h
  match rows, hl with
  | r :: rs, _ =>
    obtain ⟨h1, h2⟩ := hr r (by simp)
    have : entryK (r :: rs) k = r[k]'(by omega) := by simp [entryK, List.getD, List.getElem?_eq_getElem (show k < r.length by omega)]
    rw [this]
    exact h2 _ (List.getElem_mem _)
theorem det_eq : ∀ (n : Nat) (rows : List (List Fr)), Sq n rows → (detI n rows).2 = (detS n rows).2 ∧ ((detI n rows).2 = false → (detI n rows).1 = (detS n rows).1 ∧ realOk (detI n rows).1 = true)
  | 0, rows, h => ⟨rfl, fun _ => ⟨rfl, entry_real h (by omega)⟩⟩
  | n + 1, rows, h => by
    have key : ∀ k, k ≤ n + 2 → (detIK (detI n) rows k).2 = (detSK (detS n) rows k).2 ∧ ((detIK (detI n) rows k).2 = false → 0 < k → (detIK (detI n) rows k).1 = (detSK (detS n) rows k).1 ∧ realOk (detIK (detI n) rows k).1 = true) := by
      intro k
      induction k with
      | zero => exact fun _ => ⟨rfl, fun _ h => absurd h (by omega)⟩
      | succ k ih =>
        intro hk
        obtain ⟨h1, h2⟩ := ih (by omega)
        obtain ⟨d1, d2⟩ := det_eq n _ (sq_minor (k := k) h (by omega))
        have he := entry_real (k := k) h (by omega)
        simp only [detIK, detSK, stepI, stepS]
        rw [← h1, ← d1]
        cases hs : (detIK (detI n) rows k).2
        · cases hd : (detI n (minorK k rows)).2
          · obtain ⟨e1, r1⟩ := d2 hd
            rw [← e1]
            cases hp : timesI (entryK rows k) (detI n (minorK k rows)).1 with
            | none =>
              simp only [Option.isNone_none, Bool.or_true, Bool.true_or]
              refine ⟨?_, ?_⟩
              · split <;> split <;> rfl
              · intro hc
                split at hc
                · cases hc
                · split at hc <;> cases hc
            | some v =>
              have hv := times_real he r1 hp
              rcases Nat.eq_zero_or_pos k with rfl | hk0
              · have e0 : addI (detSK (detS n) rows 0).1 v = some v := add_zeroK (real_parts hv).1
                simp only [Option.getD_some, Nat.zero_mod, if_true, Option.isNone_some, Bool.or_false]
                rw [if_neg (by omega), e0]
                exact ⟨rfl, fun _ _ => ⟨rfl, hv⟩⟩
              · obtain ⟨e2, r2⟩ := h2 hs hk0
                rw [← e2, if_neg (by omega)]
                simp only [Option.getD_some, Option.isNone_some, Bool.or_false]
                split
                · refine ⟨trivial, fun hc _ => ⟨trivial, ?_⟩⟩
                  cases hx : lessI (detIK (detI n) rows k).1 v with
                  | none => rw [hx] at hc; cases hc
                  | some x => exact less_real r2 hv hx
                · refine ⟨trivial, fun hc _ => ⟨trivial, ?_⟩⟩
                  cases hx : addI (detIK (detI n) rows k).1 v with
                  | none => rw [hx] at hc; cases hc
                  | some x => exact add_real r2 hv hx
          · simp only [Bool.or_true, Bool.true_or]
            refine ⟨?_, ?_⟩
            · split <;> split <;> rfl
            · intro hc
              split at hc
              · cases hc
              · split at hc <;> cases hc
        · simp only [Bool.true_or]
          refine ⟨?_, ?_⟩
          · split <;> split <;> rfl
          · intro hc
            split at hc
            · cases hc
            · split at hc <;> cases hc
    obtain ⟨k1, k2⟩ := key (n + 2) (Nat.le_refl _)
    exact ⟨k1, fun hb => k2 hb (by omega)⟩
end
section
open Go.RowKit
/-- The rows with column k replaced by the readings. -/
def colK (k : Nat) (rows : List (List Fr)) (rs : List Fr) : List (List Fr) := List.zipWith (fun r f => r.set k f) rows rs
/-- The program's way: what stands in the result so far, and whether something was none. -/
def solIK (rows : List (List Fr)) (rs : List Fr) (bot : Fr) : Nat → List Fr × Bool
  | 0 => ([], false)
  | k + 1 =>
    let s := solIK rows rs bot k
    let d := detI 3 (colK k rows rs)
    let o := overI d.1 bot
    (s.1 ++ [o.getD zK], (s.2 || d.2) || o.isNone)
/-- The reference's way. -/
def solSK (rows : List (List Fr)) (rs : List Fr) (bot : Fr) : Nat → Option (List Fr)
  | 0 => some []
  | k + 1 => (solSK rows rs bot k).bind fun out =>
    let d := detS 3 (colK k rows rs)
    if d.2 then none else (overI d.1 bot).map fun o => out ++ [o]
def solI (rows : List (List Fr)) (rs : List Fr) : Option (List Fr) :=
  if rs.all realOk && (decide (rows.length = 4) && decide (rs.length = 4)) then
    if (detI 3 rows).2 || (detI 3 rows).1 == ⟨0, 0, 1⟩ then none
    else if (solIK rows rs (detI 3 rows).1 4).2 then none else some (solIK rows rs (detI 3 rows).1 4).1
  else none
def solS (rows : List (List Fr)) (rs : List Fr) : Option (List Fr) :=
  if decide (rs.length = 4) && rs.all realOk then
    if (detS 3 rows).2 || (detS 3 rows).1.re == 0 then none
    else solSK rows rs (detS 3 rows).1 4
  else none
theorem col_sq {k : Nat} {rows : List (List Fr)} {rs : List Fr} (h : Sq 3 rows) (hl : rs.length = 4) (hr : rs.all realOk = true) : Sq 3 (colK k rows rs) := by
  refine ⟨by rw [colK, List.length_zipWith, h.1, hl]; rfl, fun r hr0 => ?_⟩
  obtain ⟨i, hi, e⟩ := List.getElem_of_mem hr0
  rw [colK, List.length_zipWith] at hi
  have e2 : r = (rows[i]'(by omega)).set k (rs[i]'(by omega)) := by
    rw [← e]
    simp [colK]
  obtain ⟨h1, h2⟩ := h.2 (rows[i]'(by omega)) (List.getElem_mem _)
  rw [e2]
  refine ⟨by rw [List.length_set, h1], fun f hf => ?_⟩
  rcases List.mem_or_eq_of_mem_set hf with h3 | rfl
  · exact h2 f h3
  · exact List.all_eq_true.1 hr _ (List.getElem_mem _)
theorem real_zero {f : Fr} (h : realOk f = true) : (f == ⟨0, 0, 1⟩) = (f.re == 0) := by
  obtain ⟨hv, hi, hd⟩ := real_parts h
  have hz := fvalid_zero f hv
  unfold isZero at hz
  rw [hi] at hz
  simp only [beq_self_eq_true, Bool.true_and, Bool.and_true] at hz
  obtain ⟨a, b, c⟩ := f
  simp only at hi hz ⊢
  subst hi
  cases ha : (a == 0)
  · have : ¬ a = 0 := by simpa using ha
    have h2 : ¬ ((⟨a, 0, c⟩ : Fr) = ⟨0, 0, 1⟩) := fun e => this (by injection e)
    simpa using h2
  · rw [ha, Bool.true_and] at hz
    have h1 : a = 0 := by simpa using ha
    have h2 : c = 1 := by simpa using hz
    subst h1 h2
    decide
theorem sol_key {rows : List (List Fr)} {rs : List Fr} (bot : Fr) (h : Sq 3 rows) (hl : rs.length = 4) (hr : rs.all realOk = true) : ∀ k, (solIK rows rs bot k).2 = (solSK rows rs bot k).isNone ∧ ((solIK rows rs bot k).2 = false → solSK rows rs bot k = some (solIK rows rs bot k).1)
  | 0 => ⟨rfl, fun _ => rfl⟩
  | k + 1 => by
    obtain ⟨h1, h2⟩ := sol_key bot h hl hr k
    obtain ⟨d1, d2⟩ := det_eq 3 _ (col_sq (k := k) h hl hr)
    simp only [solIK, solSK]
    cases hs : (solIK rows rs bot k).2
    · rw [h2 hs, ← d1]
      cases hd : (detI 3 (colK k rows rs)).2
      · rw [← (d2 hd).1]
        simp only [Bool.false_or, Option.bind_some, Bool.false_eq_true, if_false]
        cases overI (detI 3 (colK k rows rs)).1 bot <;> simp [zK]
      · simp
    · rw [hs] at h1
      have : solSK rows rs bot k = none := by simpa using h1.symm
      rw [this]
      simp
/-- Both ways give the same. -/
theorem sol_eq {rows : List (List Fr)} {rs : List Fr} (h : Sq 3 rows) : solI rows rs = solS rows rs := by
  unfold solI solS
  have h4 : rows.length = 4 := h.1
  cases hr : rs.all realOk
  · simp
  by_cases hl : rs.length = 4
  · obtain ⟨d1, d2⟩ := det_eq 3 rows h
    simp only [h4, hl, decide_true, Bool.and_self, if_true]
    rw [← d1]
    cases hd : (detI 3 rows).2
    · obtain ⟨e1, e2⟩ := d2 hd
      rw [← e1, real_zero e2]
      obtain ⟨k1, k2⟩ := sol_key (detI 3 rows).1 h hl hr 4
      cases hz : ((detI 3 rows).1.re == 0)
      · simp only [Bool.or_self, Bool.false_eq_true, if_false]
        cases hs : (solIK rows rs (detI 3 rows).1 4).2
        · rw [k2 hs]; simp
        · rw [hs] at k1
          have : solSK rows rs (detI 3 rows).1 4 = none := by simpa using k1.symm
          rw [this]; simp
      · simp
    · simp
  · simp [hl]
theorem sol_len (rows : List (List Fr)) (rs : List Fr) (bot : Fr) : ∀ k, (solIK rows rs bot k).1.length = k
  | 0 => rfl
  | k + 1 => by simp [solIK, sol_len rows rs bot k]
end
section
open Go.RowKit
def vN (o : Option Fr) : Fr := o.getD zK
def pairV (a b : Fr) : Fr := vN (timesI a (vN (mirrorI b)))
def pairN (a b : Fr) : Bool := (mirrorI b).isNone || (timesI a (vN (mirrorI b))).isNone
def opI (p : Bool) (a b : Fr) : Option Fr := if p then addI a b else lessI a b
def realI (a : Fr) : Option Fr := if fvalid a then lowI a.re 0 a.den else none
def imagI (a : Fr) : Option Fr := if fvalid a then lowI a.im 0 a.den else none
def partI (im : Bool) (a : Fr) : Option Fr := if im then imagI a else realI a
def halfI (a : Fr) : Option Fr := overI a ⟨2, 0, 1⟩
def partS (im : Bool) (a : Fr) (over : Int) : Option Fr := makeI (if im then a.im else a.re) 0 (max 1 a.den * over)
def powE (p2 p3 p4 : Bool) (A B C D : Fr) : Fr × Bool :=
  (vN (halfI (vN (opI p4 (vN (opI p3 (vN (opI p2 A B)) C)) D))),
   (((opI p2 A B).isNone || (opI p3 (vN (opI p2 A B)) C).isNone) || (opI p4 (vN (opI p3 (vN (opI p2 A B)) C)) D).isNone) || (halfI (vN (opI p4 (vN (opI p3 (vN (opI p2 A B)) C)) D))).isNone)
def powR (p2 p3 p4 : Bool) (A B C D : Fr) : Option Fr := partS false (vN (opI p4 (vN (opI p3 (vN (opI p2 A B)) C)) D)) 2
def powS (p2 p3 p4 : Bool) (a b c d : Fr) : Fr × Bool :=
  (vN (powR p2 p3 p4 (pairV a a) (pairV b b) (pairV c c) (pairV d d)),
   ((((((pairN a a || pairN b b) || (opI p2 (pairV a a) (pairV b b)).isNone) || pairN c c) || (opI p3 (vN (opI p2 (pairV a a) (pairV b b))) (pairV c c)).isNone) || pairN d d) || (opI p4 (vN (opI p3 (vN (opI p2 (pairV a a) (pairV b b))) (pairV c c))) (pairV d d)).isNone) ||
    (powR p2 p3 p4 (pairV a a) (pairV b b) (pairV c c) (pairV d d)).isNone)
def twoE (im p : Bool) (x y u v : Fr) : Fr × Bool :=
  (vN (partI im (vN (opI p (pairV x y) (pairV u v)))), ((pairN x y || pairN u v) || (opI p (pairV x y) (pairV u v)).isNone) || (partI im (vN (opI p (pairV x y) (pairV u v)))).isNone)
def twoS (im p : Bool) (x y u v : Fr) : Fr × Bool :=
  (vN (partS im (vN (opI p (pairV x y) (pairV u v))) 1), ((pairN x y || pairN u v) || (opI p (pairV x y) (pairV u v)).isNone) || (partS im (vN (opI p (pairV x y) (pairV u v))) 1).isNone)
def entsI (a b c d A B C D : Fr) : List (Fr × Bool) :=
  [powE true true true A B C D, powE false true false A B C D, twoE false true a b c d, twoE true true b a d c,
   powE true false false A B C D, powE false false true A B C D, twoE false false a b c d, twoE true false b a d c,
   twoE false true a c b d, twoE false false a c b d, twoE false true a d b c, twoE true false b c a d,
   twoE true true a c b d, twoE true false a c b d, twoE true true a d b c, twoE false false a d b c]
def entsS (a b c d : Fr) : List (Fr × Bool) :=
  [powS true true true a b c d, powS false true false a b c d, twoS false true a b c d, twoS true true b a d c,
   powS true false false a b c d, powS false false true a b c d, twoS false false a b c d, twoS true false b a d c,
   twoS false true a c b d, twoS false false a c b d, twoS false true a d b c, twoS true false b c a d,
   twoS true true a c b d, twoS true false a c b d, twoS true true a d b c, twoS false false a d b c]
/-- The four powers: whether one is none. -/
def pow4 (a b c d : Fr) : Bool := (((powerI a).isNone || (powerI b).isNone) || (powerI c).isNone) || (powerI d).isNone
def tabI4 (v : Bool) (a b c d : Fr) : Option (List Fr) :=
  let e := entsI a b c d (vN (powerI a)) (vN (powerI b)) (vN (powerI c)) (vN (powerI d))
  if (!v || pow4 a b c d) || e.any (·.2) then none else some (e.map (·.1))
def tabS4 (v : Bool) (a b c d : Fr) : Option (List Fr) := if !v || (entsS a b c d).any (·.2) then none else some ((entsS a b c d).map (·.1))
theorem pair_self {a : Fr} (h : fvalid a = true) : pairV a a = vN (powerI a) ∧ pairN a a = (powerI a).isNone := by
  have hm : fvalid ⟨a.re, -a.im, a.den⟩ = true := by
    have hg := fvalid_gcd a h
    have hb := fvalid_bd a h
    simp only [fvalid, Bool.and_eq_true, inB_iff, beq_iff_eq]
    refine ⟨⟨⟨hb.1, by omega⟩, hb.2.2⟩, ?_⟩
    unfold gcd3 gcdI absI at hg ⊢
    simpa using hg
  have e : timesI a ⟨a.re, -a.im, a.den⟩ = powerI a := by
    unfold timesI powerI
    rw [h, hm]
    simp only [Bool.and_self, if_true]
    congr 1
    · rw [Int.mul_neg]; omega
    · rw [Int.mul_neg, Int.mul_comm a.im a.re]; omega
  have e1 : mirrorI a = some ⟨a.re, -a.im, a.den⟩ := by simp [mirrorI, h]
  unfold pairV pairN
  rw [e1]
  simp only [vN, Option.getD_some, e, Option.isNone_some, Bool.false_or, and_self]
theorem power_real {a f : Fr} (e : powerI a = some f) : realOk f = true := by
  unfold powerI at e
  split at e
  · rename_i h
    exact low_real (dens_pos (fvalid_bd a h).2.2.1 (fvalid_bd a h).2.2.1) e
  · cases e
theorem op_real {p : Bool} {a b f : Fr} (ha : realOk a = true) (hb : realOk b = true) (e : opI p a b = some f) : realOk f = true := by
  unfold opI at e
  split at e
  · exact add_real ha hb e
  · exact less_real ha hb e
theorem op_valid {p : Bool} {a b f : Fr} (e : opI p a b = some f) : fvalid f = true := by
  unfold opI addI lessI at e
  split at e
  · split at e
    · rename_i h
      simp only [Bool.and_eq_true] at h
      exact lowI_valid (dens_pos (fvalid_bd a h.1).2.2.1 (fvalid_bd b h.2).2.2.1) e
    · cases e
  · split at e
    · rename_i h
      simp only [Bool.and_eq_true] at h
      exact lowI_valid (dens_pos (fvalid_bd a h.1).2.2.1 (fvalid_bd b h.2).2.2.1) e
    · cases e
theorem half_part {x : Fr} (h : realOk x = true) : halfI x = partS false x 2 := by
  obtain ⟨v, i, d⟩ := real_parts h
  have hb := fvalid_bd x v
  have e1 : turnI ⟨2, 0, 1⟩ = some ⟨1, 0, 2⟩ := by decide
  have e2 : fvalid ⟨2, 0, 1⟩ = true := by decide
  have e3 : fvalid ⟨1, 0, 2⟩ = true := by decide
  have e4 : isZero ⟨2, 0, 1⟩ = false := by decide
  have e5 : max 1 x.den = x.den := by omega
  have e6 : (inB (x.den * 2) 1 1000000000000000000 && inB x.re (-1000000000000000000) 1000000000000000000 && inB 0 (-1000000000000000000) 1000000000000000000) = true := by
    simp only [Bool.and_eq_true, inB_iff]; omega
  unfold halfI overI partS makeI
  rw [e1, v, e2, e4]
  simp only [Bool.not_false, Bool.and_self, if_true, Option.bind_some, if_neg Bool.false_ne_true]
  unfold timesI
  rw [v, e3, i, e5, e6]
  simp
theorem part_part {im : Bool} {x : Fr} (v : fvalid x = true) : partI im x = partS im x 1 := by
  have hb := fvalid_bd x v
  have e5 : max 1 x.den = x.den := by omega
  unfold partI partS makeI realI imagI
  rw [v, e5, Int.mul_one]
  cases im <;> simp only [if_true, if_neg Bool.false_ne_true]
  · rw [if_pos]
    simp only [Bool.and_eq_true, inB_iff]; omega
  · rw [if_pos]
    simp only [Bool.and_eq_true, inB_iff]; omega
theorem two_eq (im p : Bool) (x y u v : Fr) : (twoE im p x y u v).2 = (twoS im p x y u v).2 ∧ ((twoE im p x y u v).2 = false → (twoE im p x y u v).1 = (twoS im p x y u v).1) := by
  unfold twoE twoS
  cases h : opI p (pairV x y) (pairV u v) with
  | none => simp
  | some f =>
    simp only [vN, Option.getD_some, Option.isNone_some, part_part (op_valid h)]
    exact ⟨trivial, fun _ => trivial⟩
theorem pow_eq (p2 p3 p4 : Bool) {a b c d : Fr} (ha : fvalid a = true) (hb : fvalid b = true) (hc : fvalid c = true) (hd : fvalid d = true) :
    (pow4 a b c d || (powE p2 p3 p4 (vN (powerI a)) (vN (powerI b)) (vN (powerI c)) (vN (powerI d))).2) = (powS p2 p3 p4 a b c d).2 ∧
    ((pow4 a b c d || (powE p2 p3 p4 (vN (powerI a)) (vN (powerI b)) (vN (powerI c)) (vN (powerI d))).2) = false → (powE p2 p3 p4 (vN (powerI a)) (vN (powerI b)) (vN (powerI c)) (vN (powerI d))).1 = (powS p2 p3 p4 a b c d).1) := by
  unfold powS powE powR pow4
  rw [(pair_self ha).1, (pair_self hb).1, (pair_self hc).1, (pair_self hd).1, (pair_self ha).2, (pair_self hb).2, (pair_self hc).2, (pair_self hd).2]
  cases ea : powerI a with
  | none => simp
  | some A =>
  cases eb : powerI b with
  | none => simp
  | some B =>
  cases ec : powerI c with
  | none => simp
  | some C =>
  cases ed : powerI d with
  | none => simp
  | some D =>
  simp only [vN, Option.getD_some, Option.isNone_some, Bool.false_or, Bool.or_false]
  cases h1 : opI p2 A B with
  | none => simp
  | some x1 =>
  simp only [Option.getD_some, Option.isNone_some, Bool.false_or, Bool.or_false]
  cases h2 : opI p3 x1 C with
  | none => simp
  | some x2 =>
  simp only [Option.getD_some, Option.isNone_some, Bool.false_or, Bool.or_false]
  cases h3 : opI p4 x2 D with
  | none => simp
  | some x3 =>
  simp only [Option.getD_some, Option.isNone_some, Bool.false_or, Bool.or_false]
  have r1 := op_real (power_real ea) (power_real eb) h1
  have r2 := op_real r1 (power_real ec) h2
  have r3 := op_real r2 (power_real ed) h3
  rw [half_part r3]
  exact ⟨rfl, fun _ => rfl⟩
theorem tab_eq (a b c d : Fr) : tabI4 (fvalid a && fvalid b && fvalid c && fvalid d) a b c d = tabS4 (fvalid a && fvalid b && fvalid c && fvalid d) a b c d := by
  unfold tabI4 tabS4
  cases hv : fvalid a && fvalid b && fvalid c && fvalid d
  · simp
  simp only [Bool.and_eq_true] at hv
  obtain ⟨⟨⟨ha, hb⟩, hc⟩, hd⟩ := hv
  have q := fun p2 p3 p4 => pow_eq p2 p3 p4 ha hb hc hd
  cases hp : pow4 a b c d
  · simp only [hp, Bool.false_or] at q
    have e : (entsI a b c d (vN (powerI a)) (vN (powerI b)) (vN (powerI c)) (vN (powerI d))).any (·.2) = (entsS a b c d).any (·.2) := by
      simp only [entsI, entsS, List.any_cons, List.any_nil, (two_eq _ _ _ _ _ _).1, (q _ _ _).1]
    simp only [Bool.not_true, Bool.false_or, e]
    cases hs : (entsS a b c d).any (·.2)
    · rw [hs] at e
      simp only [if_neg Bool.false_ne_true]
      congr 1
      simp only [entsI, List.any_cons, List.any_nil, Bool.or_false, Bool.or_eq_false_iff] at e
      obtain ⟨f0, f1, f2, f3, f4, f5, f6, f7, f8, f9, f10, f11, f12, f13, f14, f15⟩ := e
      simp only [entsI, entsS, List.map_cons, List.map_nil]
      rw [(q _ _ _).2 f0, (q _ _ _).2 f1, (two_eq _ _ _ _ _ _).2 f2, (two_eq _ _ _ _ _ _).2 f3, (q _ _ _).2 f4, (q _ _ _).2 f5, (two_eq _ _ _ _ _ _).2 f6, (two_eq _ _ _ _ _ _).2 f7, (two_eq _ _ _ _ _ _).2 f8, (two_eq _ _ _ _ _ _).2 f9, (two_eq _ _ _ _ _ _).2 f10, (two_eq _ _ _ _ _ _).2 f11, (two_eq _ _ _ _ _ _).2 f12, (two_eq _ _ _ _ _ _).2 f13, (two_eq _ _ _ _ _ _).2 f14, (two_eq _ _ _ _ _ _).2 f15]
    · simp
  · have : (entsS a b c d).any (·.2) = true := by
      have h0 := (q true true true).1
      rw [hp, Bool.true_or] at h0
      simp only [entsS, List.any_cons, ← h0, Bool.true_or]
    simp [this]
/-- The sum of n products, the program's way and the reference's. -/
def dotI (r c : Nat → Fr) : Nat → Fr × Bool
  | 0 => (zK, false)
  | k + 1 =>
    let p := timesI (r k) (c k)
    if k = 0 then (vN p, p.isNone)
    else (vN (addI (dotI r c k).1 (vN p)), ((dotI r c k).2 || p.isNone) || (addI (dotI r c k).1 (vN p)).isNone)
def dotS (r c : Nat → Fr) : Nat → Fr × Bool
  | 0 => (⟨0, 0, 1⟩, false)
  | k + 1 => (vN (addI (dotS r c k).1 (vN (timesI (r k) (c k)))), ((dotS r c k).2 || (timesI (r k) (c k)).isNone) || (addI (dotS r c k).1 (vN (timesI (r k) (c k)))).isNone)
theorem dot_eq {r c : Nat → Fr} : ∀ n, (∀ k, k < n → realOk (r k) = true) → (∀ k, k < n → realOk (c k) = true) →
    (dotI r c n).2 = (dotS r c n).2 ∧ ((dotI r c n).2 = false → 0 < n → (dotI r c n).1 = (dotS r c n).1 ∧ realOk (dotI r c n).1 = true)
  | 0, _, _ => ⟨rfl, fun _ h => absurd h (by omega)⟩
  | k + 1, hr, hc => by
    obtain ⟨h1, h2⟩ := dot_eq k (fun i hi => hr i (by omega)) (fun i hi => hc i (by omega))
    have r1 := hr k (by omega)
    have r2 := hc k (by omega)
    unfold dotI dotS
    simp only []
    cases hp : timesI (r k) (c k) with
    | none => by_cases h0 : k = 0 <;> simp [h0]
    | some x =>
      have rx := times_real r1 r2 hp
      simp only [vN, Option.getD_some, Option.isNone_some, Bool.or_false]
      by_cases h0 : k = 0
      · subst h0
        rw [if_pos rfl]
        have e : addI (dotS r c 0).1 x = some x := add_zeroK (real_parts rx).1
        rw [e]
        exact ⟨rfl, fun _ _ => ⟨rfl, rx⟩⟩
      · rw [if_neg h0, ← h1]
        cases hs : (dotI r c k).2
        · obtain ⟨e1, e2⟩ := h2 hs (by omega)
          rw [← e1]
          cases ha : addI (dotI r c k).1 x with
          | none => simp
          | some y => exact ⟨rfl, fun _ _ => ⟨rfl, add_real e2 rx ha⟩⟩
        · simp
def trow (a : List Fr) (i : Nat) (k : Nat) : Fr := a.getD (4 * i + k) zK
def tcol (b : List Fr) (j : Nat) (k : Nat) : Fr := b.getD (4 * k + j) zK
/-- The first n cells of a product of tables. -/
def ttI (a b : List Fr) : Nat → List Fr × Bool
  | 0 => ([], false)
  | n + 1 => ((ttI a b n).1 ++ [(dotI (trow a (n / 4)) (tcol b (n % 4)) 4).1], (ttI a b n).2 || (dotI (trow a (n / 4)) (tcol b (n % 4)) 4).2)
def ttS (a b : List Fr) : Nat → List Fr × Bool
  | 0 => ([], false)
  | n + 1 => ((ttS a b n).1 ++ [(dotS (trow a (n / 4)) (tcol b (n % 4)) 4).1], (ttS a b n).2 || (dotS (trow a (n / 4)) (tcol b (n % 4)) 4).2)
def ttimesI (a b : List Fr) : Option (List Fr) := if !(a.all realOk && b.all realOk) || (ttI a b 16).2 then none else some (ttI a b 16).1
def ttimesS (a b : List Fr) : Option (List Fr) := if !(a.all realOk && b.all realOk) || (ttS a b 16).2 then none else some (ttS a b 16).1
theorem getD_real {a : List Fr} (h : a.all realOk = true) {i : Nat} (hi : i < a.length) : realOk (a.getD i zK) = true := by
  rw [List.getD_eq_getElem?_getD, List.getElem?_eq_getElem hi, Option.getD_some]
  exact List.all_eq_true.1 h _ (List.getElem_mem hi)
theorem tt_eq {a b : List Fr} (ha : a.length = 16) (hb : b.length = 16) (hra : a.all realOk = true) (hrb : b.all realOk = true) :
    ∀ n, n ≤ 16 → (ttI a b n).2 = (ttS a b n).2 ∧ ((ttI a b n).2 = false → (ttI a b n).1 = (ttS a b n).1)
  | 0, _ => ⟨rfl, fun _ => rfl⟩
  | n + 1, hn => by
    obtain ⟨h1, h2⟩ := tt_eq ha hb hra hrb n (by omega)
    obtain ⟨d1, d2⟩ := dot_eq (r := trow a (n / 4)) (c := tcol b (n % 4)) 4 (fun k hk => getD_real hra (by omega)) (fun k hk => getD_real hrb (by omega))
    unfold ttI ttS
    simp only [← h1, ← d1]
    refine ⟨trivial, fun h => ?_⟩
    simp only [Bool.or_eq_false_iff] at h
    rw [h2 h.1, (d2 h.2 (by omega)).1]
theorem ttimes_eq {a b : List Fr} (ha : a.length = 16) (hb : b.length = 16) : ttimesI a b = ttimesS a b := by
  unfold ttimesI ttimesS
  cases hv : a.all realOk && b.all realOk
  · simp
  simp only [Bool.and_eq_true] at hv
  obtain ⟨h1, h2⟩ := tt_eq ha hb hv.1 hv.2 16 (by omega)
  rw [← h1]
  cases h : (ttI a b 16).2
  · simp [h2 h]
  · simp
theorem tt_len (a b : List Fr) : ∀ n, (ttI a b n).1.length = n
  | 0 => rfl
  | n + 1 => by simp [ttI, tt_len a b n]
theorem ttS_len (a b : List Fr) : ∀ n, (ttS a b n).1.length = n
  | 0 => rfl
  | n + 1 => by simp [ttS, ttS_len a b n]
theorem tab_len {v : Bool} {a b c d : Fr} {xs : List Fr} (h : tabI4 v a b c d = some xs) : xs.length = 16 := by
  unfold tabI4 at h
  simp only [] at h
  split at h
  · cases h
  · obtain rfl := Option.some.inj h; rfl
end
section
open Go.RowKit
def qr (f : Fr) : Rat := (f.re : Rat) / (f.den : Rat)
def qi (f : Fr) : Rat := (f.im : Rat) / (f.den : Rat)
theorem q_cross {a b c d : Int} (hb : 1 ≤ b) (hd : 1 ≤ d) (h : a * d = c * b) : (a : Rat) / (b : Rat) = (c : Rat) / (d : Rat) := by
  rw [← Rat.divInt_eq_div, ← Rat.divInt_eq_div, Rat.divInt_eq_divInt_iff (by omega) (by omega)]
  exact h
theorem q_uncross {a b c d : Int} (hb : 1 ≤ b) (hd : 1 ≤ d) (h : (a : Rat) / (b : Rat) = (c : Rat) / (d : Rat)) : a * d = c * b := by
  rw [← Rat.divInt_eq_div, ← Rat.divInt_eq_div, Rat.divInt_eq_divInt_iff (by omega) (by omega)] at h
  exact h
theorem q_ne {b : Int} (hb : 1 ≤ b) : (b : Rat) ≠ 0 := by
  intro h
  have : b = 0 := by
    have h2 : ((b : Rat)).num = (0 : Rat).num := by rw [h]
    simpa using h2
  omega
theorem cq_low {re im den : Int} {h : Fr} (hd : 1 ≤ den) (e : lowI re im den = some h) : fvalid h = true ∧ qr h = (re : Rat) / (den : Rat) ∧ qi h = (im : Rat) / (den : Rat) := by
  obtain ⟨hv, h1, h2⟩ := lowI_val hd e
  have hb := (fvalid_bd h hv).2.2.1
  exact ⟨hv, q_cross hb hd h1, q_cross hb hd h2⟩
theorem cq_times {a b h : Fr} (e : timesI a b = some h) : fvalid h = true ∧ qr h = qr a * qr b - qi a * qi b ∧ qi h = qr a * qi b + qi a * qr b := by
  unfold timesI at e
  split at e
  · rename_i hv
    simp only [Bool.and_eq_true] at hv
    have da := (fvalid_bd a hv.1).2.2.1
    have db := (fvalid_bd b hv.2).2.2.1
    obtain ⟨v, h1, h2⟩ := cq_low (dens_pos da db) e
    have na := q_ne da
    have nb := q_ne db
    refine ⟨v, ?_, ?_⟩
    · rw [h1]; unfold qr qi
      simp only [Rat.intCast_mul, Rat.intCast_sub]
      clear h1 h2 e hv
      grind
    · rw [h2]; unfold qr qi
      simp only [Rat.intCast_mul, Rat.intCast_add]
      clear h1 h2 e hv
      grind
  · cases e
theorem cq_add {a b h : Fr} (e : addI a b = some h) : fvalid h = true ∧ qr h = qr a + qr b ∧ qi h = qi a + qi b := by
  unfold addI at e
  split at e
  · rename_i hv
    simp only [Bool.and_eq_true] at hv
    have da := (fvalid_bd a hv.1).2.2.1
    have db := (fvalid_bd b hv.2).2.2.1
    obtain ⟨v, h1, h2⟩ := cq_low (dens_pos da db) e
    have na := q_ne da
    have nb := q_ne db
    refine ⟨v, ?_, ?_⟩
    · rw [h1]; unfold qr
      simp only [Rat.intCast_mul, Rat.intCast_add]
      clear h1 h2 e hv
      grind
    · rw [h2]; unfold qi
      simp only [Rat.intCast_mul, Rat.intCast_add]
      clear h1 h2 e hv
      grind
  · cases e
theorem cq_less {a b h : Fr} (e : lessI a b = some h) : fvalid h = true ∧ qr h = qr a - qr b ∧ qi h = qi a - qi b := by
  unfold lessI at e
  split at e
  · rename_i hv
    simp only [Bool.and_eq_true] at hv
    have da := (fvalid_bd a hv.1).2.2.1
    have db := (fvalid_bd b hv.2).2.2.1
    obtain ⟨v, h1, h2⟩ := cq_low (dens_pos da db) e
    have na := q_ne da
    have nb := q_ne db
    refine ⟨v, ?_, ?_⟩
    · rw [h1]; unfold qr
      simp only [Rat.intCast_mul, Rat.intCast_sub]
      clear h1 h2 e hv
      grind
    · rw [h2]; unfold qi
      simp only [Rat.intCast_mul, Rat.intCast_sub]
      clear h1 h2 e hv
      grind
  · cases e
theorem q_div_neg (a b : Int) : ((-a : Int) : Rat) / (b : Rat) = -((a : Rat) / (b : Rat)) := by
  simp only [Rat.intCast_neg]
  grind
theorem cq_mirror {a h : Fr} (e : mirrorI a = some h) : qr h = qr a ∧ qi h = -qi a := by
  unfold mirrorI at e
  split at e
  · obtain rfl := Option.some.inj e
    exact ⟨rfl, q_div_neg _ _⟩
  · cases e
theorem cq_uniq {a b : Fr} (ha : fvalid a = true) (hb : fvalid b = true) (h1 : qr a = qr b) (h2 : qi a = qi b) : a = b := by
  have da := (fvalid_bd a ha).2.2.1
  have db := (fvalid_bd b hb).2.2.1
  have e1 := q_uncross da db h1
  have e2 := q_uncross da db h2
  exact rep_uniq (x := b.re) (y := b.im) (d := b.den) ⟨ha, db, e1, e2⟩ ⟨hb, db, rfl, rfl⟩
theorem qi_real {a : Fr} (h : realOk a = true) : qi a = 0 := by
  obtain ⟨-, hi, -⟩ := real_parts h
  unfold qi
  rw [hi]
  simp [Rat.div_def]
theorem q_uniq {a b : Fr} (ha : realOk a = true) (hb : realOk b = true) (h : qr a = qr b) : a = b :=
  cq_uniq (real_parts ha).1 (real_parts hb).1 h (by rw [qi_real ha, qi_real hb])
theorem q_times {a b h : Fr} (ha : realOk a = true) (hb : realOk b = true) (e : timesI a b = some h) : realOk h = true ∧ qr h = qr a * qr b := by
  refine ⟨times_real ha hb e, ?_⟩
  rw [(cq_times e).2.1, qi_real ha]
  grind
theorem q_add {a b h : Fr} (ha : realOk a = true) (hb : realOk b = true) (e : addI a b = some h) : realOk h = true ∧ qr h = qr a + qr b := ⟨add_real ha hb e, (cq_add e).2.1⟩
theorem q_less {a b h : Fr} (ha : realOk a = true) (hb : realOk b = true) (e : lessI a b = some h) : realOk h = true ∧ qr h = qr a - qr b := ⟨less_real ha hb e, (cq_less e).2.1⟩
theorem q_zero {a : Fr} (ha : realOk a = true) : qr a = 0 ↔ a.re = 0 := by
  obtain ⟨-, -, da⟩ := real_parts ha
  constructor
  · intro h
    have := q_uncross (a := a.re) (b := a.den) (c := 0) (d := 1) da (by omega) (by rw [show ((a.re : Rat) / (a.den : Rat)) = 0 from h]; simp [Rat.div_def])
    simpa using this
  · intro h
    unfold qr
    rw [h]
    simp [Rat.div_def]
theorem q_over {a b h : Fr} (ha : realOk a = true) (hb : realOk b = true) (e : overI a b = some h) : realOk h = true ∧ qr b ≠ 0 ∧ qr h * qr b = qr a := by
  obtain ⟨va, ia, da⟩ := real_parts ha
  obtain ⟨vb, ib, db⟩ := real_parts hb
  unfold overI at e
  rw [va, vb] at e
  cases hz : isZero b
  · rw [hz] at e
    simp only [Bool.not_false, Bool.and_self, if_true] at e
    have hn := norm_pos b hz
    have hre : b.re ≠ 0 := by
      intro h0
      simp [isZero, h0, ib] at hz
    cases ht : turnI b with
    | none => rw [ht] at e; cases e
    | some t =>
      rw [ht, Option.bind_some] at e
      unfold turnI at ht
      have hti : realOk t = true := by
        rw [ib, Int.mul_zero] at ht
        exact low_real (by rw [ib] at hn; simpa using hn) ht
      obtain ⟨-, t1, -⟩ := cq_low hn ht
      obtain ⟨h1, h2⟩ := q_times ha hti e
      have nb : qr b ≠ 0 := fun h0 => hre ((q_zero hb).1 h0)
      refine ⟨h1, nb, ?_⟩
      have nd := q_ne db
      have nr : (b.re : Rat) ≠ 0 := by
        intro h0
        have h2 : ((b.re : Rat)).num = (0 : Rat).num := by rw [h0]
        exact hre (by simpa using h2)
      have e3 : qr t * qr b = 1 := by
        rw [t1, ib]
        unfold qr
        simp only [Rat.intCast_mul, Rat.intCast_add, Int.mul_zero, Int.add_zero]
        clear t1 h1 h2 e ht hti
        grind
      rw [h2, Rat.mul_assoc, e3, Rat.mul_one]
  · rw [hz] at e
    cases e
end
end Go.Proofs.YtkdggljioekkhaaGreatDoor
