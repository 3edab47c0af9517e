/-
  Texts of this claim, joined: Rp; Va; Ka; Kg; Ta; Tv. Nothing is claimed here; the other texts of this claim use it.
-/
import Derived.Test.YtjbnkefeacineaaGreatDoorPa
namespace Go.Proofs.YtjbnkefeacineaaGreatDoor
set_option linter.unusedSimpArgs false
set_option linter.unusedVariables false
section
open Go.RowKit
/-- The fraction f stands for (x + yi)/d. -/
structure Rep (f : Fr) (x y d : Int) : Prop where
  ok : fvalid f = true
  pos : 1 ≤ d
  re : f.re * d = x * f.den
  im : f.im * d = y * f.den
theorem small_div {x g x' : Int} (h : x = g * x') (hg : 1 ≤ g) (h1 : -2000000000 ≤ x) (h2 : x ≤ 2000000000) : -2000000000 ≤ x' ∧ x' ≤ 2000000000 := by
  have e : x.natAbs = g.natAbs * x'.natAbs := by rw [h, Int.natAbs_mul]
  have : x'.natAbs ≤ g.natAbs * x'.natAbs := Nat.le_mul_of_pos_left _ (by omega)
  omega
theorem lowI_small (x y d : Int) (hd : 1 ≤ d) (hd2 : d ≤ 2000000000) (hx : -2000000000 ≤ x ∧ x ≤ 2000000000) (hy : -2000000000 ≤ y ∧ y ≤ 2000000000) : ∃ f, lowI x y d = some f ∧ Rep f x y d := by
  obtain ⟨x', y', d', e1, e2, e3, t1, t2, t3, g1, hd'⟩ := low_parts x y d hd
  have hg := gcd3_pos x y d hd
  have bx := small_div e1 hg hx.1 hx.2
  have by' := small_div e2 hg hy.1 hy.2
  have bd := small_div e3 hg (by omega) hd2
  have hs : lowI x y d = some ⟨x', y', d'⟩ := by
    unfold lowI
    simp only [t1, t2, t3]
    rw [if_pos]
    simp only [Bool.and_eq_true, inB_iff, Bool.not_eq_true', decide_eq_false_iff_not]
    exact ⟨⟨bx, by'⟩, by omega⟩
  refine ⟨_, hs, lowI_valid hd hs, hd, ?_, ?_⟩
  · show x' * d = x * d'
    generalize gcd3 x y d = g at *
    rw [e1, e3]
    rw [Int.mul_left_comm, Int.mul_assoc]
  · show y' * d = y * d'
    generalize gcd3 x y d = g at *
    rw [e2, e3]
    rw [Int.mul_left_comm, Int.mul_assoc]
theorem lowI_rep {re im den x y d : Int} (h1 : 1 ≤ den) (hd : 1 ≤ d) (hd2 : d ≤ 2000000000) (hx : -2000000000 ≤ x ∧ x ≤ 2000000000) (hy : -2000000000 ≤ y ∧ y ≤ 2000000000) (er : re * d = x * den) (ei : im * d = y * den) :
    ∃ f, lowI re im den = some f ∧ Rep f x y d := by
  have e1 : lowI re im den = lowI x y d := by
    rw [← lowI_scale d re im den hd h1, ← lowI_scale den x y d h1 hd, Int.mul_comm d re, er, Int.mul_comm d im, ei, Int.mul_comm x den, Int.mul_comm y den, Int.mul_comm d den]
  rw [e1]
  exact lowI_small x y d hd hd2 hx hy
theorem Rep.bd {f : Fr} {x y d : Int} (h : Rep f x y d) : 1 ≤ f.den ∧ f.den ≤ 2000000000 := (fvalid_bd f h.ok).2.2
theorem rep_times {f g : Fr} {x y d u v e : Int} (hf : Rep f x y d) (hg : Rep g u v e) (b1 : -2000000000 ≤ x * u - y * v ∧ x * u - y * v ≤ 2000000000) (b2 : -2000000000 ≤ x * v + y * u ∧ x * v + y * u ≤ 2000000000) (b3 : 1 ≤ d * e ∧ d * e ≤ 2000000000) :
    ∃ h, timesI f g = some h ∧ Rep h (x * u - y * v) (x * v + y * u) (d * e) := by
  have e0 : timesI f g = lowI (f.re * g.re - f.im * g.im) (f.re * g.im + f.im * g.re) (f.den * g.den) := by simp [timesI, hf.ok, hg.ok]
  rw [e0]
  have k := mulbd1 f.den g.den hf.bd.1 hf.bd.2 hg.bd.1 hg.bd.2
  have h1 := hf.re; have h2 := hf.im; have h3 := hg.re; have h4 := hg.im
  refine lowI_rep k.1 b3.1 b3.2 b1 b2 ?_ ?_
  · clear e0 k b1 b2 b3 hf hg; grind
  · clear e0 k b1 b2 b3 hf hg; grind
theorem rep_add {f g : Fr} {x y u v d : Int} (hf : Rep f x y d) (hg : Rep g u v d) (b1 : -2000000000 ≤ x + u ∧ x + u ≤ 2000000000) (b2 : -2000000000 ≤ y + v ∧ y + v ≤ 2000000000) (b3 : d ≤ 2000000000) :
    ∃ h, addI f g = some h ∧ Rep h (x + u) (y + v) d := by
  have e0 : addI f g = lowI (f.re * g.den + g.re * f.den) (f.im * g.den + g.im * f.den) (f.den * g.den) := by simp [addI, hf.ok, hg.ok]
  rw [e0]
  have k := mulbd1 f.den g.den hf.bd.1 hf.bd.2 hg.bd.1 hg.bd.2
  have h1 := hf.re; have h2 := hf.im; have h3 := hg.re; have h4 := hg.im
  refine lowI_rep k.1 hf.pos b3 b1 b2 ?_ ?_
  · clear e0 k b1 b2 b3 hf hg; grind
  · clear e0 k b1 b2 b3 hf hg; grind
/-- A number that is not great. -/
def few (x : Int) : Prop := -20000 ≤ x ∧ x ≤ 20000
theorem few_mul {x y : Int} (hx : few x) (hy : few y) : -400000000 ≤ x * y ∧ x * y ≤ 400000000 := by
  unfold few at hx hy
  have h : (x * y).natAbs ≤ 20000 * 20000 := by
    rw [Int.natAbs_mul]
    exact Nat.mul_le_mul (by omega) (by omega)
  omega
theorem few_pos {x y : Int} (hx : few x) (hy : few y) (h1 : 1 ≤ x) (h2 : 1 ≤ y) : 1 ≤ x * y ∧ x * y ≤ 400000000 := by
  have := few_mul hx hy
  have k := Int.mul_le_mul h1 h2 (by omega) (by omega)
  omega
theorem rep_inner {p q r s : Fr} {x1 y1 u1 v1 x2 y2 u2 v2 d e : Int} (hp : Rep p x1 y1 d) (hq : Rep q u1 v1 e) (hr : Rep r x2 y2 d) (hs : Rep s u2 v2 e)
    (a1 : few x1) (a2 : few y1) (a3 : few u1) (a4 : few v1) (a5 : few x2) (a6 : few y2) (a7 : few u2) (a8 : few v2) (a9 : few d) (a10 : few e) :
    ∃ h, innerI p q r s = some h ∧ Rep h ((x1 * u1 - y1 * v1) + (x2 * u2 - y2 * v2)) ((x1 * v1 + y1 * u1) + (x2 * v2 + y2 * u2)) (d * e) := by
  have m1 := few_mul a1 a3; have m2 := few_mul a2 a4; have m3 := few_mul a1 a4; have m4 := few_mul a2 a3
  have m5 := few_mul a5 a7; have m6 := few_mul a6 a8; have m7 := few_mul a5 a8; have m8 := few_mul a6 a7
  have m9 := few_pos a9 a10 hp.pos hq.pos
  obtain ⟨f, ef, hf⟩ := rep_times hp hq (by omega) (by omega) (by omega)
  obtain ⟨g, eg, hg⟩ := rep_times hr hs (by omega) (by omega) (by omega)
  obtain ⟨h, eh, hh⟩ := rep_add hf hg (by omega) (by omega) (by omega)
  exact ⟨h, by simp [innerI, ef, eg, eh], hh⟩
theorem gcd3_neg (a b c : Int) : gcd3 (-a) (-b) c = gcd3 a b c := by simp [gcd3, gcdI, absI]
theorem gcd3_neg2 (a b c : Int) : gcd3 a (-b) c = gcd3 a b c := by simp [gcd3, gcdI, absI]
theorem rep_neg {f : Fr} {x y d : Int} (h : Rep f x y d) : Rep ⟨-f.re, -f.im, f.den⟩ (-x) (-y) d := by
  refine ⟨?_, h.pos, ?_, ?_⟩
  · have b := fvalid_bd f h.ok
    have g := fvalid_gcd f h.ok
    simp only [fvalid, gcd3_neg, g, Bool.and_eq_true, inB_iff, beq_self_eq_true, and_true]
    omega
  · show -f.re * d = -x * f.den
    rw [Int.neg_mul, Int.neg_mul, h.re]
  · show -f.im * d = -y * f.den
    rw [Int.neg_mul, Int.neg_mul, h.im]
theorem rep_mirror {f : Fr} {x y d : Int} (h : Rep f x y d) : mirrorI f = some ⟨f.re, -f.im, f.den⟩ ∧ Rep ⟨f.re, -f.im, f.den⟩ x (-y) d := by
  refine ⟨by simp [mirrorI, h.ok], ?_, h.pos, h.re, ?_⟩
  · have b := fvalid_bd f h.ok
    have g := fvalid_gcd f h.ok
    simp only [fvalid, gcd3_neg2, g, Bool.and_eq_true, inB_iff, beq_self_eq_true, and_true]
    omega
  · show -f.im * d = -y * f.den
    rw [Int.neg_mul, Int.neg_mul, h.im]
end
section
open Go.RowKit
theorem lowI_val {re im den : Int} {h : Fr} (hd : 1 ≤ den) (e : lowI re im den = some h) : fvalid h = true ∧ h.re * den = re * h.den ∧ h.im * den = im * h.den := by
  refine ⟨lowI_valid hd e, ?_⟩
  obtain ⟨x', y', d', e1, e2, e3, t1, t2, t3, g1, hd'⟩ := low_parts re im den hd
  have hh : h = ⟨x', y', d'⟩ := by
    unfold lowI at e
    simp only [t1, t2, t3] at e
    split at e
    · exact (Option.some.inj e).symm
    · cases e
  subst hh
  generalize gcd3 re im den = g at *
  clear t1 t2 t3 g1 e
  constructor
  · show x' * den = re * d'
    rw [e1, e3]; grind
  · show y' * den = im * d'
    rw [e2, e3]; grind
theorem cancel {k a b : Int} (hk : 1 ≤ k) (h : k * a = k * b) : a = b := Int.eq_of_mul_eq_mul_left (by omega) h
/-- Equal values are equal fractions. -/
theorem rep_uniq {f g : Fr} {x y d : Int} (hf : Rep f x y d) (hg : Rep g x y d) : f = g := by
  have e : lowI f.re f.im f.den = lowI g.re g.im g.den := by
    have b1 := hf.bd
    have b2 := hg.bd
    rw [← lowI_scale g.den f.re f.im f.den b2.1 b1.1, ← lowI_scale f.den g.re g.im g.den b1.1 b2.1]
    have h1 := hf.re; have h2 := hf.im; have h3 := hg.re; have h4 := hg.im; have hd := hf.pos
    rw [show g.den * f.re = f.den * g.re from cancel hd (by clear h2 h4; grind), show g.den * f.im = f.den * g.im from cancel hd (by clear h1 h3; grind), Int.mul_comm g.den f.den]
  have self : ∀ a : Fr, fvalid a = true → lowI a.re a.im a.den = some a := by
    intro a ha
    have hg := fvalid_gcd a ha
    have hb := fvalid_bd a ha
    unfold lowI
    simp only [hg, Int.tdiv_one, Int.ediv_one]
    rw [if_pos]
    simp only [Bool.and_eq_true, inB_iff, Bool.not_eq_true', decide_eq_false_iff_not]
    exact ⟨⟨hb.1, hb.2.1⟩, by omega⟩
  rw [self f hf.ok, self g hg.ok] at e
  exact Option.some.inj e
end
section
open Go.RowKit
def zK : Fr := ⟨0, 0, 0⟩
theorem low_real {re den : Int} {h : Fr} (hd : 1 ≤ den) (e : lowI re 0 den = some h) : realOk h = true := by
  obtain ⟨hv, -, hi⟩ := lowI_val hd e
  rw [Int.zero_mul] at hi
  have : h.im = 0 := by
    rcases Int.mul_eq_zero.1 hi with h1 | h1
    · exact h1
    · omega
  simp [realOk, hv, this]
theorem real_parts {a : Fr} (h : realOk a = true) : fvalid a = true ∧ a.im = 0 ∧ 1 ≤ a.den := by
  simp only [realOk, Bool.and_eq_true, beq_iff_eq] at h
  exact ⟨h.1, h.2, (fvalid_bd a h.1).2.2.1⟩
theorem dens_pos {a b : Int} (ha : 1 ≤ a) (hb : 1 ≤ b) : 1 ≤ a * b := by
  have := Int.mul_le_mul ha hb (by omega) (by omega)
  omega
theorem times_real {a b h : Fr} (ha : realOk a = true) (hb : realOk b = true) (e : timesI a b = some h) : realOk h = true := by
  obtain ⟨va, ia, da⟩ := real_parts ha
  obtain ⟨vb, ib, db⟩ := real_parts hb
  rw [timesI, va, vb, ia, ib] at e
  simp only [Bool.and_self, if_true, Int.mul_zero, Int.zero_mul, Int.add_zero] at e
  exact low_real (dens_pos da db) e
theorem add_real {a b h : Fr} (ha : realOk a = true) (hb : realOk b = true) (e : addI a b = some h) : realOk h = true := by
  obtain ⟨va, ia, da⟩ := real_parts ha
  obtain ⟨vb, ib, db⟩ := real_parts hb
  rw [addI, va, vb, ia, ib] at e
  simp only [Bool.and_self, if_true, Int.zero_mul, Int.add_zero] at e
  exact low_real (dens_pos da db) e
theorem less_real {a b h : Fr} (ha : realOk a = true) (hb : realOk b = true) (e : lessI a b = some h) : realOk h = true := by
  obtain ⟨va, ia, da⟩ := real_parts ha
  obtain ⟨vb, ib, db⟩ := real_parts hb
  rw [lessI, va, vb, ia, ib] at e
  simp only [Bool.and_self, if_true, Int.zero_mul, Int.sub_zero] at e
  exact low_real (dens_pos da db) e
end
section
open Go.RowKit
theorem real_zero {f : Fr} (h : realOk f = true) : (f == ⟨0, 0, 1⟩) = (f.re == 0) := by
  obtain ⟨hv, hi, hd⟩ := real_parts h
  have hz := fvalid_zero f hv
  unfold isZero at hz
  rw [hi] at hz
  simp only [beq_self_eq_true, Bool.true_and, Bool.and_true] at hz
  obtain ⟨a, b, c⟩ := f
  simp only at hi hz ⊢
  subst hi
  cases ha : (a == 0)
  · have : ¬ a = 0 := by simpa using ha
    have h2 : ¬ ((⟨a, 0, c⟩ : Fr) = ⟨0, 0, 1⟩) := fun e => this (by injection e)
    simpa using h2
  · rw [ha, Bool.true_and] at hz
    have h1 : a = 0 := by simpa using ha
    have h2 : c = 1 := by simpa using hz
    subst h1 h2
    decide
end
section
open Go.RowKit
def vN (o : Option Fr) : Fr := o.getD zK
def realI (a : Fr) : Option Fr := if fvalid a then lowI a.re 0 a.den else none
def imagI (a : Fr) : Option Fr := if fvalid a then lowI a.im 0 a.den else none
end
section
open Go.RowKit
def qr (f : Fr) : Rat := (f.re : Rat) / (f.den : Rat)
def qi (f : Fr) : Rat := (f.im : Rat) / (f.den : Rat)
theorem q_cross {a b c d : Int} (hb : 1 ≤ b) (hd : 1 ≤ d) (h : a * d = c * b) : (a : Rat) / (b : Rat) = (c : Rat) / (d : Rat) := by
  rw [← Rat.divInt_eq_div, ← Rat.divInt_eq_div, Rat.divInt_eq_divInt_iff (by omega) (by omega)]
  exact h
theorem q_uncross {a b c d : Int} (hb : 1 ≤ b) (hd : 1 ≤ d) (h : (a : Rat) / (b : Rat) = (c : Rat) / (d : Rat)) : a * d = c * b := by
  rw [← Rat.divInt_eq_div, ← Rat.divInt_eq_div, Rat.divInt_eq_divInt_iff (by omega) (by omega)] at h
  exact h
theorem q_ne {b : Int} (hb : 1 ≤ b) : (b : Rat) ≠ 0 := by
  intro h
  have : b = 0 := by
    have h2 : ((b : Rat)).num = (0 : Rat).num := by rw [h]
    simpa using h2
  omega
theorem cq_low {re im den : Int} {h : Fr} (hd : 1 ≤ den) (e : lowI re im den = some h) : fvalid h = true ∧ qr h = (re : Rat) / (den : Rat) ∧ qi h = (im : Rat) / (den : Rat) := by
  obtain ⟨hv, h1, h2⟩ := lowI_val hd e
  have hb := (fvalid_bd h hv).2.2.1
  exact ⟨hv, q_cross hb hd h1, q_cross hb hd h2⟩
theorem cq_times {a b h : Fr} (e : timesI a b = some h) : fvalid h = true ∧ qr h = qr a * qr b - qi a * qi b ∧ qi h = qr a * qi b + qi a * qr b := by
  unfold timesI at e
  split at e
  · rename_i hv
    simp only [Bool.and_eq_true] at hv
    have da := (fvalid_bd a hv.1).2.2.1
    have db := (fvalid_bd b hv.2).2.2.1
    obtain ⟨v, h1, h2⟩ := cq_low (dens_pos da db) e
    have na := q_ne da
    have nb := q_ne db
    refine ⟨v, ?_, ?_⟩
    · rw [h1]; unfold qr qi
      simp only [Rat.intCast_mul, Rat.intCast_sub]
      clear h1 h2 e hv
      grind
    · rw [h2]; unfold qr qi
      simp only [Rat.intCast_mul, Rat.intCast_add]
      clear h1 h2 e hv
      grind
  · cases e
theorem cq_add {a b h : Fr} (e : addI a b = some h) : fvalid h = true ∧ qr h = qr a + qr b ∧ qi h = qi a + qi b := by
  unfold addI at e
  split at e
  · rename_i hv
    simp only [Bool.and_eq_true] at hv
    have da := (fvalid_bd a hv.1).2.2.1
    have db := (fvalid_bd b hv.2).2.2.1
    obtain ⟨v, h1, h2⟩ := cq_low (dens_pos da db) e
    have na := q_ne da
    have nb := q_ne db
    refine ⟨v, ?_, ?_⟩
    · rw [h1]; unfold qr
      simp only [Rat.intCast_mul, Rat.intCast_add]
      clear h1 h2 e hv
      grind
    · rw [h2]; unfold qi
      simp only [Rat.intCast_mul, Rat.intCast_add]
      clear h1 h2 e hv
      grind
  · cases e
theorem cq_less {a b h : Fr} (e : lessI a b = some h) : fvalid h = true ∧ qr h = qr a - qr b ∧ qi h = qi a - qi b := by
  unfold lessI at e
  split at e
  · rename_i hv
    simp only [Bool.and_eq_true] at hv
    have da := (fvalid_bd a hv.1).2.2.1
    have db := (fvalid_bd b hv.2).2.2.1
    obtain ⟨v, h1, h2⟩ := cq_low (dens_pos da db) e
    have na := q_ne da
    have nb := q_ne db
    refine ⟨v, ?_, ?_⟩
    · rw [h1]; unfold qr
      simp only [Rat.intCast_mul, Rat.intCast_sub]
      clear h1 h2 e hv
      grind
    · rw [h2]; unfold qi
      simp only [Rat.intCast_mul, Rat.intCast_sub]
      clear h1 h2 e hv
      grind
  · cases e
theorem q_div_neg (a b : Int) : ((-a : Int) : Rat) / (b : Rat) = -((a : Rat) / (b : Rat)) := by
  simp only [Rat.intCast_neg]
  grind
theorem cq_mirror {a h : Fr} (e : mirrorI a = some h) : qr h = qr a ∧ qi h = -qi a := by
  unfold mirrorI at e
  split at e
  · obtain rfl := Option.some.inj e
    exact ⟨rfl, q_div_neg _ _⟩
  · cases e
theorem cq_uniq {a b : Fr} (ha : fvalid a = true) (hb : fvalid b = true) (h1 : qr a = qr b) (h2 : qi a = qi b) : a = b := by
  have da := (fvalid_bd a ha).2.2.1
  have db := (fvalid_bd b hb).2.2.1
  have e1 := q_uncross da db h1
  have e2 := q_uncross da db h2
  exact rep_uniq (x := b.re) (y := b.im) (d := b.den) ⟨ha, db, e1, e2⟩ ⟨hb, db, rfl, rfl⟩
theorem qi_real {a : Fr} (h : realOk a = true) : qi a = 0 := by
  obtain ⟨-, hi, -⟩ := real_parts h
  unfold qi
  rw [hi]
  simp [Rat.div_def]
theorem q_uniq {a b : Fr} (ha : realOk a = true) (hb : realOk b = true) (h : qr a = qr b) : a = b :=
  cq_uniq (real_parts ha).1 (real_parts hb).1 h (by rw [qi_real ha, qi_real hb])
theorem q_times {a b h : Fr} (ha : realOk a = true) (hb : realOk b = true) (e : timesI a b = some h) : realOk h = true ∧ qr h = qr a * qr b := by
  refine ⟨times_real ha hb e, ?_⟩
  rw [(cq_times e).2.1, qi_real ha]
  grind
theorem q_add {a b h : Fr} (ha : realOk a = true) (hb : realOk b = true) (e : addI a b = some h) : realOk h = true ∧ qr h = qr a + qr b := ⟨add_real ha hb e, (cq_add e).2.1⟩
theorem q_less {a b h : Fr} (ha : realOk a = true) (hb : realOk b = true) (e : lessI a b = some h) : realOk h = true ∧ qr h = qr a - qr b := ⟨less_real ha hb e, (cq_less e).2.1⟩
theorem q_zero {a : Fr} (ha : realOk a = true) : qr a = 0 ↔ a.re = 0 := by
  obtain ⟨-, -, da⟩ := real_parts ha
  constructor
  · intro h
    have := q_uncross (a := a.re) (b := a.den) (c := 0) (d := 1) da (by omega) (by rw [show ((a.re : Rat) / (a.den : Rat)) = 0 from h]; simp [Rat.div_def])
    simpa using this
  · intro h
    unfold qr
    rw [h]
    simp [Rat.div_def]
theorem q_over {a b h : Fr} (ha : realOk a = true) (hb : realOk b = true) (e : overI a b = some h) : realOk h = true ∧ qr b ≠ 0 ∧ qr h * qr b = qr a := by
  obtain ⟨va, ia, da⟩ := real_parts ha
  obtain ⟨vb, ib, db⟩ := real_parts hb
  unfold overI at e
  rw [va, vb] at e
  cases hz : isZero b
  · rw [hz] at e
    simp only [Bool.not_false, Bool.and_self, if_true] at e
    have hn := norm_pos b hz
    have hre : b.re ≠ 0 := by
      intro h0
      simp [isZero, h0, ib] at hz
    cases ht : turnI b with
    | none => rw [ht] at e; cases e
    | some t =>
      rw [ht, Option.bind_some] at e
      unfold turnI at ht
      have hti : realOk t = true := by
        rw [ib, Int.mul_zero] at ht
        exact low_real (by rw [ib] at hn; simpa using hn) ht
      obtain ⟨-, t1, -⟩ := cq_low hn ht
      obtain ⟨h1, h2⟩ := q_times ha hti e
      have nb : qr b ≠ 0 := fun h0 => hre ((q_zero hb).1 h0)
      refine ⟨h1, nb, ?_⟩
      have nd := q_ne db
      have nr : (b.re : Rat) ≠ 0 := by
        intro h0
        have h2 : ((b.re : Rat)).num = (0 : Rat).num := by rw [h0]
        exact hre (by simpa using h2)
      have e3 : qr t * qr b = 1 := by
        rw [t1, ib]
        unfold qr
        simp only [Rat.intCast_mul, Rat.intCast_add, Int.mul_zero, Int.add_zero]
        clear t1 h1 h2 e ht hti
        grind
      rw [h2, Rat.mul_assoc, e3, Rat.mul_one]
  · rw [hz] at e
    cases e
end
end Go.Proofs.YtjbnkefeacineaaGreatDoor
