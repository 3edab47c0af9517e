/-
  Texts of this claim, joined: Rp; Va; Ka. Nothing is claimed here; the other texts of this claim use it.
-/
import Derived.Test.YtodhbkinbcemnaaGreatDoorPa
namespace Go.Proofs.YtodhbkinbcemnaaGreatDoor
set_option linter.unusedSimpArgs false
set_option linter.unusedVariables false
section
open Go.RowKit
/-- The fraction f stands for (x + yi)/d. -/
structure Rep (f : Fr) (x y d : Int) : Prop where
  ok : fvalid f = true
  pos : 1 ≤ d
  re : f.re * d = x * f.den
  im : f.im * d = y * f.den
theorem small_div {x g x' : Int} (h : x = g * x') (hg : 1 ≤ g) (h1 : -2000000000 ≤ x) (h2 : x ≤ 2000000000) : -2000000000 ≤ x' ∧ x' ≤ 2000000000 := by
  have e : x.natAbs = g.natAbs * x'.natAbs := by rw [h, Int.natAbs_mul]
  have : x'.natAbs ≤ g.natAbs * x'.natAbs := Nat.le_mul_of_pos_left _ (by omega)
  omega
theorem lowI_small (x y d : Int) (hd : 1 ≤ d) (hd2 : d ≤ 2000000000) (hx : -2000000000 ≤ x ∧ x ≤ 2000000000) (hy : -2000000000 ≤ y ∧ y ≤ 2000000000) : ∃ f, lowI x y d = some f ∧ Rep f x y d := by
  obtain ⟨x', y', d', e1, e2, e3, t1, t2, t3, g1, hd'⟩ := low_parts x y d hd
  have hg := gcd3_pos x y d hd
  have bx := small_div e1 hg hx.1 hx.2
  have by' := small_div e2 hg hy.1 hy.2
  have bd := small_div e3 hg (by omega) hd2
  have hs : lowI x y d = some ⟨x', y', d'⟩ := by
    unfold lowI
    simp only [t1, t2, t3]
    rw [if_pos]
    simp only [Bool.and_eq_true, inB_iff, Bool.not_eq_true', decide_eq_false_iff_not]
    exact ⟨⟨bx, by'⟩, by omega⟩
  refine ⟨_, hs, lowI_valid hd hs, hd, ?_, ?_⟩
  · show x' * d = x * d'
    generalize gcd3 x y d = g at *
    rw [e1, e3]
    rw [Int.mul_left_comm, Int.mul_assoc]
  · show y' * d = y * d'
    generalize gcd3 x y d = g at *
    rw [e2, e3]
    rw [Int.mul_left_comm, Int.mul_assoc]
theorem lowI_rep {re im den x y d : Int} (h1 : 1 ≤ den) (hd : 1 ≤ d) (hd2 : d ≤ 2000000000) (hx : -2000000000 ≤ x ∧ x ≤ 2000000000) (hy : -2000000000 ≤ y ∧ y ≤ 2000000000) (er : re * d = x * den) (ei : im * d = y * den) :
    ∃ f, lowI re im den = some f ∧ Rep f x y d := by
  have e1 : lowI re im den = lowI x y d := by
    rw [← lowI_scale d re im den hd h1, ← lowI_scale den x y d h1 hd, Int.mul_comm d re, er, Int.mul_comm d im, ei, Int.mul_comm x den, Int.mul_comm y den, Int.mul_comm d den]
  rw [e1]
  exact lowI_small x y d hd hd2 hx hy
theorem Rep.bd {f : Fr} {x y d : Int} (h : Rep f x y d) : 1 ≤ f.den ∧ f.den ≤ 2000000000 := (fvalid_bd f h.ok).2.2
theorem rep_times {f g : Fr} {x y d u v e : Int} (hf : Rep f x y d) (hg : Rep g u v e) (b1 : -2000000000 ≤ x * u - y * v ∧ x * u - y * v ≤ 2000000000) (b2 : -2000000000 ≤ x * v + y * u ∧ x * v + y * u ≤ 2000000000) (b3 : 1 ≤ d * e ∧ d * e ≤ 2000000000) :
    ∃ h, timesI f g = some h ∧ Rep h (x * u - y * v) (x * v + y * u) (d * e) := by
  have e0 : timesI f g = lowI (f.re * g.re - f.im * g.im) (f.re * g.im + f.im * g.re) (f.den * g.den) := by simp [timesI, hf.ok, hg.ok]
  rw [e0]
  have k := mulbd1 f.den g.den hf.bd.1 hf.bd.2 hg.bd.1 hg.bd.2
  have h1 := hf.re; have h2 := hf.im; have h3 := hg.re; have h4 := hg.im
  refine lowI_rep k.1 b3.1 b3.2 b1 b2 ?_ ?_
  · clear e0 k b1 b2 b3 hf hg; grind
  · clear e0 k b1 b2 b3 hf hg; grind
theorem rep_add {f g : Fr} {x y u v d : Int} (hf : Rep f x y d) (hg : Rep g u v d) (b1 : -2000000000 ≤ x + u ∧ x + u ≤ 2000000000) (b2 : -2000000000 ≤ y + v ∧ y + v ≤ 2000000000) (b3 : d ≤ 2000000000) :
    ∃ h, addI f g = some h ∧ Rep h (x + u) (y + v) d := by
  have e0 : addI f g = lowI (f.re * g.den + g.re * f.den) (f.im * g.den + g.im * f.den) (f.den * g.den) := by simp [addI, hf.ok, hg.ok]
  rw [e0]
  have k := mulbd1 f.den g.den hf.bd.1 hf.bd.2 hg.bd.1 hg.bd.2
  have h1 := hf.re; have h2 := hf.im; have h3 := hg.re; have h4 := hg.im
  refine lowI_rep k.1 hf.pos b3 b1 b2 ?_ ?_
  · clear e0 k b1 b2 b3 hf hg; grind
  · clear e0 k b1 b2 b3 hf hg; grind
/-- A number that is not great. -/
def few (x : Int) : Prop := -20000 ≤ x ∧ x ≤ 20000
theorem few_mul {x y : Int} (hx : few x) (hy : few y) : -400000000 ≤ x * y ∧ x * y ≤ 400000000 := by
  unfold few at hx hy
  have h : (x * y).natAbs ≤ 20000 * 20000 := by
    rw [Int.natAbs_mul]
    exact Nat.mul_le_mul (by omega) (by omega)
  omega
theorem few_pos {x y : Int} (hx : few x) (hy : few y) (h1 : 1 ≤ x) (h2 : 1 ≤ y) : 1 ≤ x * y ∧ x * y ≤ 400000000 := by
  have := few_mul hx hy
  have k := Int.mul_le_mul h1 h2 (by omega) (by omega)
  omega
theorem rep_inner {p q r s : Fr} {x1 y1 u1 v1 x2 y2 u2 v2 d e : Int} (hp : Rep p x1 y1 d) (hq : Rep q u1 v1 e) (hr : Rep r x2 y2 d) (hs : Rep s u2 v2 e)
    (a1 : few x1) (a2 : few y1) (a3 : few u1) (a4 : few v1) (a5 : few x2) (a6 : few y2) (a7 : few u2) (a8 : few v2) (a9 : few d) (a10 : few e) :
    ∃ h, innerI p q r s = some h ∧ Rep h ((x1 * u1 - y1 * v1) + (x2 * u2 - y2 * v2)) ((x1 * v1 + y1 * u1) + (x2 * v2 + y2 * u2)) (d * e) := by
  have m1 := few_mul a1 a3; have m2 := few_mul a2 a4; have m3 := few_mul a1 a4; have m4 := few_mul a2 a3
  have m5 := few_mul a5 a7; have m6 := few_mul a6 a8; have m7 := few_mul a5 a8; have m8 := few_mul a6 a7
  have m9 := few_pos a9 a10 hp.pos hq.pos
  obtain ⟨f, ef, hf⟩ := rep_times hp hq (by omega) (by omega) (by omega)
  obtain ⟨g, eg, hg⟩ := rep_times hr hs (by omega) (by omega) (by omega)
  obtain ⟨h, eh, hh⟩ := rep_add hf hg (by omega) (by omega) (by omega)
  exact ⟨h, by simp [innerI, ef, eg, eh], hh⟩
theorem gcd3_neg (a b c : Int) : gcd3 (-a) (-b) c = gcd3 a b c := by simp [gcd3, gcdI, absI]
theorem gcd3_neg2 (a b c : Int) : gcd3 a (-b) c = gcd3 a b c := by simp [gcd3, gcdI, absI]
theorem rep_neg {f : Fr} {x y d : Int} (h : Rep f x y d) : Rep ⟨-f.re, -f.im, f.den⟩ (-x) (-y) d := by
  refine ⟨?_, h.pos, ?_, ?_⟩
  · have b := fvalid_bd f h.ok
    have g := fvalid_gcd f h.ok
    simp only [fvalid, gcd3_neg, g, Bool.and_eq_true, inB_iff, beq_self_eq_true, and_true]
    omega
  · show -f.re * d = -x * f.den
    rw [Int.neg_mul, Int.neg_mul, h.re]
  · show -f.im * d = -y * f.den
    rw [Int.neg_mul, Int.neg_mul, h.im]
theorem rep_mirror {f : Fr} {x y d : Int} (h : Rep f x y d) : mirrorI f = some ⟨f.re, -f.im, f.den⟩ ∧ Rep ⟨f.re, -f.im, f.den⟩ x (-y) d := by
  refine ⟨by simp [mirrorI, h.ok], ?_, h.pos, h.re, ?_⟩
  · have b := fvalid_bd f h.ok
    have g := fvalid_gcd f h.ok
    simp only [fvalid, gcd3_neg2, g, Bool.and_eq_true, inB_iff, beq_self_eq_true, and_true]
    omega
  · show -f.im * d = -y * f.den
    rw [Int.neg_mul, Int.neg_mul, h.im]
end
section
open Go.RowKit
theorem lowI_val {re im den : Int} {h : Fr} (hd : 1 ≤ den) (e : lowI re im den = some h) : fvalid h = true ∧ h.re * den = re * h.den ∧ h.im * den = im * h.den := by
  refine ⟨lowI_valid hd e, ?_⟩
  obtain ⟨x', y', d', e1, e2, e3, t1, t2, t3, g1, hd'⟩ := low_parts re im den hd
  have hh : h = ⟨x', y', d'⟩ := by
    unfold lowI at e
    simp only [t1, t2, t3] at e
    split at e
    · exact (Option.some.inj e).symm
    · cases e
  subst hh
  generalize gcd3 re im den = g at *
  clear t1 t2 t3 g1 e
  constructor
  · show x' * den = re * d'
    rw [e1, e3]; grind
  · show y' * den = im * d'
    rw [e2, e3]; grind
theorem cancel {k a b : Int} (hk : 1 ≤ k) (h : k * a = k * b) : a = b := Int.eq_of_mul_eq_mul_left (by omega) h
/-- Equal values are equal fractions. -/
theorem rep_uniq {f g : Fr} {x y d : Int} (hf : Rep f x y d) (hg : Rep g x y d) : f = g := by
  have e : lowI f.re f.im f.den = lowI g.re g.im g.den := by
    have b1 := hf.bd
    have b2 := hg.bd
    rw [← lowI_scale g.den f.re f.im f.den b2.1 b1.1, ← lowI_scale f.den g.re g.im g.den b1.1 b2.1]
    have h1 := hf.re; have h2 := hf.im; have h3 := hg.re; have h4 := hg.im; have hd := hf.pos
    rw [show g.den * f.re = f.den * g.re from cancel hd (by clear h2 h4; grind), show g.den * f.im = f.den * g.im from cancel hd (by clear h1 h3; grind), Int.mul_comm g.den f.den]
  have self : ∀ a : Fr, fvalid a = true → lowI a.re a.im a.den = some a := by
    intro a ha
    have hg := fvalid_gcd a ha
    have hb := fvalid_bd a ha
    unfold lowI
    simp only [hg, Int.tdiv_one, Int.ediv_one]
    rw [if_pos]
    simp only [Bool.and_eq_true, inB_iff, Bool.not_eq_true', decide_eq_false_iff_not]
    exact ⟨⟨hb.1, hb.2.1⟩, by omega⟩
  rw [self f hf.ok, self g hg.ok] at e
  exact Option.some.inj e
end
section
open Go.RowKit
def zK : Fr := ⟨0, 0, 0⟩
def cutK (k : Nat) (r : List Fr) : List Fr := r.take k ++ r.drop (k + 1)
def minorK (k : Nat) (rows : List (List Fr)) : List (List Fr) := rows.tail.map (cutK k)
def entryK (rows : List (List Fr)) (k : Nat) : Fr := (rows.headD []).getD k zK
/-- One column more, the program's way: the value and whether something was none. -/
def stepI (D : List (List Fr) → Fr × Bool) (rows : List (List Fr)) (s : Fr × Bool) (k : Nat) : Fr × Bool :=
  let d := D (minorK k rows)
  let p := timesI (entryK rows k) d.1
  let b := (s.2 || d.2) || p.isNone
  if k = 0 then (p.getD zK, b)
  else if k % 2 = 1 then ((lessI s.1 (p.getD zK)).getD zK, b || (lessI s.1 (p.getD zK)).isNone)
  else ((addI s.1 (p.getD zK)).getD zK, b || (addI s.1 (p.getD zK)).isNone)
def detIK (D : List (List Fr) → Fr × Bool) (rows : List (List Fr)) : Nat → Fr × Bool
  | 0 => (zK, false)
  | k + 1 => stepI D rows (detIK D rows k) k
def detI : Nat → List (List Fr) → Fr × Bool
  | 0 => fun rows => (entryK rows 0, false)
  | n + 1 => fun rows => detIK (detI n) rows (n + 2)
/-- The reference's way. -/
def stepS (D : List (List Fr) → Fr × Bool) (rows : List (List Fr)) (s : Fr × Bool) (k : Nat) : Fr × Bool :=
  let d := D (minorK k rows)
  let p := timesI (entryK rows k) d.1
  let b := (s.2 || d.2) || p.isNone
  if k % 2 = 1 then ((lessI s.1 (p.getD zK)).getD zK, b || (lessI s.1 (p.getD zK)).isNone)
  else ((addI s.1 (p.getD zK)).getD zK, b || (addI s.1 (p.getD zK)).isNone)
def detSK (D : List (List Fr) → Fr × Bool) (rows : List (List Fr)) : Nat → Fr × Bool
  | 0 => (⟨0, 0, 1⟩, false)
  | k + 1 => stepS D rows (detSK D rows k) k
def detS : Nat → List (List Fr) → Fr × Bool
  | 0 => fun rows => (entryK rows 0, false)
  | n + 1 => fun rows => detSK (detS n) rows (n + 2)
/-- n + 1 rows of n + 1 real fractions each. -/
def Sq (n : Nat) (rows : List (List Fr)) : Prop := rows.length = n + 1 ∧ ∀ r ∈ rows, r.length = n + 1 ∧ ∀ f ∈ r, realOk f = true
theorem low_real {re den : Int} {h : Fr} (hd : 1 ≤ den) (e : lowI re 0 den = some h) : realOk h = true := by
  obtain ⟨hv, -, hi⟩ := lowI_val hd e
  rw [Int.zero_mul] at hi
  have : h.im = 0 := by
    rcases Int.mul_eq_zero.1 hi with h1 | h1
    · exact h1
    · omega
  simp [realOk, hv, this]
theorem real_parts {a : Fr} (h : realOk a = true) : fvalid a = true ∧ a.im = 0 ∧ 1 ≤ a.den := by
  simp only [realOk, Bool.and_eq_true, beq_iff_eq] at h
  exact ⟨h.1, h.2, (fvalid_bd a h.1).2.2.1⟩
theorem dens_pos {a b : Int} (ha : 1 ≤ a) (hb : 1 ≤ b) : 1 ≤ a * b := by
  have := Int.mul_le_mul ha hb (by omega) (by omega)
  omega
theorem times_real {a b h : Fr} (ha : realOk a = true) (hb : realOk b = true) (e : timesI a b = some h) : realOk h = true := by
  obtain ⟨va, ia, da⟩ := real_parts ha
  obtain ⟨vb, ib, db⟩ := real_parts hb
  rw [timesI, va, vb, ia, ib] at e
  simp only [Bool.and_self, if_true, Int.mul_zero, Int.zero_mul, Int.add_zero] at e
  exact low_real (dens_pos da db) e
theorem add_real {a b h : Fr} (ha : realOk a = true) (hb : realOk b = true) (e : addI a b = some h) : realOk h = true := by
  obtain ⟨va, ia, da⟩ := real_parts ha
  obtain ⟨vb, ib, db⟩ := real_parts hb
  rw [addI, va, vb, ia, ib] at e
  simp only [Bool.and_self, if_true, Int.zero_mul, Int.add_zero] at e
  exact low_real (dens_pos da db) e
theorem less_real {a b h : Fr} (ha : realOk a = true) (hb : realOk b = true) (e : lessI a b = some h) : realOk h = true := by
  obtain ⟨va, ia, da⟩ := real_parts ha
  obtain ⟨vb, ib, db⟩ := real_parts hb
  rw [lessI, va, vb, ia, ib] at e
  simp only [Bool.and_self, if_true, Int.zero_mul, Int.sub_zero] at e
  exact low_real (dens_pos da db) e
theorem add_zeroK {x : Fr} (h : fvalid x = true) : addI ⟨0, 0, 1⟩ x = some x := by
  have hg := fvalid_gcd x h
  have hb := fvalid_bd x h
  have e : lowI x.re x.im x.den = some x := by
    unfold lowI
    simp only [hg, Int.tdiv_one, Int.ediv_one]
    rw [if_pos]
    simp only [Bool.and_eq_true, inB_iff, Bool.not_eq_true', decide_eq_false_iff_not]
    exact ⟨⟨hb.1, hb.2.1⟩, by omega⟩
  rw [addI, h, show fvalid ⟨0, 0, 1⟩ = true by decide]
  simpa using e
theorem sq_minor {n k : Nat} {rows : List (List Fr)} (h : Sq (n + 1) rows) (hk : k < n + 2) : Sq n (minorK k rows) := by
  refine ⟨by rw [minorK, List.length_map, List.length_tail, h.1]; omega, fun r hr => ?_⟩
  obtain ⟨r0, hr0, rfl⟩ := List.mem_map.1 hr
  obtain ⟨hl, hf⟩ := h.2 r0 (List.mem_of_mem_tail hr0)
  refine ⟨by rw [cutK, List.length_append, List.length_take, List.length_drop, hl]; omega, fun f hm => ?_⟩
  rcases List.mem_append.1 hm with h1 | h1
  · exact hf f (List.mem_of_mem_take h1)
  · exact hf f (List.mem_of_mem_drop h1)
theorem entry_real {n k : Nat} {rows : List (List Fr)} (h : Sq n rows) (hk : k < n + 1) : realOk (entryK rows k) = true := by
  obtain ⟨hl, hr⟩ := h
  match rows, hl with
  | r :: rs, _ =>
    obtain ⟨h1, h2⟩ := hr r (by simp)
    have : entryK (r :: rs) k = r[k]'(by omega) := by simp [entryK, List.getD, List.getElem?_eq_getElem (show k < r.length by omega)]
    rw [this]
    exact h2 _ (List.getElem_mem _)
theorem det_eq : ∀ (n : Nat) (rows : List (List Fr)), Sq n rows → (detI n rows).2 = (detS n rows).2 ∧ ((detI n rows).2 = false → (detI n rows).1 = (detS n rows).1 ∧ realOk (detI n rows).1 = true)
  | 0, rows, h => ⟨rfl, fun _ => ⟨rfl, entry_real h (by omega)⟩⟩
  | n + 1, rows, h => by
    have key : ∀ k, k ≤ n + 2 → (detIK (detI n) rows k).2 = (detSK (detS n) rows k).2 ∧ ((detIK (detI n) rows k).2 = false → 0 < k → (detIK (detI n) rows k).1 = (detSK (detS n) rows k).1 ∧ realOk (detIK (detI n) rows k).1 = true) := by
      intro k
      induction k with
      | zero => exact fun _ => ⟨rfl, fun _ h => absurd h (by omega)⟩
      | succ k ih =>
        intro hk
        obtain ⟨h1, h2⟩ := ih (by omega)
        obtain ⟨d1, d2⟩ := det_eq n _ (sq_minor (k := k) h (by omega))
        have he := entry_real (k := k) h (by omega)
        simp only [detIK, detSK, stepI, stepS]
        rw [← h1, ← d1]
        cases hs : (detIK (detI n) rows k).2
        · cases hd : (detI n (minorK k rows)).2
          · obtain ⟨e1, r1⟩ := d2 hd
            rw [← e1]
            cases hp : timesI (entryK rows k) (detI n (minorK k rows)).1 with
            | none =>
              simp only [Option.isNone_none, Bool.or_true, Bool.true_or]
              refine ⟨?_, ?_⟩
              · split <;> split <;> rfl
              · intro hc
                split at hc
                · cases hc
                · split at hc <;> cases hc
            | some v =>
              have hv := times_real he r1 hp
              rcases Nat.eq_zero_or_pos k with rfl | hk0
              · have e0 : addI (detSK (detS n) rows 0).1 v = some v := add_zeroK (real_parts hv).1
                simp only [Option.getD_some, Nat.zero_mod, if_true, Option.isNone_some, Bool.or_false]
                rw [if_neg (by omega), e0]
                exact ⟨rfl, fun _ _ => ⟨rfl, hv⟩⟩
              · obtain ⟨e2, r2⟩ := h2 hs hk0
                rw [← e2, if_neg (by omega)]
                simp only [Option.getD_some, Option.isNone_some, Bool.or_false]
                split
                · refine ⟨trivial, fun hc _ => ⟨trivial, ?_⟩⟩
                  cases hx : lessI (detIK (detI n) rows k).1 v with
                  | none => rw [hx] at hc; cases hc
                  | some x => exact less_real r2 hv hx
                · refine ⟨trivial, fun hc _ => ⟨trivial, ?_⟩⟩
                  cases hx : addI (detIK (detI n) rows k).1 v with
                  | none => rw [hx] at hc; cases hc
                  | some x => exact add_real r2 hv hx
          · simp only [Bool.or_true, Bool.true_or]
            refine ⟨?_, ?_⟩
            · split <;> split <;> rfl
            · intro hc
              split at hc
              · cases hc
              · split at hc <;> cases hc
        · simp only [Bool.true_or]
          refine ⟨?_, ?_⟩
          · split <;> split <;> rfl
          · intro hc
            split at hc
            · cases hc
            · split at hc <;> cases hc
    obtain ⟨k1, k2⟩ := key (n + 2) (Nat.le_refl _)
    exact ⟨k1, fun hb => k2 hb (by omega)⟩
end
end Go.Proofs.YtodhbkinbcemnaaGreatDoor
