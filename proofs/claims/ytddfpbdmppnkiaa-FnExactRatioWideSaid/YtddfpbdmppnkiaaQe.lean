/-
  Distances both ways are the same; a distance to itself is zero; none is below zero.
-/
import Derived.Test.YtddfpbdmppnkiaaQb
namespace Go.Proofs.Ytddfpbdmppnkiaa
set_option linter.unusedSimpArgs false
set_option linter.unusedVariables false
open Ieee
/-- A rung below infinity stands for a number that but for its sign hangs on the rung alone. -/
theorem read_word (f : Format) {R : Nat} (h : R < f.infRung) : ∃ m p, ∀ u, f.read (f.word u R) = .number u m p := by
  by_cases hb : R < f.binade
  · refine ⟨R, f.leastPlace, fun u => ?_⟩
    obtain ⟨h1, h2⟩ := word_mod f u (Nat.lt_trans h f.infRung_lt)
    unfold Format.read
    simp only [h1, h2]
    rw [if_pos hb]
  · refine ⟨f.binade + R % f.binade, f.leastPlace + (R / f.binade - 1 : Nat), fun u => ?_⟩
    obtain ⟨h1, h2⟩ := word_mod f u (Nat.lt_trans h f.infRung_lt)
    unfold Format.read
    simp only [h1, h2]
    rw [if_neg hb, if_pos h]
theorem read_inf (f : Format) (hf : f.binade ≤ f.infRung) (u : Bool) : f.read (f.word u f.infRung) = .infinity u := by
  obtain ⟨h1, h2⟩ := word_mod f u f.infRung_lt
  unfold Format.read
  simp only [h1, h2]
  rw [if_neg (by omega), if_neg (Nat.lt_irrefl _)]
  simp
theorem single_inf : single.binade ≤ single.infRung := by decide +kernel
theorem double_inf : double.binade ≤ double.infRung := by decide +kernel
/-- The rung of what is rounded. -/
def rungOf (f : Format) (m : Nat) (p : Int) : Nat :=
  if m = 0 then 0 else
  let last := max (p + m.log2 - f.fractionBits) f.leastPlace
  min ((last - f.leastPlace).toNat * f.binade + Toward.even.cut false (m <<< (p - last).toNat) (last - p).toNat) f.infRung
theorem near_word (f : Format) (s : Bool) (m : Nat) (p : Int) : f.nearest s m p = f.word s (rungOf f m p) := by
  unfold Format.nearest rungOf
  split <;> rfl
theorem rung_le (f : Format) (m : Nat) (p : Int) : rungOf f m p ≤ f.infRung := by
  unfold rungOf
  split
  · omega
  · exact Nat.min_le_right _ _
/-- What is written of a number or an infinity is no NaN. -/
theorem order_word (f : Format) (hf : f.binade ≤ f.infRung) (u : Bool) {R : Nat} (h : R ≤ f.infRung) : f.order (f.word u R) (f.word u R) = some .eq := by
  rcases Nat.lt_or_eq_of_le h with h1 | rfl
  · obtain ⟨m, p, e⟩ := read_word f h1
    unfold Format.order Datum.order
    rw [e u]
    simp
  · unfold Format.order Datum.order
    rw [read_inf f hf u]
    simp
theorem write_word (f : Format) (d : Datum) (h : d.isNaN = false) : ∃ u R, R ≤ f.infRung ∧ f.write d = f.word u R := by
  cases d with
  | number s m p => exact ⟨s, _, rung_le f m p, near_word f s m p⟩
  | infinity s => exact ⟨s, _, Nat.le_refl _, rfl⟩
  | nan s t => cases h
/-- One over a number is no NaN, and stands to itself as it should. -/
theorem quo_one2 {x : Nat} {K : Int} (h : LoW double x K) : ∃ r, floatBits .quo .f64 4607182418800017408 x = some r ∧ double.order r r = some .eq := by
  obtain ⟨s, m, p, e, -⟩ := h
  have e1 : double.read 4607182418800017408 = .number false 4503599627370496 (-52) := by decide +kernel
  have hd : ∃ d : Datum, (Datum.number false 4503599627370496 (-52)).quotient (double.fractionBits + 2) (.number s m p) = some d ∧ d.isNaN = false := by
    unfold Datum.quotient
    simp only
    split <;> exact ⟨_, rfl, rfl⟩
  obtain ⟨d, hd1, hd2⟩ := hd
  obtain ⟨u, R, hR, hw⟩ := write_word double d hd2
  refine ⟨double.write d, ?_, by rw [hw]; exact order_word double double_inf u hR⟩
  show double.div 4607182418800017408 x = _
  unfold Format.div
  rw [e, e1, hd1]
  rfl
theorem sum_eq (s t : Bool) (m n : Nat) (i j b T : Int) (hb : min i j = b) (hT : signed s m (i - b).toNat + signed t n (j - b).toNat = T) :
    (Datum.number s m i).sum (.number t n j) = some (.number (if T = 0 then s && t else decide (T < 0)) T.natAbs b) := by
  subst hb hT
  rfl
/-- The difference both ways: the same rung. -/
theorem sub_word {x y : Nat} {K : Int} (hx : LoW single x K) (hy : LoW single y K) (h0 : 0 ≤ K) (hK : K ≤ 110) : ∃ R u v, R < single.infRung ∧ subS x y = single.word u R ∧ subS y x = single.word v R := by
  have hl := (sub_some hx hy h0 hK).2
  obtain ⟨s, m, i, e, -⟩ := hx
  obtain ⟨t, n, j, e', -⟩ := hy
  obtain ⟨b, hb⟩ : ∃ b, b = min i j := ⟨_, rfl⟩
  obtain ⟨T, hT⟩ : ∃ T : Int, T = signed s m (i - b).toNat + signed (!t) n (j - b).toNat := ⟨_, rfl⟩
  have hT2 : signed t n (j - b).toNat + signed (!s) m (i - b).toNat = -T := by
    rw [hT]
    unfold signed
    cases s <;> cases t <;> simp <;> omega
  have h1 : ∃ u, (Datum.number s m i).sum (.number (!t) n j) = some (.number u T.natAbs b) := ⟨_, sum_eq s (!t) m n i j b T hb.symm hT.symm⟩
  have h2 : ∃ u, (Datum.number t n j).sum (.number (!s) m i) = some (.number u T.natAbs b) := ⟨_, by
    have := sum_eq t (!s) n m j i b (-T) (by omega) hT2
    rw [Int.natAbs_neg] at this
    exact this⟩
  obtain ⟨u, h1⟩ := h1
  obtain ⟨v, h2⟩ := h2
  have e1 : subS x y = single.word u (rungOf single T.natAbs b) := by
    rw [← near_word]
    unfold subS
    rw [show floatBits .sub .f32 x y = single.sub x y from rfl]
    unfold Format.sub
    rw [e, e', opposite_number, h1]
    rfl
  have e2 : subS y x = single.word v (rungOf single T.natAbs b) := by
    rw [← near_word]
    unfold subS
    rw [show floatBits .sub .f32 y x = single.sub y x from rfl]
    unfold Format.sub
    rw [e, e', opposite_number, h2]
    rfl
  refine ⟨_, u, v, ?_, e1, e2⟩
  rcases Nat.lt_or_eq_of_le (rung_le single T.natAbs b) with h | h
  · exact h
  · exfalso
    rw [e1, h] at hl
    obtain ⟨_, _, _, e3, -⟩ := hl
    rw [read_inf single single_inf u] at e3
    cases e3
theorem sq_word {R : Nat} (h : R < single.infRung) (u v : Bool) : mulS (single.word u R) (single.word u R) = mulS (single.word v R) (single.word v R) := by
  obtain ⟨m, p, e⟩ := read_word single h
  unfold mulS
  rw [show floatBits .mul .f32 (single.word u R) (single.word u R) = single.mul (single.word u R) (single.word u R) from rfl, show floatBits .mul .f32 (single.word v R) (single.word v R) = single.mul (single.word v R) (single.word v R) from rfl]
  unfold Format.mul
  rw [e u, e v]
  unfold Datum.product
  simp
theorem sq_sub {x y : Nat} {K : Int} (hx : LoW single x K) (hy : LoW single y K) (h0 : 0 ≤ K) (hK : K ≤ 110) : mulS (subS x y) (subS x y) = mulS (subS y x) (subS y x) := by
  obtain ⟨R, u, v, hR, e1, e2⟩ := sub_word hx hy h0 hK
  rw [e1, e2]
  exact sq_word hR u v
theorem far_comm {a b : Fr} (ha : fvalid a = true) (hb : fvalid b = true) : farI b a = farI a b := by
  obtain ⟨a1, a2⟩ := partsS ha
  obtain ⟨b1, b2⟩ := partsS hb
  unfold farI farS
  rw [sq_sub b1 a1 (by omega) (by omega), sq_sub b2 a2 (by omega) (by omega)]
theorem sub_self0 {x : Nat} {K : Int} (hx : LoW single x K) : subS x x = 0 := by
  obtain ⟨s, m, i, e, -⟩ := hx
  unfold subS
  rw [show floatBits .sub .f32 x x = single.sub x x from rfl]
  unfold Format.sub
  rw [e, opposite_number]
  have h : (Datum.number s m i).sum (.number (!s) m i) = some (.number false 0 i) := by
    unfold Datum.sum
    have hT : signed s m (i - min i i).toNat + signed (!s) m (i - min i i).toNat = 0 := by
      unfold signed
      cases s <;> simp <;> omega
    simp only [hT]
    simp
  rw [h]
  simp only [Option.map_some, Option.getD_some, Format.write]
  rw [near_word]
  simp [rungOf, Format.word]
theorem far_self {a : Fr} (ha : fvalid a = true) : farI a a = 0 := by
  obtain ⟨a1, a2⟩ := partsS ha
  unfold farI farS
  rw [sub_self0 a1, sub_self0 a2]
  decide +kernel
/-- A square is not below zero. -/
theorem sq_pos {x : Nat} {K : Int} (hx : LoW single x K) (h0 : 0 ≤ K) (hK : K ≤ 50) : ∃ m p, single.read (mulS x x) = .number false m p := by
  obtain ⟨e, s, m, p, hr, -⟩ := mul_some hx hx h0 hK
  obtain ⟨t, n, q, e2, -⟩ := hx
  have e3 : mulS x x = single.nearest false (n * n) (q + q) := by
    unfold mulS
    rw [show floatBits .mul .f32 x x = single.mul x x from rfl]
    unfold Format.mul
    rw [e2]
    unfold Datum.product
    simp [Format.write]
  have hs : s = false := by
    rw [e3, near_word] at hr
    rcases Nat.lt_or_eq_of_le (rung_le single (n * n) (q + q)) with h | h
    · obtain ⟨m', p', e4⟩ := read_word single h
      rw [e4 false] at hr
      simp only [Datum.number.injEq] at hr
      exact hr.1.symm
    · rw [h, read_inf single single_inf] at hr
      cases hr
  exact ⟨m, p, hs ▸ hr⟩
theorem far_pos {a b : Fr} (ha : fvalid a = true) (hb : fvalid b = true) : (single.order (farI a b) 0 == some .gt || single.order (farI a b) 0 == some .eq) = true := by
  obtain ⟨a1, a2⟩ := partsS ha
  obtain ⟨b1, b2⟩ := partsS hb
  have hl := (far_all ha hb).lo
  obtain ⟨m, p, e1⟩ := sq_pos (sub_some a1 b1 (by omega) (by omega)).2 (by omega) (by omega)
  obtain ⟨n, q, e2⟩ := sq_pos (sub_some a2 b2 (by omega) (by omega)).2 (by omega) (by omega)
  obtain ⟨bs, hbs⟩ : ∃ b, b = min p q := ⟨_, rfl⟩
  have hsum : ∃ k, (Datum.number false m p).sum (.number false n q) = some (.number false k bs) := by
    refine ⟨(signed false m (p - bs).toNat + signed false n (q - bs).toNat).natAbs, ?_⟩
    unfold Datum.sum
    simp only [← hbs]
    have h3 : ¬ (signed false m (p - bs).toNat + signed false n (q - bs).toNat < 0) := by
      unfold signed
      simp only [Bool.false_eq_true, if_false]
      have h4 : (0 : Int) ≤ ((m <<< (p - bs).toNat : Nat) : Int) := Int.natCast_nonneg _
      have h5 : (0 : Int) ≤ ((n <<< (q - bs).toNat : Nat) : Int) := Int.natCast_nonneg _
      exact Int.not_lt.2 (Int.add_nonneg h4 h5)
    simp [h3]
  obtain ⟨k, hk⟩ := hsum
  have e3 : farI a b = single.word false (rungOf single k bs) := by
    rw [← near_word]
    unfold farI farS addS
    rw [show ∀ x y, floatBits .add .f32 x y = single.add x y from fun _ _ => rfl]
    unfold Format.add
    rw [e1, e2, hk]
    rfl
  change LoW single (farI a b) 74 at hl
  rw [e3] at hl ⊢
  rcases Nat.lt_or_eq_of_le (rung_le single k bs) with h | h
  · obtain ⟨m', p', e4⟩ := read_word single h
    have e0 : single.read 0 = .number false 0 (-149) := by decide +kernel
    unfold Format.order Datum.order
    rw [e4 false, e0]
    simp only [signed, Bool.false_eq_true, if_false, Nat.zero_shiftLeft]
    obtain ⟨N, hN⟩ : ∃ N : Nat, N = m' <<< (p' - min p' (-149)).toNat := ⟨_, rfl⟩
    rw [← hN]
    rcases Nat.eq_zero_or_pos N with rfl | hp
    · decide
    · have : compare ((N : Nat) : Int) ((0 : Nat) : Int) = .gt := by
        rw [Int.compare_eq_gt]
        omega
      rw [this]
      decide
  · rw [h] at hl
    obtain ⟨_, _, _, e5, -⟩ := hl
    rw [read_inf single single_inf] at e5
    cases e5
end Go.Proofs.Ytddfpbdmppnkiaa
