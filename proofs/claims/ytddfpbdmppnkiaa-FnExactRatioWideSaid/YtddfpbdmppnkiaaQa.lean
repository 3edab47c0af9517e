/-
  Floating point, bounded: what is rounded is near what it was; sums, products and quotients of bounded numbers are bounded.
-/
import Derived.WalkLawsBesides
namespace Go.Proofs.Ytddfpbdmppnkiaa
set_option linter.unusedSimpArgs false
set_option linter.unusedVariables false
open Ieee
/-- A number below 2 ^ (K + 1). -/
def LoM (m : Nat) (p K : Int) : Prop := m = 0 ∨ (m.log2 : Int) + p ≤ K
/-- A word that stands for a number below 2 ^ (K + 1). -/
def LoW (f : Format) (x : Nat) (K : Int) : Prop := ∃ s m p, f.read x = .number s m p ∧ LoM m p K
theorem LoM.mono {m : Nat} {p K K' : Int} (h : LoM m p K) (hk : K ≤ K') : LoM m p K' := h.imp id fun h => by omega
theorem LoW.mono {f : Format} {x : Nat} {K K' : Int} (h : LoW f x K) (hk : K ≤ K') : LoW f x K' := by
  obtain ⟨s, m, p, h1, h2⟩ := h
  exact ⟨s, m, p, h1, h2.mono hk⟩
theorem log_lt {m a : Nat} (h : m < 2 ^ (a + 1)) : m = 0 ∨ m.log2 ≤ a := by
  rcases Nat.eq_zero_or_pos m with h0 | h0
  · exact .inl h0
  · exact .inr (by have := (Nat.log2_lt (by omega)).2 h; omega)
theorem lt_log (m : Nat) : m < 2 ^ (m.log2 + 1) := Nat.lt_log2_self
theorem log_le {m : Nat} (h : m ≠ 0) : 2 ^ m.log2 ≤ m := Nat.log2_self_le h
theorem pow_le {a b : Nat} (h : a ≤ b) : 2 ^ a ≤ 2 ^ b := Nat.pow_le_pow_right (by omega) h
/-- What is kept of a number whose last digit kept stands at 'drop': at most two binades; if no digit of the format is idle, at least one. -/
theorem cut_hi (s : Bool) (m d e : Nat) (h : m < 2 ^ (d + e)) : Toward.even.cut s m d ≤ 2 ^ e := by
  unfold Toward.cut
  simp only
  have hg : 0 < 1 <<< min d (m.log2 + 2) := by rw [Nat.one_shiftLeft]; exact Nat.two_pow_pos _
  have hlow : m / 1 <<< min d (m.log2 + 2) < 2 ^ e := by
    rw [Nat.div_lt_iff_lt_mul hg, Nat.one_shiftLeft, ← Nat.pow_add]
    rcases Nat.le_total d (m.log2 + 2) with hd | hd
    · rw [Nat.min_eq_left hd, Nat.add_comm e d]; exact h
    · rw [Nat.min_eq_right hd]
      exact Nat.lt_of_lt_of_le (lt_log m) (pow_le (by omega))
  have hb : ∀ b : Bool, b.toNat ≤ 1 := fun b => by cases b <;> simp
  have := hb (decide (1 <<< min d (m.log2 + 2) < 2 * (m % 1 <<< min d (m.log2 + 2))) || 1 <<< min d (m.log2 + 2) == 2 * (m % 1 <<< min d (m.log2 + 2)) && m / 1 <<< min d (m.log2 + 2) % 2 == 1)
  omega
theorem cut_lo (s : Bool) (m d e : Nat) (h : 2 ^ (d + e) ≤ m) : 2 ^ e ≤ Toward.even.cut s m d := by
  unfold Toward.cut
  simp only
  have hm : m ≠ 0 := by have := Nat.two_pow_pos (d + e); omega
  have hd : d ≤ m.log2 + 2 := by
    have := (Nat.le_log2 hm).2 h
    omega
  have hg : 0 < 1 <<< d := by rw [Nat.one_shiftLeft]; exact Nat.two_pow_pos _
  have : 2 ^ e ≤ m / 1 <<< min d (m.log2 + 2) := by
    rw [Nat.min_eq_left hd, Nat.le_div_iff_mul_le hg, Nat.one_shiftLeft, ← Nat.pow_add, Nat.add_comm e d]
    exact h
  omega
/-- The rung of a number: between two bounds. -/
theorem near_rung (f : Format) (s : Bool) (m : Nat) (p K : Int) (hm : m ≠ 0) (hK : (m.log2 : Int) + p ≤ K) (hlp : f.leastPlace + f.fractionBits ≤ K) :
    ∃ r : Nat, f.nearest s m p = f.word s (min r f.infRung) ∧ (r : Int) ≤ (K - f.fractionBits - f.leastPlace + 2) * f.binade ∧
      ∀ k : Int, k ≤ (m.log2 : Int) + p → f.leastPlace + f.fractionBits ≤ k → (k - f.fractionBits - f.leastPlace + 1) * f.binade ≤ r := by
  unfold Format.nearest
  rw [if_neg hm]
  simp only
  obtain ⟨last, hlast⟩ : ∃ l, l = max (p + m.log2 - f.fractionBits) f.leastPlace := ⟨_, rfl⟩
  rw [← hlast]
  have h1 : f.leastPlace ≤ last := by omega
  have h2 : last ≤ K - f.fractionBits := by omega
  have hb : (f.binade : Int) = 2 ^ f.fractionBits := by simp [Format.binade]
  have hL := lt_log m
  have hl := log_le hm
  have hhi : Toward.even.cut s (m <<< (p - last).toNat) (last - p).toNat ≤ 2 ^ (f.fractionBits + 1) := by
    refine cut_hi s _ _ _ ?_
    rw [Nat.shiftLeft_eq]
    have : m * 2 ^ (p - last).toNat < 2 ^ (m.log2 + 1) * 2 ^ (p - last).toNat := Nat.mul_lt_mul_of_pos_right hL (Nat.two_pow_pos _)
    rw [← Nat.pow_add] at this
    exact Nat.lt_of_lt_of_le this (pow_le (by omega))
  refine ⟨_, rfl, ?_, fun k hk1 hk2 => ?_⟩
  · rw [Int.natCast_add, Int.natCast_mul, Int.toNat_of_nonneg (by omega)]
    have hhi2 : ((Toward.even.cut s (m <<< (p - last).toNat) (last - p).toNat : Nat) : Int) ≤ 2 * f.binade := by
      rw [hb]
      have : ((Toward.even.cut s (m <<< (p - last).toNat) (last - p).toNat : Nat) : Int) ≤ ((2 ^ (f.fractionBits + 1) : Nat) : Int) := Int.ofNat_le.2 hhi
      rw [Nat.pow_succ] at this
      push_cast at this
      omega
    have hmul : (last - f.leastPlace) * (f.binade : Int) ≤ (K - f.fractionBits - f.leastPlace) * f.binade := Int.mul_le_mul_of_nonneg_right (by omega) (by omega)
    rw [Int.add_mul]
    omega
  · have hlo : 2 ^ f.fractionBits ≤ Toward.even.cut s (m <<< (p - last).toNat) (last - p).toNat := by
      refine cut_lo s _ _ _ ?_
      rw [Nat.shiftLeft_eq]
      have : 2 ^ m.log2 * 2 ^ (p - last).toNat ≤ m * 2 ^ (p - last).toNat := Nat.mul_le_mul_right _ hl
      rw [← Nat.pow_add] at this
      exact Nat.le_trans (pow_le (by omega)) this
    rw [Int.natCast_add, Int.natCast_mul, Int.toNat_of_nonneg (by omega)]
    have hlo2 : (f.binade : Int) ≤ ((Toward.even.cut s (m <<< (p - last).toNat) (last - p).toNat : Nat) : Int) := by
      have : f.binade = 2 ^ f.fractionBits := rfl
      omega
    have hmul : (k - f.fractionBits - f.leastPlace) * (f.binade : Int) ≤ (last - f.leastPlace) * f.binade := Int.mul_le_mul_of_nonneg_right (by omega) (by omega)
    rw [Int.add_mul]
    omega
theorem word_mod (f : Format) (s : Bool) {r : Nat} (h : r < f.signWeight) : f.word s r % f.signWeight = r ∧ (f.word s r / f.signWeight % 2 == 1) = s := by
  have hp : 0 < f.signWeight := by omega
  cases s
  · simp only [Format.word, Bool.false_eq_true, if_false]
    exact ⟨Nat.mod_eq_of_lt h, by rw [Nat.div_eq_of_lt h]; rfl⟩
  · simp only [Format.word, if_true]
    refine ⟨by rw [Nat.add_mod_left, Nat.mod_eq_of_lt h], ?_⟩
    rw [Nat.add_div_left _ hp, Nat.div_eq_of_lt h]
    rfl
/-- A rung below infinity stands for a number; how great it is. -/
theorem read_rung (f : Format) (s : Bool) {r : Nat} (hr : r < f.infRung) : ∃ m p, f.read (f.word s r) = .number s m p ∧
    (∀ K : Int, f.leastPlace + f.fractionBits ≤ K → (r : Int) ≤ (K - f.fractionBits - f.leastPlace + 2) * f.binade → LoM m p (K + 1)) ∧
    ∀ k : Int, f.leastPlace + f.fractionBits ≤ k → (k - f.fractionBits - f.leastPlace + 1) * f.binade ≤ r → m ≠ 0 ∧ k ≤ (m.log2 : Int) + p := by
  obtain ⟨h1, h2⟩ := word_mod f s (Nat.lt_trans hr f.infRung_lt)
  have hbp : 0 < f.binade := Nat.two_pow_pos _
  unfold Format.read
  simp only [h1, h2]
  by_cases hb : r < f.binade
  · rw [if_pos hb]
    refine ⟨_, _, rfl, fun K hK _ => ?_, fun k hk hle => ?_⟩
    · rcases log_lt (m := r) (a := f.fractionBits) (by have : f.binade = 2 ^ f.fractionBits := rfl; have := pow_le (a := f.fractionBits) (b := f.fractionBits + 1) (by omega); omega) with h | h
      · exact .inl h
      · exact .inr (by omega)
    · exfalso
      have : (1 : Int) * f.binade ≤ (k - f.fractionBits - f.leastPlace + 1) * f.binade := Int.mul_le_mul_of_nonneg_right (by omega) (by omega)
      omega
  · rw [if_neg hb, if_pos hr]
    have hlog : (f.binade + r % f.binade).log2 = f.fractionBits := by
      have hm : r % f.binade < f.binade := Nat.mod_lt _ hbp
      have e : f.binade = 2 ^ f.fractionBits := rfl
      rw [Nat.log2_eq_iff (by omega)]
      rw [Nat.pow_succ]
      omega
    have hdm := Nat.div_add_mod r f.binade
    have hm : r % f.binade < f.binade := Nat.mod_lt _ hbp
    have hd1 : 1 ≤ r / f.binade := (Nat.le_div_iff_mul_le hbp).2 (by omega)
    refine ⟨_, _, rfl, fun K hK hle => .inr ?_, fun k hk hle => ⟨by omega, ?_⟩⟩
    · rw [hlog]
      have h3 : ((r / f.binade : Nat) : Int) ≤ K - f.fractionBits - f.leastPlace + 2 := by
        rcases Int.lt_or_le (K - f.fractionBits - f.leastPlace + 2) ((r / f.binade : Nat) : Int) with h | h
        · exfalso
          have h4 : (K - f.fractionBits - f.leastPlace + 2 + 1) * (f.binade : Int) ≤ ((r / f.binade : Nat) : Int) * f.binade := Int.mul_le_mul_of_nonneg_right (by omega) (by omega)
          rw [Int.add_mul, ← Int.natCast_mul, Nat.mul_comm (r / f.binade)] at h4
          omega
        · exact h
      omega
    · rw [hlog]
      have h3 : k - f.fractionBits - f.leastPlace + 1 ≤ ((r / f.binade : Nat) : Int) := by
        rcases Int.lt_or_le ((r / f.binade : Nat) : Int) (k - f.fractionBits - f.leastPlace + 1) with h | h
        · exfalso
          have h4 : (((r / f.binade : Nat) : Int) + 1) * (f.binade : Int) ≤ (k - f.fractionBits - f.leastPlace + 1) * f.binade := Int.mul_le_mul_of_nonneg_right (by omega) (by omega)
          rw [Int.add_mul, ← Int.natCast_mul, Nat.mul_comm (r / f.binade)] at h4
          omega
        · exact h
      omega
/-- What is rounded: a number, bounded as it was (but for one). -/
theorem near_lo (f : Format) (s : Bool) (m : Nat) (p K : Int) (h : LoM m p K) (hK : K - f.fractionBits - f.leastPlace + 3 ≤ 2 ^ f.exponentBits - 1) (hlp : f.leastPlace + f.fractionBits ≤ K) :
    ∃ m' p', f.read (f.nearest s m p) = .number s m' p' ∧ LoM m' p' (K + 1) ∧ ∀ k : Int, m ≠ 0 → k ≤ (m.log2 : Int) + p → f.leastPlace + f.fractionBits ≤ k → m' ≠ 0 ∧ k ≤ (m'.log2 : Int) + p' := by
  have hbp : 0 < f.binade := Nat.two_pow_pos _
  rcases Nat.eq_zero_or_pos m with rfl | h0
  · have h0 : 0 < f.signWeight := Nat.two_pow_pos _
    obtain ⟨h1, h2⟩ := word_mod f s h0
    refine ⟨0, f.leastPlace, ?_, .inl rfl, fun k h => absurd rfl h⟩
    unfold Format.nearest Format.read
    rw [if_pos rfl]
    simp only [h1, h2]
    rw [if_pos hbp]
  · have hm : m ≠ 0 := by omega
    have hl : (m.log2 : Int) + p ≤ K := h.resolve_left hm
    obtain ⟨r, hr, hhi, hlo⟩ := near_rung f s m p K hm hl hlp
    have hinf : r < f.infRung := by
      have h4 : (K - f.fractionBits - f.leastPlace + 2 + 1) * (f.binade : Int) ≤ (2 ^ f.exponentBits - 1) * f.binade := Int.mul_le_mul_of_nonneg_right (by omega) (by omega)
      rw [Int.add_mul] at h4
      have e : (f.infRung : Int) = (2 ^ f.exponentBits - 1) * f.binade := by
        unfold Format.infRung
        have : 1 ≤ 2 ^ f.exponentBits := Nat.two_pow_pos _
        push_cast [Int.natCast_sub this]
        rfl
      omega
    rw [hr, Nat.min_eq_left (by omega)]
    obtain ⟨m', p', h1, h2, h3⟩ := read_rung f s hinf
    exact ⟨m', p', h1, h2 K hlp hhi, fun k _ hk1 hk2 => h3 k hk2 (hlo k hk1 hk2)⟩
theorem single_bd : (single.leastPlace = -149 ∧ single.fractionBits = 23) ∧ (2 : Int) ^ single.exponentBits = 256 := by decide
theorem double_bd : (double.leastPlace = -1074 ∧ double.fractionBits = 52) ∧ (2 : Int) ^ double.exponentBits = 2048 := by decide
theorem near_f32 (s : Bool) (m : Nat) (p K : Int) (h : LoM m p K) (hK : K ≤ 120) (h0 : 0 ≤ K) : LoW single (single.nearest s m p) (K + 1) := by
  obtain ⟨⟨h1, h2⟩, h3⟩ := single_bd
  obtain ⟨m', p', e, hl, -⟩ := near_lo single s m p K h (by rw [h1, h2, h3]; omega) (by rw [h1, h2]; omega)
  exact ⟨s, m', p', e, hl⟩
theorem near_f64 (s : Bool) (m : Nat) (p K : Int) (h : LoM m p K) (hK : K ≤ 1000) (h0 : 0 ≤ K) : ∃ m' p', double.read (double.nearest s m p) = .number s m' p' ∧ LoM m' p' (K + 1) ∧ (m ≠ 0 → 0 ≤ (m.log2 : Int) + p → m' ≠ 0 ∧ 0 ≤ (m'.log2 : Int) + p') := by
  obtain ⟨⟨h1, h2⟩, h3⟩ := double_bd
  obtain ⟨m', p', e, hl, hh⟩ := near_lo double s m p K h (by rw [h1, h2, h3]; omega) (by rw [h1, h2]; omega)
  exact ⟨m', p', e, hl, fun hm hk => hh 0 hm hk (by rw [h1, h2]; omega)⟩
/-- Sums, products, quotients of bounded numbers. -/
theorem signed_lt (s : Bool) (m u e : Nat) (h : m <<< u < 2 ^ e) : (signed s m u).natAbs < 2 ^ e := by
  unfold signed
  cases s <;> simp only [if_true, if_false, Bool.false_eq_true, Int.natAbs_neg, Int.natAbs_natCast] <;> exact h
theorem shl_lt {m : Nat} {p K base : Int} (h : LoM m p K) (hb : base ≤ p) : m <<< (p - base).toNat < 2 ^ (K + 1 - base).toNat := by
  rcases h with rfl | h
  · simp [Nat.two_pow_pos]
  · rw [Nat.shiftLeft_eq]
    have : m * 2 ^ (p - base).toNat < 2 ^ (m.log2 + 1) * 2 ^ (p - base).toNat := Nat.mul_lt_mul_of_pos_right (lt_log m) (Nat.two_pow_pos _)
    rw [← Nat.pow_add] at this
    exact Nat.lt_of_lt_of_le this (pow_le (by omega))
theorem sum_lo {s t : Bool} {m n : Nat} {i j K : Int} (hm : LoM m i K) (hn : LoM n j K) : ∃ u k b, (Datum.number s m i).sum (.number t n j) = some (.number u k b) ∧ LoM k b (K + 1) := by
  refine ⟨_, _, _, rfl, ?_⟩
  obtain ⟨base, hb⟩ : ∃ b, b = min i j := ⟨_, rfl⟩
  rw [← hb]
  have h1 := signed_lt s _ _ _ (shl_lt (base := base) hm (by omega))
  have h2 := signed_lt t _ _ _ (shl_lt (base := base) hn (by omega))
  obtain ⟨a, ha⟩ : ∃ a, a = signed s m (i - base).toNat := ⟨_, rfl⟩
  obtain ⟨c, hc⟩ : ∃ c, c = signed t n (j - base).toNat := ⟨_, rfl⟩
  rw [← ha] at h1 ⊢
  rw [← hc] at h2 ⊢
  have h3 : (a + c).natAbs < 2 ^ ((K + 1 - base).toNat + 1) := by rw [Nat.pow_succ]; omega
  rcases log_lt h3 with h | h
  · exact .inl h
  · rcases Int.lt_or_le (K + 1) base with hk | hk
    · refine .inl ?_
      have e : (K + 1 - base).toNat = 0 := by omega
      rw [e] at h1 h2
      omega
    · exact .inr (by omega)
theorem product_lo {s t : Bool} {m n : Nat} {i j K L : Int} (hm : LoM m i K) (hn : LoM n j L) : ∃ k b, (Datum.number s m i).product (.number t n j) = some (.number (s ^^ t) k b) ∧ LoM k b (K + L + 1) := by
  refine ⟨_, _, rfl, ?_⟩
  rcases hm with rfl | hm
  · exact .inl (by simp)
  rcases hn with rfl | hn
  · exact .inl (by simp)
  have h : m * n < 2 ^ (m.log2 + n.log2 + 1 + 1) := by
    have h1 := Nat.mul_lt_mul'' (lt_log m) (lt_log n)
    rw [← Nat.pow_add] at h1
    exact Nat.lt_of_lt_of_le h1 (pow_le (by omega))
  rcases log_lt h with h | h
  · exact .inl h
  · exact .inr (by omega)
theorem quotient_lo {s t : Bool} {m n : Nat} {i j K : Int} (digits : Nat) (hd : 1 ≤ digits) (hm : LoM m i K) (hn : n ≠ 0) (hl : 0 ≤ (n.log2 : Int) + j) : ∃ k b, (Datum.number s m i).quotient digits (.number t n j) = some (.number (s ^^ t) k b) ∧ LoM k b K := by
  refine ⟨2 * (m <<< (digits + n.log2 - m.log2) / n) + (m <<< (digits + n.log2 - m.log2) % n != 0).toNat, _, by unfold Datum.quotient; simp only; rw [if_neg hn], ?_⟩
  rcases hm with rfl | hm
  · exact .inl (by simp)
  obtain ⟨more, hmore⟩ : ∃ x, x = digits + n.log2 - m.log2 := ⟨_, rfl⟩
  rw [← hmore]
  have hD : m <<< more / n < 2 ^ (m.log2 + 1 + more - n.log2) := by
    rw [Nat.div_lt_iff_lt_mul (by omega), Nat.shiftLeft_eq]
    have h1 : m * 2 ^ more < 2 ^ (m.log2 + 1) * 2 ^ more := Nat.mul_lt_mul_of_pos_right (lt_log m) (Nat.two_pow_pos _)
    have h2 : 2 ^ (m.log2 + 1 + more - n.log2) * 2 ^ n.log2 ≤ 2 ^ (m.log2 + 1 + more - n.log2) * n := Nat.mul_le_mul_left _ (log_le hn)
    rw [← Nat.pow_add] at h1 h2
    rw [show m.log2 + 1 + more - n.log2 + n.log2 = m.log2 + 1 + more by omega] at h2
    omega
  have hb : (m <<< more % n != 0).toNat ≤ 1 := by cases (m <<< more % n != 0) <;> simp
  have h : 2 * (m <<< more / n) + (m <<< more % n != 0).toNat < 2 ^ (m.log2 + 1 + more - n.log2 + 1) := by
    rw [Nat.pow_succ]
    omega
  rcases log_lt h with h | h
  · exact .inl h
  · exact .inr (by omega)
theorem opposite_number (s : Bool) (m : Nat) (p : Int) : (Datum.number s m p).opposite = .number (!s) m p := rfl
end Go.Proofs.Ytddfpbdmppnkiaa
