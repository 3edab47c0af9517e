/-
  Texts of this claim, joined: Tv; Td; Te; Tf. Nothing is claimed here; the other texts of this claim use it.
-/
import Derived.Test.YtodhbkinbcemnaaGreatDoorPe
import Derived.Test.YtodhbkinbcemnaaGreatDoorPj
import Derived.Test.YtodhbkinbcemnaaGreatDoorPq
namespace Go.Proofs.YtodhbkinbcemnaaGreatDoor
set_option linter.unusedSimpArgs false
set_option linter.unusedVariables false
section
open Go.RowKit
def qr (f : Fr) : Rat := (f.re : Rat) / (f.den : Rat)
def qi (f : Fr) : Rat := (f.im : Rat) / (f.den : Rat)
theorem q_cross {a b c d : Int} (hb : 1 ≤ b) (hd : 1 ≤ d) (h : a * d = c * b) : (a : Rat) / (b : Rat) = (c : Rat) / (d : Rat) := by
  rw [← Rat.divInt_eq_div, ← Rat.divInt_eq_div, Rat.divInt_eq_divInt_iff (by omega) (by omega)]
  exact h
theorem q_uncross {a b c d : Int} (hb : 1 ≤ b) (hd : 1 ≤ d) (h : (a : Rat) / (b : Rat) = (c : Rat) / (d : Rat)) : a * d = c * b := by
  rw [← Rat.divInt_eq_div, ← Rat.divInt_eq_div, Rat.divInt_eq_divInt_iff (by omega) (by omega)] at h
  exact h
theorem q_ne {b : Int} (hb : 1 ≤ b) : (b : Rat) ≠ 0 := by
  intro h
  have : b = 0 := by
    have h2 : ((b : Rat)).num = (0 : Rat).num := by rw [h]
    simpa using h2
  omega
theorem cq_low {re im den : Int} {h : Fr} (hd : 1 ≤ den) (e : lowI re im den = some h) : fvalid h = true ∧ qr h = (re : Rat) / (den : Rat) ∧ qi h = (im : Rat) / (den : Rat) := by
  obtain ⟨hv, h1, h2⟩ := lowI_val hd e
  have hb := (fvalid_bd h hv).2.2.1
  exact ⟨hv, q_cross hb hd h1, q_cross hb hd h2⟩
theorem cq_times {a b h : Fr} (e : timesI a b = some h) : fvalid h = true ∧ qr h = qr a * qr b - qi a * qi b ∧ qi h = qr a * qi b + qi a * qr b := by
  unfold timesI at e
  split at e
  · rename_i hv
    simp only [Bool.and_eq_true] at hv
    have da := (fvalid_bd a hv.1).2.2.1
    have db := (fvalid_bd b hv.2).2.2.1
    obtain ⟨v, h1, h2⟩ := cq_low (dens_pos da db) e
    have na := q_ne da
    have nb := q_ne db
    refine ⟨v, ?_, ?_⟩
    · rw [h1]; unfold qr qi
      simp only [Rat.intCast_mul, Rat.intCast_sub]
      clear h1 h2 e hv
      grind
    · rw [h2]; unfold qr qi
      simp only [Rat.intCast_mul, Rat.intCast_add]
      clear h1 h2 e hv
      grind
  · cases e
theorem cq_add {a b h : Fr} (e : addI a b = some h) : fvalid h = true ∧ qr h = qr a + qr b ∧ qi h = qi a + qi b := by
  unfold addI at e
  split at e
  · rename_i hv
    simp only [Bool.and_eq_true] at hv
    have da := (fvalid_bd a hv.1).2.2.1
    have db := (fvalid_bd b hv.2).2.2.1
    obtain ⟨v, h1, h2⟩ := cq_low (dens_pos da db) e
    have na := q_ne da
    have nb := q_ne db
    refine ⟨v, ?_, ?_⟩
    · rw [h1]; unfold qr
      simp only [Rat.intCast_mul, Rat.intCast_add]
      clear h1 h2 e hv
      grind
    · rw [h2]; unfold qi
      simp only [Rat.intCast_mul, Rat.intCast_add]
      clear h1 h2 e hv
      grind
  · cases e
theorem cq_less {a b h : Fr} (e : lessI a b = some h) : fvalid h = true ∧ qr h = qr a - qr b ∧ qi h = qi a - qi b := by
  unfold lessI at e
  split at e
  · rename_i hv
    simp only [Bool.and_eq_true] at hv
    have da := (fvalid_bd a hv.1).2.2.1
    have db := (fvalid_bd b hv.2).2.2.1
    obtain ⟨v, h1, h2⟩ := cq_low (dens_pos da db) e
    have na := q_ne da
    have nb := q_ne db
    refine ⟨v, ?_, ?_⟩
    · rw [h1]; unfold qr
      simp only [Rat.intCast_mul, Rat.intCast_sub]
      clear h1 h2 e hv
      grind
    · rw [h2]; unfold qi
      simp only [Rat.intCast_mul, Rat.intCast_sub]
      clear h1 h2 e hv
      grind
  · cases e
theorem q_div_neg (a b : Int) : ((-a : Int) : Rat) / (b : Rat) = -((a : Rat) / (b : Rat)) := by
  simp only [Rat.intCast_neg]
  grind
theorem cq_mirror {a h : Fr} (e : mirrorI a = some h) : qr h = qr a ∧ qi h = -qi a := by
  unfold mirrorI at e
  split at e
  · obtain rfl := Option.some.inj e
    exact ⟨rfl, q_div_neg _ _⟩
  · cases e
theorem cq_uniq {a b : Fr} (ha : fvalid a = true) (hb : fvalid b = true) (h1 : qr a = qr b) (h2 : qi a = qi b) : a = b := by
  have da := (fvalid_bd a ha).2.2.1
  have db := (fvalid_bd b hb).2.2.1
  have e1 := q_uncross da db h1
  have e2 := q_uncross da db h2
  exact rep_uniq (x := b.re) (y := b.im) (d := b.den) ⟨ha, db, e1, e2⟩ ⟨hb, db, rfl, rfl⟩
theorem qi_real {a : Fr} (h : realOk a = true) : qi a = 0 := by
  obtain ⟨-, hi, -⟩ := real_parts h
  unfold qi
  rw [hi]
  simp [Rat.div_def]
theorem q_uniq {a b : Fr} (ha : realOk a = true) (hb : realOk b = true) (h : qr a = qr b) : a = b :=
  cq_uniq (real_parts ha).1 (real_parts hb).1 h (by rw [qi_real ha, qi_real hb])
theorem q_times {a b h : Fr} (ha : realOk a = true) (hb : realOk b = true) (e : timesI a b = some h) : realOk h = true ∧ qr h = qr a * qr b := by
  refine ⟨times_real ha hb e, ?_⟩
  rw [(cq_times e).2.1, qi_real ha]
  grind
theorem q_add {a b h : Fr} (ha : realOk a = true) (hb : realOk b = true) (e : addI a b = some h) : realOk h = true ∧ qr h = qr a + qr b := ⟨add_real ha hb e, (cq_add e).2.1⟩
theorem q_less {a b h : Fr} (ha : realOk a = true) (hb : realOk b = true) (e : lessI a b = some h) : realOk h = true ∧ qr h = qr a - qr b := ⟨less_real ha hb e, (cq_less e).2.1⟩
theorem q_zero {a : Fr} (ha : realOk a = true) : qr a = 0 ↔ a.re = 0 := by
  obtain ⟨-, -, da⟩ := real_parts ha
  constructor
  · intro h
    have := q_uncross (a := a.re) (b := a.den) (c := 0) (d := 1) da (by omega) (by rw [show ((a.re : Rat) / (a.den : Rat)) = 0 from h]; simp [Rat.div_def])
    simpa using this
  · intro h
    unfold qr
    rw [h]
    simp [Rat.div_def]
theorem q_over {a b h : Fr} (ha : realOk a = true) (hb : realOk b = true) (e : overI a b = some h) : realOk h = true ∧ qr b ≠ 0 ∧ qr h * qr b = qr a := by
  obtain ⟨va, ia, da⟩ := real_parts ha
  obtain ⟨vb, ib, db⟩ := real_parts hb
  unfold overI at e
  rw [va, vb] at e
  cases hz : isZero b
  · rw [hz] at e
    simp only [Bool.not_false, Bool.and_self, if_true] at e
    have hn := norm_pos b hz
    have hre : b.re ≠ 0 := by
      intro h0
      simp [isZero, h0, ib] at hz
    cases ht : turnI b with
    | none => rw [ht] at e; cases e
    | some t =>
      rw [ht, Option.bind_some] at e
      unfold turnI at ht
      have hti : realOk t = true := by
        rw [ib, Int.mul_zero] at ht
        exact low_real (by rw [ib] at hn; simpa using hn) ht
      obtain ⟨-, t1, -⟩ := cq_low hn ht
      obtain ⟨h1, h2⟩ := q_times ha hti e
      have nb : qr b ≠ 0 := fun h0 => hre ((q_zero hb).1 h0)
      refine ⟨h1, nb, ?_⟩
      have nd := q_ne db
      have nr : (b.re : Rat) ≠ 0 := by
        intro h0
        have h2 : ((b.re : Rat)).num = (0 : Rat).num := by rw [h0]
        exact hre (by simpa using h2)
      have e3 : qr t * qr b = 1 := by
        rw [t1, ib]
        unfold qr
        simp only [Rat.intCast_mul, Rat.intCast_add, Int.mul_zero, Int.add_zero]
        clear t1 h1 h2 e ht hti
        grind
      rw [h2, Rat.mul_assoc, e3, Rat.mul_one]
  · rw [hz] at e
    cases e
end
section
open Go.RowKit
def eQ (rows : List (List Rat)) (k : Nat) : Rat := (rows.headD []).getD k 0
def cutQ (k : Nat) (r : List Rat) : List Rat := r.take k ++ r.drop (k + 1)
def minorQ (k : Nat) (rows : List (List Rat)) : List (List Rat) := rows.tail.map (cutQ k)
def detQK (D : List (List Rat) → Rat) (rows : List (List Rat)) : Nat → Rat
  | 0 => 0
  | k + 1 => if k = 0 then eQ rows k * D (minorQ k rows) else if k % 2 = 1 then detQK D rows k - eQ rows k * D (minorQ k rows) else detQK D rows k + eQ rows k * D (minorQ k rows)
def detQ : Nat → List (List Rat) → Rat
  | 0 => fun rows => eQ rows 0
  | n + 1 => fun rows => detQK (detQ n) rows (n + 2)
def mq (rows : List (List Fr)) : List (List Rat) := rows.map (·.map qr)
theorem mq_minor (k : Nat) (rows : List (List Fr)) : minorQ k (mq rows) = mq (minorK k rows) := by
  unfold minorQ mq minorK
  rw [← List.map_tail, List.map_map, List.map_map]
  apply List.map_congr_left
  intro r _
  simp [cutQ, cutK]
theorem mq_entry {n k : Nat} {rows : List (List Fr)} (h : Sq n rows) (hk : k < n + 1) : eQ (mq rows) k = qr (entryK rows k) := by
  obtain ⟨hl, hr⟩ := h
  match rows, hl with
  | r :: rs, _ =>
    obtain ⟨h1, -⟩ := hr r (by simp)
    simp [eQ, mq, entryK, List.getElem?_eq_getElem (show k < r.length by omega)]
theorem det_q : ∀ (n : Nat) (rows : List (List Fr)), Sq n rows → (detI n rows).2 = false → qr (detI n rows).1 = detQ n (mq rows)
  | 0, rows, h, _ => (mq_entry h (by omega)).symm
  | n + 1, rows, h, hf => by
    have key : ∀ k, k ≤ n + 2 → (detIK (detI n) rows k).2 = false → 0 < k → qr (detIK (detI n) rows k).1 = detQK (detQ n) (mq rows) k ∧ realOk (detIK (detI n) rows k).1 = true := by
      intro k
      induction k with
      | zero => exact fun _ _ h => absurd h (by omega)
      | succ k ih =>
        intro hk hb _
        have hs := sq_minor (k := k) h (by omega)
        have he := entry_real (k := k) h (by omega)
        have hq := mq_entry (k := k) h (by omega)
        have hm := mq_minor k rows
        simp only [detIK, stepI] at hb ⊢
        cases hd : (detI n (minorK k rows)).2
        · have dq := det_q n _ hs hd
          have dr := ((det_eq n _ hs).2 hd).2
          cases hp : timesI (entryK rows k) (detI n (minorK k rows)).1 with
          | none => rw [hp] at hb; split at hb <;> (try split at hb) <;> simp at hb
          | some p =>
            obtain ⟨pr, pq⟩ := q_times he dr hp
            simp only [detQK, hm, hq]
            rw [hp, hd] at hb
            simp only [Option.getD_some, Option.isNone_some, Bool.or_false] at hb ⊢
            by_cases h0 : k = 0
            · simp only [h0, if_true] at hb ⊢
              subst h0
              exact ⟨by rw [pq, dq], pr⟩
            · simp only [if_neg h0] at hb ⊢
              by_cases h1 : k % 2 = 1
              · simp only [if_pos h1] at hb ⊢
                simp only [Bool.or_eq_false_iff] at hb
                obtain ⟨i1, i2⟩ := ih (by omega) hb.1 (by omega)
                cases hx : lessI (detIK (detI n) rows k).1 p with
                | none => rw [hx] at hb; simp at hb
                | some x =>
                  obtain ⟨x1, x2⟩ := q_less i2 pr hx
                  exact ⟨by rw [Option.getD_some, x2, i1, pq, dq], x1⟩
              · simp only [if_neg h1] at hb ⊢
                simp only [Bool.or_eq_false_iff] at hb
                obtain ⟨i1, i2⟩ := ih (by omega) hb.1 (by omega)
                cases hx : addI (detIK (detI n) rows k).1 p with
                | none => rw [hx] at hb; simp at hb
                | some x =>
                  obtain ⟨x1, x2⟩ := q_add i2 pr hx
                  exact ⟨by rw [Option.getD_some, x2, i1, pq, dq], x1⟩
        · rw [hd] at hb
          split at hb <;> (try split at hb) <;> simp at hb
    exact (key (n + 2) (Nat.le_refl _) hf (by omega)).1
/-- The determinant of four rows, written out. -/
def d4 (a b c d e f g h i j k l m n o p : Rat) : Rat := detQ 3 [[a, b, c, d], [e, f, g, h], [i, j, k, l], [m, n, o, p]]
theorem d4_eq (a b c d e f g h i j k l m n o p : Rat) : d4 a b c d e f g h i j k l m n o p =
    a * (f * (k * p - l * o) - g * (j * p - l * n) + h * (j * o - k * n)) - b * (e * (k * p - l * o) - g * (i * p - l * m) + h * (i * o - k * m)) +
    c * (e * (j * p - l * n) - f * (i * p - l * m) + h * (i * n - j * m)) - d * (e * (j * o - k * n) - f * (i * o - k * m) + g * (i * n - j * m)) := rfl
end
section
theorem d4_row0 (a b c d e f g h i j k l m n o p : Rat) (u v w x : Rat) : a * d4 u b c d v f g h w j k l x n o p + b * d4 a u c d e v g h i w k l m x o p + c * d4 a b u d e f v h i j w l m n x p + d * d4 a b c u e f g v i j k w m n o x = u * d4 a b c d e f g h i j k l m n o p := by
  simp only [d4_eq]
  grind
theorem d4_row1 (a b c d e f g h i j k l m n o p : Rat) (u v w x : Rat) : e * d4 u b c d v f g h w j k l x n o p + f * d4 a u c d e v g h i w k l m x o p + g * d4 a b u d e f v h i j w l m n x p + h * d4 a b c u e f g v i j k w m n o x = v * d4 a b c d e f g h i j k l m n o p := by
  simp only [d4_eq]
  grind
theorem d4_row2 (a b c d e f g h i j k l m n o p : Rat) (u v w x : Rat) : i * d4 u b c d v f g h w j k l x n o p + j * d4 a u c d e v g h i w k l m x o p + k * d4 a b u d e f v h i j w l m n x p + l * d4 a b c u e f g v i j k w m n o x = w * d4 a b c d e f g h i j k l m n o p := by
  simp only [d4_eq]
  grind
theorem d4_row3 (a b c d e f g h i j k l m n o p : Rat) (u v w x : Rat) : m * d4 u b c d v f g h w j k l x n o p + n * d4 a u c d e v g h i w k l m x o p + o * d4 a b u d e f v h i j w l m n x p + p * d4 a b c u e f g v i j k w m n o x = x * d4 a b c d e f g h i j k l m n o p := by
  simp only [d4_eq]
  grind
theorem d4_col0 (a b c d e f g h i j k l m n o p : Rat) (s1 s2 s3 s4 : Rat) : d4 (a * s1 + b * s2 + c * s3 + d * s4) b c d (e * s1 + f * s2 + g * s3 + h * s4) f g h (i * s1 + j * s2 + k * s3 + l * s4) j k l (m * s1 + n * s2 + o * s3 + p * s4) n o p = s1 * d4 a b c d e f g h i j k l m n o p := by
  simp only [d4_eq]
  grind
theorem d4_col1 (a b c d e f g h i j k l m n o p : Rat) (s1 s2 s3 s4 : Rat) : d4 a (a * s1 + b * s2 + c * s3 + d * s4) c d e (e * s1 + f * s2 + g * s3 + h * s4) g h i (i * s1 + j * s2 + k * s3 + l * s4) k l m (m * s1 + n * s2 + o * s3 + p * s4) o p = s2 * d4 a b c d e f g h i j k l m n o p := by
  simp only [d4_eq]
  grind
theorem d4_col2 (a b c d e f g h i j k l m n o p : Rat) (s1 s2 s3 s4 : Rat) : d4 a b (a * s1 + b * s2 + c * s3 + d * s4) d e f (e * s1 + f * s2 + g * s3 + h * s4) h i j (i * s1 + j * s2 + k * s3 + l * s4) l m n (m * s1 + n * s2 + o * s3 + p * s4) p = s3 * d4 a b c d e f g h i j k l m n o p := by
  simp only [d4_eq]
  grind
theorem d4_col3 (a b c d e f g h i j k l m n o p : Rat) (s1 s2 s3 s4 : Rat) : d4 a b c (a * s1 + b * s2 + c * s3 + d * s4) e f g (e * s1 + f * s2 + g * s3 + h * s4) i j k (i * s1 + j * s2 + k * s3 + l * s4) m n o (m * s1 + n * s2 + o * s3 + p * s4) = s4 * d4 a b c d e f g h i j k l m n o p := by
  simp only [d4_eq]
  grind
end
section
open Go.RowKit
theorem rep_q {f : Fr} {x y d : Int} (h : Rep f x y d) : qr f = (x : Rat) / (d : Rat) ∧ qi f = (y : Rat) / (d : Rat) :=
  ⟨q_cross h.bd.1 h.pos h.re, q_cross h.bd.1 h.pos h.im⟩
theorem plate_q {p q : Int} {m : Mt} (h : plateI p q 1 = some m) : ∃ c s : Rat, c * c + s * s = 1 ∧ qr m.a = c * c ∧ qi m.a = s * s ∧ qr m.b = c * s ∧ qi m.b = -(c * s) ∧ mvalid m = true := by
  unfold plateI at h
  split at h
  · rename_i hd
    simp only [Bool.and_eq_true] at hd
    obtain ⟨hd, hk⟩ := hd
    have b := dir_bd p q hd
    have fc := few_of b.2.1.1 b.2.1.2
    have fs := few_of b.2.2.1.1 b.2.2.1.2
    have fn := few_of (show -20000 ≤ p * p + q * q by omega) b.1.2
    have f0 := few_zero
    obtain ⟨a, ea, ha⟩ := repM_rd hd hk
    obtain ⟨r, er, ra, rb, rc, rd⟩ := repM_times ha (repM_adj hd) (f4_few fc (few_ph hk (few_neg fs)).1 fs (few_ph hk fc).1) (f4_few f0 (few_ph hk (few_neg fs)).2 f0 (few_ph hk fc).2) (f4_few fc fs (few_neg fs) fc) (f4_few (few_neg f0) (few_neg f0) (few_neg (few_neg f0)) (few_neg f0)) fn fn
    rw [ea, Option.bind_some, er] at h
    obtain rfl := Option.some.inj h
    have hn : 1 ≤ p * p + q * q := b.1.1
    have nn := q_ne hn
    obtain ⟨n, hnq⟩ : ∃ n : Rat, n = ((p * p + q * q : Int) : Rat) := ⟨_, rfl⟩
    rw [← hnq] at nn
    have q1 := rep_q ra
    have q2 := rep_q rb
    simp only [f4, phR, phJ, Rat.intCast_mul, Rat.intCast_add, Rat.intCast_sub, Rat.intCast_neg, Fin.isValue] at q1 q2
    simp only [Rat.intCast_mul, Rat.intCast_add] at hnq
    refine ⟨((p : Rat) * p - q * q) / n, (2 * (p : Rat) * q) / n, ?_, ?_, ?_, ?_, ?_, ?_⟩
    · grind
    · rw [q1.1, ← hnq]; simp; grind
    · rw [q1.2, ← hnq]; simp; grind
    · rw [q2.1, ← hnq]; simp; grind
    · rw [q2.2, ← hnq]; simp; grind
    · simp [mvalid, ra.ok, rb.ok, rc.ok, rd.ok]
  · cases h
/-- The sum of n products of rational numbers. -/
def dotQ (r c : Nat → Rat) : Nat → Rat
  | 0 => 0
  | k + 1 => dotQ r c k + r k * c k
theorem dot_q {r c : Nat → Fr} : ∀ n, (∀ k, k < n → realOk (r k) = true) → (∀ k, k < n → realOk (c k) = true) → (dotI r c n).2 = false → 0 < n → qr (dotI r c n).1 = dotQ (fun k => qr (r k)) (fun k => qr (c k)) n ∧ realOk (dotI r c n).1 = true
  | 0, _, _, _, h => absurd h (by omega)
  | k + 1, hr, hc, hf, _ => by
    have r1 := hr k (by omega)
    have r2 := hc k (by omega)
    unfold dotI at hf ⊢
    simp only [] at hf ⊢
    cases hp : timesI (r k) (c k) with
    | none => rw [hp] at hf; by_cases h0 : k = 0 <;> simp [h0] at hf
    | some x =>
      obtain ⟨rx, qx⟩ := q_times r1 r2 hp
      rw [hp] at hf
      simp only [vN, Option.getD_some, Option.isNone_some, Bool.or_false] at hf ⊢
      by_cases h0 : k = 0
      · subst h0
        simp only [if_true]
        exact ⟨by rw [qx]; simp only [dotQ]; exact (Rat.zero_add _).symm, rx⟩
      · rw [if_neg h0] at hf ⊢
        simp only [Bool.or_eq_false_iff] at hf
        obtain ⟨i1, i2⟩ := dot_q k (fun i hi => hr i (by omega)) (fun i hi => hc i (by omega)) hf.1 (by omega)
        cases ha : addI (dotI r c k).1 x with
        | none => rw [ha] at hf; simp at hf
        | some y =>
          obtain ⟨ry, qy⟩ := q_add i2 rx ha
          exact ⟨by rw [Option.getD_some, qy, i1, qx]; rfl, ry⟩
theorem cq_pair {a b : Fr} (h : pairN a b = false) : qr (pairV a b) = qr a * qr b + qi a * qi b ∧ qi (pairV a b) = qi a * qr b - qr a * qi b := by
  unfold pairN at h
  unfold pairV
  simp only [Bool.or_eq_false_iff] at h
  cases hm : mirrorI b with
  | none => rw [hm] at h; simp at h
  | some b' =>
    rw [hm] at h
    cases ht : timesI a b' with
    | none => rw [vN, Option.getD_some, ht] at h; simp at h
    | some f =>
      obtain ⟨m1, m2⟩ := cq_mirror hm
      obtain ⟨-, t1, t2⟩ := cq_times ht
      simp only [vN, Option.getD_some, ht]
      rw [t1, t2, m1, m2]
      constructor <;> grind
/-- A sign. -/
def sgQ (p : Bool) : Rat := if p then 1 else -1
theorem cq_op {p : Bool} {a b f : Fr} (e : opI p a b = some f) : qr f = qr a + sgQ p * qr b ∧ qi f = qi a + sgQ p * qi b := by
  unfold opI at e
  unfold sgQ
  cases p
  · simp only [Bool.false_eq_true, if_false] at e ⊢
    obtain ⟨-, h1, h2⟩ := cq_less e
    rw [h1, h2]
    constructor <;> grind
  · simp only [if_true] at e ⊢
    obtain ⟨-, h1, h2⟩ := cq_add e
    rw [h1, h2]
    constructor <;> grind
theorem cq_part {im : Bool} {a f : Fr} (e : partI im a = some f) : realOk f = true ∧ qr f = if im then qi a else qr a := by
  unfold partI realI imagI at e
  cases im
  · simp only [Bool.false_eq_true, if_false] at e ⊢
    split at e
    · rename_i h
      have hd := (fvalid_bd a h).2.2.1
      exact ⟨low_real hd e, (cq_low hd e).2.1⟩
    · cases e
  · simp only [if_true] at e ⊢
    split at e
    · rename_i h
      have hd := (fvalid_bd a h).2.2.1
      exact ⟨low_real hd e, (cq_low hd e).2.1⟩
    · cases e
theorem q_half {a f : Fr} (ha : realOk a = true) (e : halfI a = some f) : realOk f = true ∧ qr f = qr a / 2 := by
  obtain ⟨h1, h2, h3⟩ := q_over ha (show realOk ⟨2, 0, 1⟩ = true by decide) e
  have e2 : qr ⟨2, 0, 1⟩ = 2 := by unfold qr; simp only [Rat.intCast_ofNat]; grind
  rw [e2] at h3
  exact ⟨h1, by grind⟩
theorem pow_q {p2 p3 p4 : Bool} {A B C D : Fr} (ha : realOk A = true) (hb : realOk B = true) (hc : realOk C = true) (hd : realOk D = true) (h : (powE p2 p3 p4 A B C D).2 = false) :
    realOk (powE p2 p3 p4 A B C D).1 = true ∧ qr (powE p2 p3 p4 A B C D).1 = (qr A + sgQ p2 * qr B + sgQ p3 * qr C + sgQ p4 * qr D) / 2 := by
  unfold powE at h ⊢
  simp only [Bool.or_eq_false_iff] at h
  obtain ⟨⟨⟨h1, h2⟩, h3⟩, h4⟩ := h
  cases e1 : opI p2 A B with
  | none => rw [e1] at h1; cases h1
  | some x1 =>
  rw [e1] at h2 h3 h4
  simp only [vN, Option.getD_some] at h2 h3 h4 ⊢
  cases e2 : opI p3 x1 C with
  | none => rw [e2] at h2; cases h2
  | some x2 =>
  rw [e2] at h3 h4
  simp only [Option.getD_some] at h3 h4 ⊢
  cases e3 : opI p4 x2 D with
  | none => rw [e3] at h3; cases h3
  | some x3 =>
  rw [e3] at h4
  simp only [Option.getD_some] at h4 ⊢
  cases e4 : halfI x3 with
  | none => rw [e4] at h4; cases h4
  | some x4 =>
  have r1 := op_real ha hb e1
  have r2 := op_real r1 hc e2
  have r3 := op_real r2 hd e3
  obtain ⟨r4, q4⟩ := q_half r3 e4
  refine ⟨r4, ?_⟩
  rw [Option.getD_some, q4, (cq_op e3).1, (cq_op e2).1, (cq_op e1).1]
theorem two_q {im p : Bool} {x y u v : Fr} (h : (twoE im p x y u v).2 = false) :
    realOk (twoE im p x y u v).1 = true ∧ qr (twoE im p x y u v).1 = if im then (qi x * qr y - qr x * qi y) + sgQ p * (qi u * qr v - qr u * qi v) else (qr x * qr y + qi x * qi y) + sgQ p * (qr u * qr v + qi u * qi v) := by
  unfold twoE at h ⊢
  simp only [Bool.or_eq_false_iff] at h
  obtain ⟨⟨⟨h1, h2⟩, h3⟩, h4⟩ := h
  cases e1 : opI p (pairV x y) (pairV u v) with
  | none => rw [e1] at h3; cases h3
  | some f =>
  rw [e1] at h4
  simp only [vN, Option.getD_some] at h4 ⊢
  cases e2 : partI im f with
  | none => rw [e2] at h4; cases h4
  | some g =>
  obtain ⟨r, q⟩ := cq_part e2
  refine ⟨r, ?_⟩
  rw [Option.getD_some, q, (cq_op e1).1, (cq_op e1).2, (cq_pair h1).1, (cq_pair h1).2, (cq_pair h2).1, (cq_pair h2).2]
theorem q_power {a f : Fr} (e : powerI a = some f) : qr f = qr a * qr a + qi a * qi a := by
  unfold powerI at e
  split at e
  · rename_i h
    have da := (fvalid_bd a h).2.2.1
    rw [(cq_low (dens_pos da da) e).2.1]
    unfold qr qi
    have na := q_ne da
    simp only [Rat.intCast_mul, Rat.intCast_add]
    grind
  · cases e
theorem tt_cell {a b : List Fr} {n m : Nat} (hm : m < n) (h : (ttI a b n).2 = false) : (ttI a b n).1[m]? = some (dotI (trow a (m / 4)) (tcol b (m % 4)) 4).1 ∧ (dotI (trow a (m / 4)) (tcol b (m % 4)) 4).2 = false := by
  induction n with
  | zero => omega
  | succ n ih =>
    simp only [ttI, Bool.or_eq_false_iff] at h ⊢
    by_cases e : m = n
    · subst e
      exact ⟨by rw [List.getElem?_append_right (by rw [tt_len]; omega), tt_len, Nat.sub_self]; rfl, h.2⟩
    · obtain ⟨h1, h2⟩ := ih (by omega) h.1
      exact ⟨by rw [List.getElem?_append_left (by rw [tt_len]; omega), h1], h2⟩
theorem q_hf : qr hf = 1 / 2 ∧ qr z1 = 0 := by
  unfold hf z1 qr
  constructor <;> simp only [Rat.intCast_ofNat] <;> grind
set_option maxHeartbeats 1000000 in
theorem row_law {s : Sta} {x0 x1 x2 x3 : Fr} (h : rowI s = some [x0, x1, x2, x3]) : x0 = ⟨1, 0, 2⟩ ∧ qr x1 * qr x1 + qr x2 * qr x2 + qr x3 * qr x3 = 1 / 4 := by
  have hreal := (row_some h).2
  have r0 : realOk x0 = true := hreal x0 (by simp)
  unfold rowI at h
  cases hp : plateI s.p s.q 1 with
  | none => rw [hp] at h; cases h
  | some m =>
  rw [hp, Option.bind_some] at h
  cases ht : tabM m with
  | none => rw [ht] at h; cases h
  | some t =>
  rw [ht, Option.bind_some] at h
  cases hx : ttimesI filtT t with
  | none => rw [hx] at h; cases h
  | some xs =>
  rw [hx, Option.map_some] at h
  have h := Option.some.inj h
  obtain ⟨l16, -, rfl, hbad⟩ := ttimes_some rfl (tab_len ht) hx
  have hreals : t.all realOk = true := by
    unfold ttimesI at hx
    split at hx
    · cases hx
    · rename_i hc
      simp only [Bool.or_eq_true, Bool.not_eq_true', not_or, Bool.not_eq_false, Bool.and_eq_true] at hc
      exact hc.1.2
  obtain ⟨c, s', hcs, qa, qa', qb, qb', hv⟩ := plate_q hp
  have tl := tab_len ht
  have cell : ∀ j, j < 4 → ∃ x, (ttI filtT t 16).1[j]? = some x ∧ qr x = (qr (t.getD j zK) + qr (t.getD (4 + j) zK)) / 2 := by
    intro j hj
    obtain ⟨g1, g2⟩ := tt_cell (m := j) (n := 16) (by omega) hbad
    have e0 : j / 4 = 0 := by omega
    have e1 : j % 4 = j := by omega
    rw [e0, e1] at g1 g2
    obtain ⟨d1, -⟩ := dot_q (r := trow filtT 0) (c := tcol t j) 4 (fun k hk => getD_real (a := filtT) (by decide) (by show 4 * 0 + k < 16; omega)) (fun k hk => getD_real hreals (by omega)) g2 (by omega)
    refine ⟨_, g1, ?_⟩
    rw [d1]
    simp only [dotQ, trow, tcol]
    have f0 : filtT.getD (4 * 0 + 0) zK = hf := rfl
    have f1 : filtT.getD (4 * 0 + 1) zK = hf := rfl
    have f2 : filtT.getD (4 * 0 + 2) zK = z1 := rfl
    have f3 : filtT.getD (4 * 0 + 3) zK = z1 := rfl
    rw [f0, f1, f2, f3, q_hf.1, q_hf.2, show 4 * 0 + j = j by omega, show 4 * 1 + j = 4 + j by omega]
    grind
  unfold tabM tabI4 at ht
  rw [hv] at ht
  simp only [] at ht
  split at ht
  · cases ht
  rename_i hc
  obtain rfl := Option.some.inj ht
  simp only [Bool.not_true, Bool.false_or, Bool.or_eq_true, not_or, Bool.not_eq_true] at hc
  obtain ⟨hc1, hc2⟩ := hc
  unfold pow4 at hc1
  simp only [Bool.or_eq_false_iff] at hc1
  obtain ⟨⟨⟨pa, pb⟩, pc⟩, pd⟩ := hc1
  cases ea : powerI m.a with
  | none => rw [ea] at pa; cases pa
  | some A =>
  cases eb : powerI m.b with
  | none => rw [eb] at pb; cases pb
  | some B =>
  cases ec : powerI m.c with
  | none => rw [ec] at pc; cases pc
  | some C =>
  cases ed : powerI m.d with
  | none => rw [ed] at pd; cases pd
  | some D =>
  simp only [ea, eb, ec, ed, vN, Option.getD_some, entsI, List.any_cons, Bool.or_eq_false_iff] at hc2
  obtain ⟨f0, f1, f2, f3, f4, f5, f6, f7, -⟩ := hc2
  have ra := power_real ea; have rb := power_real eb; have rc := power_real ec; have rd := power_real ed
  have q0 := (pow_q ra rb rc rd f0).2
  have q1 := (pow_q ra rb rc rd f1).2
  have q4 := (pow_q ra rb rc rd f4).2
  have q5 := (pow_q ra rb rc rd f5).2
  have q2 := (two_q f2).2
  have q3 := (two_q f3).2
  have q6 := (two_q f6).2
  have q7 := (two_q f7).2
  have vA := q_power ea
  have vB := q_power eb
  obtain ⟨y0, g0, v0⟩ := cell 0 (by omega)
  obtain ⟨y1, g1, v1⟩ := cell 1 (by omega)
  obtain ⟨y2, g2, v2⟩ := cell 2 (by omega)
  obtain ⟨y3, g3, v3⟩ := cell 3 (by omega)
  have k : ∀ j, j < 4 → [x0, x1, x2, x3][j]? = (ttI filtT _ 16).1[j]? := fun j hj => by rw [← h, List.getElem?_take, if_pos hj]
  have k0 := (k 0 (by omega)).trans g0
  have k1 := (k 1 (by omega)).trans g1
  have k2 := (k 2 (by omega)).trans g2
  have k3 := (k 3 (by omega)).trans g3
  simp only [List.getElem?_cons_zero, List.getElem?_cons_succ, Option.some.injEq] at k0 k1 k2 k3
  subst k0 k1 k2 k3
  simp only [ea, eb, ec, ed, vN, Option.getD_some, entsI, List.map_cons, List.getD_cons_zero, List.getD_cons_succ, Nat.reduceAdd] at v0 v1 v2 v3
  rw [q0, q4] at v0
  rw [q1, q5] at v1
  rw [q2, q6] at v2
  rw [q3, q7] at v3
  simp only [sgQ, if_true, Bool.false_eq_true, if_false] at v0 v1 v2 v3
  clear q0 q1 q2 q3 q4 q5 q6 q7 g0 g1 g2 g3 cell k h hbad hx hreals tl l16 f0 f1 f2 f3 f4 f5 f6 f7 pa pb pc pd
  rw [vA, vB, qa, qa', qb, qb'] at v0 v1
  rw [qa, qa', qb, qb'] at v2 v3
  refine ⟨q_uniq r0 (by decide) ?_, ?_⟩
  · rw [v0, show qr ⟨1, 0, 2⟩ = 1 / 2 from q_hf.1]
    clear v0 v1 v2 v3
    grind
  · rw [v1, v2, v3]
    clear v0 v1 v2 v3
    grind
end
end Go.Proofs.YtodhbkinbcemnaaGreatDoor
