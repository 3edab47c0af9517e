/-
  Determinants of real exact fractions along the first row, and what solves four rows: the program's way and the reference's, in plain Lean.
-/
import Derived.Test.YtejkeihgcggmbaaDoorVa
namespace Go.Proofs.YtejkeihgcggmbaaDoor
set_option linter.unusedSimpArgs false
set_option linter.unusedVariables false
open Go.RowKit
def zK : Fr := ⟨0, 0, 0⟩
def cutK (k : Nat) (r : List Fr) : List Fr := r.take k ++ r.drop (k + 1)
def minorK (k : Nat) (rows : List (List Fr)) : List (List Fr) := rows.tail.map (cutK k)
def entryK (rows : List (List Fr)) (k : Nat) : Fr := (rows.headD []).getD k zK
/-- One column more, the program's way: the value and whether something was none. -/
def stepI (D : List (List Fr) → Fr × Bool) (rows : List (List Fr)) (s : Fr × Bool) (k : Nat) : Fr × Bool :=
  let d := D (minorK k rows)
  let p := timesI (entryK rows k) d.1
  let b := (s.2 || d.2) || p.isNone
  if k = 0 then (p.getD zK, b)
  else if k % 2 = 1 then ((lessI s.1 (p.getD zK)).getD zK, b || (lessI s.1 (p.getD zK)).isNone)
  else ((addI s.1 (p.getD zK)).getD zK, b || (addI s.1 (p.getD zK)).isNone)
def detIK (D : List (List Fr) → Fr × Bool) (rows : List (List Fr)) : Nat → Fr × Bool
  | 0 => (zK, false)
  | k + 1 => stepI D rows (detIK D rows k) k
def detI : Nat → List (List Fr) → Fr × Bool
  | 0 => fun rows => (entryK rows 0, false)
  | n + 1 => fun rows => detIK (detI n) rows (n + 2)
/-- The reference's way. -/
def stepS (D : List (List Fr) → Fr × Bool) (rows : List (List Fr)) (s : Fr × Bool) (k : Nat) : Fr × Bool :=
  let d := D (minorK k rows)
  let p := timesI (entryK rows k) d.1
  let b := (s.2 || d.2) || p.isNone
  if k % 2 = 1 then ((lessI s.1 (p.getD zK)).getD zK, b || (lessI s.1 (p.getD zK)).isNone)
  else ((addI s.1 (p.getD zK)).getD zK, b || (addI s.1 (p.getD zK)).isNone)
def detSK (D : List (List Fr) → Fr × Bool) (rows : List (List Fr)) : Nat → Fr × Bool
  | 0 => (⟨0, 0, 1⟩, false)
  | k + 1 => stepS D rows (detSK D rows k) k
def detS : Nat → List (List Fr) → Fr × Bool
  | 0 => fun rows => (entryK rows 0, false)
  | n + 1 => fun rows => detSK (detS n) rows (n + 2)
/-- n + 1 rows of n + 1 real fractions each. -/
def Sq (n : Nat) (rows : List (List Fr)) : Prop := rows.length = n + 1 ∧ ∀ r ∈ rows, r.length = n + 1 ∧ ∀ f ∈ r, realOk f = true
theorem low_real {re den : Int} {h : Fr} (hd : 1 ≤ den) (e : lowI re 0 den = some h) : realOk h = true := by
  obtain ⟨hv, -, hi⟩ := lowI_val hd e
  rw [Int.zero_mul] at hi
  have : h.im = 0 := by
    rcases Int.mul_eq_zero.1 hi with h1 | h1
    · exact h1
    · omega
  simp [realOk, hv, this]
theorem real_parts {a : Fr} (h : realOk a = true) : fvalid a = true ∧ a.im = 0 ∧ 1 ≤ a.den := by
  simp only [realOk, Bool.and_eq_true, beq_iff_eq] at h
  exact ⟨h.1, h.2, (fvalid_bd a h.1).2.2.1⟩
theorem dens_pos {a b : Int} (ha : 1 ≤ a) (hb : 1 ≤ b) : 1 ≤ a * b := by
  have := Int.mul_le_mul ha hb (by omega) (by omega)
  omega
theorem times_real {a b h : Fr} (ha : realOk a = true) (hb : realOk b = true) (e : timesI a b = some h) : realOk h = true := by
  obtain ⟨va, ia, da⟩ := real_parts ha
  obtain ⟨vb, ib, db⟩ := real_parts hb
  rw [timesI, va, vb, ia, ib] at e
  simp only [Bool.and_self, if_true, Int.mul_zero, Int.zero_mul, Int.add_zero] at e
  exact low_real (dens_pos da db) e
theorem add_real {a b h : Fr} (ha : realOk a = true) (hb : realOk b = true) (e : addI a b = some h) : realOk h = true := by
  obtain ⟨va, ia, da⟩ := real_parts ha
  obtain ⟨vb, ib, db⟩ := real_parts hb
  rw [addI, va, vb, ia, ib] at e
  simp only [Bool.and_self, if_true, Int.zero_mul, Int.add_zero] at e
  exact low_real (dens_pos da db) e
theorem less_real {a b h : Fr} (ha : realOk a = true) (hb : realOk b = true) (e : lessI a b = some h) : realOk h = true := by
  obtain ⟨va, ia, da⟩ := real_parts ha
  obtain ⟨vb, ib, db⟩ := real_parts hb
  rw [lessI, va, vb, ia, ib] at e
  simp only [Bool.and_self, if_true, Int.zero_mul, Int.sub_zero] at e
  exact low_real (dens_pos da db) e
theorem add_zeroK {x : Fr} (h : fvalid x = true) : addI ⟨0, 0, 1⟩ x = some x := by
  have hg := fvalid_gcd x h
  have hb := fvalid_bd x h
  have e : lowI x.re x.im x.den = some x := by
    unfold lowI
    simp only [hg, Int.tdiv_one, Int.ediv_one]
    rw [if_pos]
    simp only [Bool.and_eq_true, inB_iff, Bool.not_eq_true', decide_eq_false_iff_not]
    exact ⟨⟨hb.1, hb.2.1⟩, by omega⟩
  rw [addI, h, show fvalid ⟨0, 0, 1⟩ = true by decide]
  simpa using e
theorem sq_minor {n k : Nat} {rows : List (List Fr)} (h : Sq (n + 1) rows) (hk : k < n + 2) : Sq n (minorK k rows) := by
  refine ⟨by rw [minorK, List.length_map, List.length_tail, h.1]; omega, fun r hr => ?_⟩
  obtain ⟨r0, hr0, rfl⟩ := List.mem_map.1 hr
  obtain ⟨hl, hf⟩ := h.2 r0 (List.mem_of_mem_tail hr0)
  refine ⟨by rw [cutK, List.length_append, List.length_take, List.length_drop, hl]; omega, fun f hm => ?_⟩
  rcases List.mem_append.1 hm with h1 | h1
  · exact hf f (List.mem_of_mem_take h1)
  · exact hf f (List.mem_of_mem_drop h1)
theorem entry_real {n k : Nat} {rows : List (List Fr)} (h : Sq n rows) (hk : k < n + 1) : realOk (entryK rows k) = true := by
  obtain ⟨hl, hr⟩ := h
  match rows, hl with
  | r :: rs, _ =>
    obtain ⟨h1, h2⟩ := hr r (by simp)
    have : entryK (r :: rs) k = r[k]'(by omega) := by simp [entryK, List.getD, List.getElem?_eq_getElem (show k < r.length by omega)]
    rw [this]
    exact h2 _ (List.getElem_mem _)
theorem det_eq : ∀ (n : Nat) (rows : List (List Fr)), Sq n rows → (detI n rows).2 = (detS n rows).2 ∧ ((detI n rows).2 = false → (detI n rows).1 = (detS n rows).1 ∧ realOk (detI n rows).1 = true)
  | 0, rows, h => ⟨rfl, fun _ => ⟨rfl, entry_real h (by omega)⟩⟩
  | n + 1, rows, h => by
    have key : ∀ k, k ≤ n + 2 → (detIK (detI n) rows k).2 = (detSK (detS n) rows k).2 ∧ ((detIK (detI n) rows k).2 = false → 0 < k → (detIK (detI n) rows k).1 = (detSK (detS n) rows k).1 ∧ realOk (detIK (detI n) rows k).1 = true) := by
      intro k
      induction k with
      | zero => exact fun _ => ⟨rfl, fun _ h => absurd h (by omega)⟩
      | succ k ih =>
        intro hk
        obtain ⟨h1, h2⟩ := ih (by omega)
        obtain ⟨d1, d2⟩ := det_eq n _ (sq_minor (k := k) h (by omega))
        have he := entry_real (k := k) h (by omega)
        simp only [detIK, detSK, stepI, stepS]
        rw [← h1, ← d1]
        cases hs : (detIK (detI n) rows k).2
        · cases hd : (detI n (minorK k rows)).2
          · obtain ⟨e1, r1⟩ := d2 hd
            rw [← e1]
            cases hp : timesI (entryK rows k) (detI n (minorK k rows)).1 with
            | none =>
              simp only [Option.isNone_none, Bool.or_true, Bool.true_or]
              refine ⟨?_, ?_⟩
              · split <;> split <;> rfl
              · intro hc
                split at hc
                · cases hc
                · split at hc <;> cases hc
            | some v =>
              have hv := times_real he r1 hp
              rcases Nat.eq_zero_or_pos k with rfl | hk0
              · have e0 : addI (detSK (detS n) rows 0).1 v = some v := add_zeroK (real_parts hv).1
                simp only [Option.getD_some, Nat.zero_mod, if_true, Option.isNone_some, Bool.or_false]
                rw [if_neg (by omega), e0]
                exact ⟨rfl, fun _ _ => ⟨rfl, hv⟩⟩
              · obtain ⟨e2, r2⟩ := h2 hs hk0
                rw [← e2, if_neg (by omega)]
                simp only [Option.getD_some, Option.isNone_some, Bool.or_false]
                split
                · refine ⟨trivial, fun hc _ => ⟨trivial, ?_⟩⟩
                  cases hx : lessI (detIK (detI n) rows k).1 v with
                  | none => rw [hx] at hc; cases hc
                  | some x => exact less_real r2 hv hx
                · refine ⟨trivial, fun hc _ => ⟨trivial, ?_⟩⟩
                  cases hx : addI (detIK (detI n) rows k).1 v with
                  | none => rw [hx] at hc; cases hc
                  | some x => exact add_real r2 hv hx
          · simp only [Bool.or_true, Bool.true_or]
            refine ⟨?_, ?_⟩
            · split <;> split <;> rfl
            · intro hc
              split at hc
              · cases hc
              · split at hc <;> cases hc
        · simp only [Bool.true_or]
          refine ⟨?_, ?_⟩
          · split <;> split <;> rfl
          · intro hc
            split at hc
            · cases hc
            · split at hc <;> cases hc
    obtain ⟨k1, k2⟩ := key (n + 2) (Nat.le_refl _)
    exact ⟨k1, fun hb => k2 hb (by omega)⟩
end Go.Proofs.YtejkeihgcggmbaaDoor
