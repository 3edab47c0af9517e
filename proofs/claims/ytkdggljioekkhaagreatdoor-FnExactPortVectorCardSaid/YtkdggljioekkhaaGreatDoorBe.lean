/-
  Comparing real fractions: plain Lean.
-/
import Derived.Test.YtkdggljioekkhaaGreatDoorJb
namespace Go.Proofs.YtkdggljioekkhaaGreatDoor
set_option linter.unusedSimpArgs false
set_option linter.unusedVariables false
open Go.RowKit
/-- The sign of a difference of real fractions. -/
def cmpS (d : Int) : Int := if d < 0 then -1 else if 0 < d then 1 else 0
def cmpV (a b : Fr) : Int := cmpS (a.re * b.den - b.re * a.den)
def cmpI (a b : Fr) : Option Int := if realOk a && realOk b then some (cmpS (a.re * b.den - b.re * a.den)) else none
theorem cmpI_ok {a b : Fr} (ha : realOk a = true) (hb : realOk b = true) : cmpI a b = some (cmpV a b) := by
  unfold cmpI cmpV; rw [ha, hb]; rfl
theorem q_pos {b : Int} (hb : 1 ≤ b) : (0 : Rat) < (b : Rat) := by
  have := Rat.intCast_lt_intCast.2 (show (0 : Int) < b by omega)
  simpa using this
theorem qr_mul {a : Fr} (ha : realOk a = true) : qr a * (a.den : Rat) = (a.re : Rat) := by
  have n := q_ne (real_parts ha).2.2
  unfold qr
  grind
theorem q_lt {a b : Fr} (ha : realOk a = true) (hb : realOk b = true) : a.re * b.den < b.re * a.den ↔ qr a < qr b := by
  have da := q_pos (real_parts ha).2.2
  have db := q_pos (real_parts hb).2.2
  have ea := qr_mul ha
  have eb := qr_mul hb
  rw [← Rat.intCast_lt_intCast, Rat.intCast_mul, Rat.intCast_mul, ← ea, ← eb]
  generalize (a.den : Rat) = A at *
  generalize (b.den : Rat) = B at *
  generalize qr a = x at *
  generalize qr b = y at *
  have hAB := Rat.mul_pos da db
  clear ea eb
  constructor
  · intro h
    by_cases hc : x < y
    · exact hc
    · have := Rat.mul_nonneg (show 0 ≤ x - y by grind) (Rat.le_of_lt hAB)
      grind
  · intro h
    have := Rat.mul_pos (show 0 < y - x by grind) hAB
    grind
theorem cmpV_lt {a b : Fr} (ha : realOk a = true) (hb : realOk b = true) : cmpV a b < 0 ↔ qr a < qr b := by
  rw [← q_lt ha hb]
  unfold cmpV cmpS
  split
  · omega
  · split <;> omega
theorem cmpV_gt {a b : Fr} (ha : realOk a = true) (hb : realOk b = true) : 0 < cmpV a b ↔ qr b < qr a := by
  rw [← q_lt hb ha]
  unfold cmpV cmpS
  split
  · omega
  · split <;> omega
theorem cmpV_eq {a b : Fr} (ha : realOk a = true) (hb : realOk b = true) : cmpV a b = 0 ↔ qr a = qr b := by
  have h1 := cmpV_lt ha hb
  have h2 := cmpV_gt ha hb
  constructor
  · intro h
    have k1 : ¬ qr a < qr b := fun k => by have := h1.2 k; omega
    have k2 : ¬ qr b < qr a := fun k => by have := h2.2 k; omega
    grind
  · intro h
    have k1 : ¬ cmpV a b < 0 := fun k => by have := h1.1 k; grind
    have k2 : ¬ 0 < cmpV a b := fun k => by have := h2.1 k; grind
    omega
theorem cmpV_self (a : Fr) : cmpV a a = 0 := by
  unfold cmpV
  rw [Int.sub_self]
  rfl
/-- The place of the first greatest one, and of the first least one, of the first ones. -/
def atF (fs : List Fr) (k : Nat) : Fr := fs.getD k ⟨0, 0, 0⟩
def grt (fs : List Fr) : Nat → Nat
  | 0 => 0
  | k + 1 => if 0 < cmpV (atF fs k) (atF fs (grt fs k)) then k else grt fs k
def lst (fs : List Fr) : Nat → Nat
  | 0 => 0
  | k + 1 => if cmpV (atF fs k) (atF fs (lst fs k)) < 0 then k else lst fs k
theorem grt_lt (fs : List Fr) : ∀ k, grt fs k ≤ k - 1
  | 0 => Nat.le_refl _
  | k + 1 => by
    have := grt_lt fs k
    rw [grt]; split <;> omega
theorem lst_lt (fs : List Fr) : ∀ k, lst fs k ≤ k - 1
  | 0 => Nat.le_refl _
  | k + 1 => by
    have := lst_lt fs k
    rw [lst]; split <;> omega
theorem atF_real {fs : List Fr} (h : ∀ f ∈ fs, realOk f = true) {k : Nat} (hk : k < fs.length) : realOk (atF fs k) = true := by
  unfold atF
  rw [List.getD_eq_getElem?_getD, List.getElem?_eq_getElem hk]
  exact h _ (List.getElem_mem hk)
theorem grt_spec {fs : List Fr} (h : ∀ f ∈ fs, realOk f = true) : ∀ n, n ≤ fs.length → ∀ j, j < n → qr (atF fs j) ≤ qr (atF fs (grt fs n)) ∧ (qr (atF fs j) = qr (atF fs (grt fs n)) → grt fs n ≤ j)
  | 0, _, j, hj => by omega
  | n + 1, hn, j, hj => by
    have ih := grt_spec h n (by omega)
    have hg := grt_lt fs n
    have c := cmpV_gt (a := atF fs n) (b := atF fs (grt fs n)) (atF_real h (by omega)) (atF_real h (by omega))
    rw [grt]
    by_cases hc : 0 < cmpV (atF fs n) (atF fs (grt fs n))
    · rw [if_pos hc]
      have hc' := c.1 hc
      by_cases e : j = n
      · subst e
        exact ⟨Rat.le_refl, fun _ => Nat.le_refl _⟩
      · have := (ih j (by omega)).1
        exact ⟨by grind, fun e2 => by grind⟩
    · rw [if_neg hc]
      have hc' : ¬ qr (atF fs (grt fs n)) < qr (atF fs n) := fun k => hc (c.2 k)
      by_cases e : j = n
      · subst e
        exact ⟨by grind, fun _ => by omega⟩
      · exact ih j (by omega)
theorem lst_spec {fs : List Fr} (h : ∀ f ∈ fs, realOk f = true) : ∀ n, n ≤ fs.length → ∀ j, j < n → qr (atF fs (lst fs n)) ≤ qr (atF fs j)
  | 0, _, j, hj => by omega
  | n + 1, hn, j, hj => by
    have ih := lst_spec h n (by omega)
    have hg := lst_lt fs n
    have c := cmpV_lt (a := atF fs n) (b := atF fs (lst fs n)) (atF_real h (by omega)) (atF_real h (by omega))
    rw [lst]
    by_cases hc : cmpV (atF fs n) (atF fs (lst fs n)) < 0
    · rw [if_pos hc]
      have hc' := c.1 hc
      by_cases e : j = n
      · subst e; exact Rat.le_refl
      · have := ih j (by omega)
        grind
    · rw [if_neg hc]
      have hc' : ¬ qr (atF fs n) < qr (atF fs (lst fs n)) := fun k => hc (c.2 k)
      by_cases e : j = n
      · subst e; grind
      · exact ih j (by omega)
end Go.Proofs.YtkdggljioekkhaaGreatDoor
