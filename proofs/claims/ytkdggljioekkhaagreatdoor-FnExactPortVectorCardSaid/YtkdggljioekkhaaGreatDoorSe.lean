/-
  Sections of a fibre: plain definitions, and how a list of them lies in memory. Nothing is claimed here; the other texts of this claim use it.
-/
import Derived.Test.YtkdggljioekkhaaGreatDoorPa
import Derived.Deep.Slices
import Derived.OwnWalk
namespace Go.Proofs.YtkdggljioekkhaaGreatDoor
set_option linter.unusedSimpArgs false
set_option linter.unusedVariables false
open Go.RowKit
/-- A section of a fibre. -/
structure Sec where
  p : Int
  q : Int
  ph : Int
  t : Int
  deriving DecidableEq
/-- Whether a direction can be told. -/
def dirOk (p q : Int) : Bool := inB p (-100) 100 && inB q (-100) 100 && !(p == 0 && q == 0)
def dirC (p q : Int) : Fr := (lowI (p * p - q * q) 0 (p * p + q * q)).getD ⟨0, 0, 0⟩
def dirS (p q : Int) : Fr := (lowI (2 * p * q) 0 (p * p + q * q)).getD ⟨0, 0, 0⟩
def secOk (s : Sec) : Bool := dirOk s.p s.q && inB s.ph 0 3 && inB s.t 0 50
def fibOk (xs : List Sec) : Bool := xs.all secOk && decide (xs.length ≤ 8)
theorem all_take_succ {xs : List Sec} {k : Nat} {s : Sec} (h : xs[k]? = some s) : (xs.take (k + 1)).all secOk = ((xs.take k).all secOk && secOk s) := by
  rw [List.take_add_one, h]; simp
theorem all_not {xs : List Sec} {k : Nat} {s : Sec} (h : xs[k]? = some s) (hs : secOk s = false) : fibOk xs = false := by
  have hm : s ∈ xs := List.mem_of_getElem? h
  have : xs.all secOk = false := by
    rw [Bool.eq_false_iff]
    intro hc
    have := List.all_eq_true.1 hc s hm
    rw [hs] at this; cases this
  simp [fibOk, this]
theorem dir_bd (p q : Int) (h : dirOk p q = true) : (1 ≤ p * p + q * q ∧ p * p + q * q ≤ 20000) ∧ (-20000 ≤ p * p - q * q ∧ p * p - q * q ≤ 20000) ∧ (-20000 ≤ 2 * p * q ∧ 2 * p * q ≤ 20000) ∧ (0 ≤ p * p ∧ p * p ≤ 10000) ∧ (0 ≤ q * q ∧ q * q ≤ 10000) ∧ (-200 ≤ 2 * p ∧ 2 * p ≤ 200) := by
  simp only [dirOk, inB, Bool.and_eq_true, decide_eq_true_eq, Bool.not_eq_true', Bool.and_eq_false_iff, beq_eq_false_iff_ne] at h
  obtain ⟨⟨⟨a, b⟩, c, d⟩, e⟩ := h
  have sq : ∀ x : Int, 0 ≤ x * x := fun x => by rw [← Int.natAbs_mul_self]; omega
  have sq1 : ∀ x : Int, x ≠ 0 → 1 ≤ x * x := fun x hx => by
    have h0 := sq x
    have : x * x ≠ 0 := fun e => hx (by simpa using Int.mul_eq_zero.1 e)
    omega
  have up : ∀ x y : Int, -100 ≤ x → x ≤ 100 → -100 ≤ y → y ≤ 100 → -10000 ≤ x * y ∧ x * y ≤ 10000 := fun x y h1 h2 h3 h4 => by
    have h : (x * y).natAbs ≤ 100 * 100 := by
      rw [Int.natAbs_mul]
      exact Nat.mul_le_mul (by omega) (by omega)
    omega
  have p1 := up p p a b a b
  have q1 := up q q c d c d
  have pq := up p q a b c d
  have p0 := sq p
  have q0 := sq q
  have : 1 ≤ p * p + q * q := by
    rcases e with e | e
    · have := sq1 p e; omega
    · have := sq1 q e; omega
  have e2 : 2 * p * q = 2 * (p * q) := by rw [Int.mul_assoc]
  omega
end Go.Proofs.YtkdggljioekkhaaGreatDoor
