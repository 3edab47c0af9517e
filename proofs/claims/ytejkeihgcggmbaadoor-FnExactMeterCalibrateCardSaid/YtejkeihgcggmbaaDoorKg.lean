/-
  What solves four rows: the program's way and the reference's, in plain Lean; both are the same.
-/
import Derived.Test.YtejkeihgcggmbaaDoorKa
namespace Go.Proofs.YtejkeihgcggmbaaDoor
set_option linter.unusedSimpArgs false
set_option linter.unusedVariables false
open Go.RowKit
/-- The rows with column k replaced by the readings. -/
def colK (k : Nat) (rows : List (List Fr)) (rs : List Fr) : List (List Fr) := List.zipWith (fun r f => r.set k f) rows rs
/-- The program's way: what stands in the result so far, and whether something was none. -/
def solIK (rows : List (List Fr)) (rs : List Fr) (bot : Fr) : Nat → List Fr × Bool
  | 0 => ([], false)
  | k + 1 =>
    let s := solIK rows rs bot k
    let d := detI 3 (colK k rows rs)
    let o := overI d.1 bot
    (s.1 ++ [o.getD zK], (s.2 || d.2) || o.isNone)
/-- The reference's way. -/
def solSK (rows : List (List Fr)) (rs : List Fr) (bot : Fr) : Nat → Option (List Fr)
  | 0 => some []
  | k + 1 => (solSK rows rs bot k).bind fun out =>
    let d := detS 3 (colK k rows rs)
    if d.2 then none else (overI d.1 bot).map fun o => out ++ [o]
def solI (rows : List (List Fr)) (rs : List Fr) : Option (List Fr) :=
  if rs.all realOk && (decide (rows.length = 4) && decide (rs.length = 4)) then
    if (detI 3 rows).2 || (detI 3 rows).1 == ⟨0, 0, 1⟩ then none
    else if (solIK rows rs (detI 3 rows).1 4).2 then none else some (solIK rows rs (detI 3 rows).1 4).1
  else none
def solS (rows : List (List Fr)) (rs : List Fr) : Option (List Fr) :=
  if decide (rs.length = 4) && rs.all realOk then
    if (detS 3 rows).2 || (detS 3 rows).1.re == 0 then none
    else solSK rows rs (detS 3 rows).1 4
  else none
theorem col_sq {k : Nat} {rows : List (List Fr)} {rs : List Fr} (h : Sq 3 rows) (hl : rs.length = 4) (hr : rs.all realOk = true) : Sq 3 (colK k rows rs) := by
  refine ⟨by rw [colK, List.length_zipWith, h.1, hl]; rfl, fun r hr0 => ?_⟩
  obtain ⟨i, hi, e⟩ := List.getElem_of_mem hr0
  rw [colK, List.length_zipWith] at hi
  have e2 : r = (rows[i]'(by omega)).set k (rs[i]'(by omega)) := by
    rw [← e]
    simp [colK]
  obtain ⟨h1, h2⟩ := h.2 (rows[i]'(by omega)) (List.getElem_mem _)
  rw [e2]
  refine ⟨by rw [List.length_set, h1], fun f hf => ?_⟩
  rcases List.mem_or_eq_of_mem_set hf with h3 | rfl
  · exact h2 f h3
  · exact List.all_eq_true.1 hr _ (List.getElem_mem _)
theorem real_zero {f : Fr} (h : realOk f = true) : (f == ⟨0, 0, 1⟩) = (f.re == 0) := by
  obtain ⟨hv, hi, hd⟩ := real_parts h
  have hz := fvalid_zero f hv
  unfold isZero at hz
  rw [hi] at hz
  simp only [beq_self_eq_true, Bool.true_and, Bool.and_true] at hz
  obtain ⟨a, b, c⟩ := f
  simp only at hi hz ⊢
  subst hi
  cases ha : (a == 0)
  · have : ¬ a = 0 := by simpa using ha
    have h2 : ¬ ((⟨a, 0, c⟩ : Fr) = ⟨0, 0, 1⟩) := fun e => this (by injection e)
    simpa using h2
  · rw [ha, Bool.true_and] at hz
    have h1 : a = 0 := by simpa using ha
    have h2 : c = 1 := by simpa using hz
    subst h1 h2
    decide
theorem sol_key {rows : List (List Fr)} {rs : List Fr} (bot : Fr) (h : Sq 3 rows) (hl : rs.length = 4) (hr : rs.all realOk = true) : ∀ k, (solIK rows rs bot k).2 = (solSK rows rs bot k).isNone ∧ ((solIK rows rs bot k).2 = false → solSK rows rs bot k = some (solIK rows rs bot k).1)
  | 0 => ⟨rfl, fun _ => rfl⟩
  | k + 1 => by
    obtain ⟨h1, h2⟩ := sol_key bot h hl hr k
    obtain ⟨d1, d2⟩ := det_eq 3 _ (col_sq (k := k) h hl hr)
    simp only [solIK, solSK]
    cases hs : (solIK rows rs bot k).2
    · rw [h2 hs, ← d1]
      cases hd : (detI 3 (colK k rows rs)).2
      · rw [← (d2 hd).1]
        simp only [Bool.false_or, Option.bind_some, Bool.false_eq_true, if_false]
        cases overI (detI 3 (colK k rows rs)).1 bot <;> simp [zK]
      · simp
    · rw [hs] at h1
      have : solSK rows rs bot k = none := by simpa using h1.symm
      rw [this]
      simp
/-- Both ways give the same. -/
theorem sol_eq {rows : List (List Fr)} {rs : List Fr} (h : Sq 3 rows) : solI rows rs = solS rows rs := by
  unfold solI solS
  have h4 : rows.length = 4 := h.1
  cases hr : rs.all realOk
  · simp
  by_cases hl : rs.length = 4
  · obtain ⟨d1, d2⟩ := det_eq 3 rows h
    simp only [h4, hl, decide_true, Bool.and_self, if_true]
    rw [← d1]
    cases hd : (detI 3 rows).2
    · obtain ⟨e1, e2⟩ := d2 hd
      rw [← e1, real_zero e2]
      obtain ⟨k1, k2⟩ := sol_key (detI 3 rows).1 h hl hr 4
      cases hz : ((detI 3 rows).1.re == 0)
      · simp only [Bool.or_self, Bool.false_eq_true, if_false]
        cases hs : (solIK rows rs (detI 3 rows).1 4).2
        · rw [k2 hs]; simp
        · rw [hs] at k1
          have : solSK rows rs (detI 3 rows).1 4 = none := by simpa using k1.symm
          rw [this]; simp
      · simp
    · simp
  · simp [hl]
theorem sol_len (rows : List (List Fr)) (rs : List Fr) (bot : Fr) : ∀ k, (solIK rows rs bot k).1.length = k
  | 0 => rfl
  | k + 1 => by simp [solIK, sol_len rows rs bot k]
end Go.Proofs.YtejkeihgcggmbaaDoor
