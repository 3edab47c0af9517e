/-
  Means of real exact fractions: plain arithmetic.
-/
import Derived.Test.YtkdggljioekkhaaGreatDoorJb
namespace Go.Proofs.YtkdggljioekkhaaGreatDoor
set_option linter.unusedSimpArgs false
set_option linter.unusedVariables false
open Go.RowKit
theorem low_self {a : Fr} (ha : fvalid a = true) : lowI a.re a.im a.den = some a := by
  have hg := fvalid_gcd a ha
  have hb := fvalid_bd a ha
  unfold lowI
  simp only [hg, Int.tdiv_one, Int.ediv_one]
  rw [if_pos]
  simp only [Bool.and_eq_true, inB_iff, Bool.not_eq_true', decide_eq_false_iff_not]
  exact ⟨⟨hb.1, hb.2.1⟩, by omega⟩
theorem rep_it {f : Fr} (h : fvalid f = true) : Rep f f.re f.im f.den := ⟨h, (fvalid_bd f h).2.2.1, rfl, rfl⟩
theorem add_zero {x : Fr} (h : fvalid x = true) : addI ⟨0, 0, 1⟩ x = some x := by
  have e := low_self h
  rw [addI, h, show fvalid ⟨0, 0, 1⟩ = true by decide]
  simpa using e
def sumStep (o : Option Fr) (f : Fr) : Option Fr := o.bind fun s => addI s f
def sumI (xs : List Fr) : Option Fr := xs.foldl sumStep (some ⟨0, 0, 1⟩)
/-- The mean of few real fractions. -/
def meanI (xs : List Fr) : Option Fr := if decide (1 ≤ xs.length) && decide (xs.length ≤ 16) && xs.all realOk then (sumI xs).bind fun s => overI s ⟨xs.length, 0, 1⟩ else none
theorem sum_snoc (xs : List Fr) (x : Fr) : sumI (xs ++ [x]) = sumStep (sumI xs) x := by simp [sumI]
theorem sum_none : ∀ (ys : List Fr), ys.foldl sumStep none = none
  | [] => rfl
  | _ :: ys => sum_none ys
theorem fold_real : ∀ (xs : List Fr) (a s : Fr), (∃ x d, Rep a x 0 d) → (∀ f ∈ xs, realOk f = true) → xs.foldl sumStep (some a) = some s → ∃ x d, Rep s x 0 d
  | [], a, s, h, _, e => by
    obtain rfl := Option.some.inj e
    exact h
  | f :: xs, a, s, ⟨x, d, h⟩, hr, e => by
    have hf := hr f (by simp)
    simp only [realOk, Bool.and_eq_true, beq_iff_eq] at hf
    have e1 : xs.foldl sumStep (addI a f) = some s := e
    cases ha : addI a f with
    | none => rw [ha, sum_none] at e1; cases e1
    | some b =>
      rw [ha] at e1
      have hb := val_add h (rep_it hf.1) ha
      rw [hf.2] at hb
      exact fold_real xs b s ⟨_, _, by simpa using hb⟩ (fun g hg => hr g (by simp [hg])) e1
theorem sum_real {xs : List Fr} {s : Fr} (hr : ∀ f ∈ xs, realOk f = true) (e : sumI xs = some s) : ∃ x d, Rep s x 0 d :=
  fold_real xs ⟨0, 0, 1⟩ s ⟨0, 1, by decide, by decide, by decide, by decide⟩ hr e
theorem turn_val {n : Nat} (hn : 1 ≤ n) {h : Fr} (e : turnI ⟨n, 0, 1⟩ = some h) : Rep h 1 0 n := by
  have hp : (1 : Int) ≤ (n : Int) := by omega
  have hnn : (1 : Int) ≤ (n : Int) * n := by
    have := Int.mul_le_mul hp hp (by omega) (by omega)
    omega
  have e2 : lowI (n : Int) 0 ((n : Int) * n) = some h := by simpa [turnI] using e
  exact rep_of_val hnn hp e2 (by simp) (by simp)
theorem over_parts {a b o : Fr} (e : overI a b = some o) : fvalid a = true ∧ ∃ t, turnI b = some t ∧ timesI a t = some o := by
  unfold overI at e
  split at e
  · rename_i hh
    simp only [Bool.and_eq_true] at hh
    cases ht : turnI b with
    | none => rw [ht] at e; cases e
    | some t => rw [ht] at e; exact ⟨hh.1.1, t, rfl, e⟩
  · cases e
theorem mean_parts {xs : List Fr} {o : Fr} (e : meanI xs = some o) : (1 ≤ xs.length ∧ xs.length ≤ 16) ∧ (∀ f ∈ xs, realOk f = true) ∧ ∃ s, sumI xs = some s ∧ overI s ⟨xs.length, 0, 1⟩ = some o := by
  unfold meanI at e
  split at e
  · rename_i hh
    simp only [Bool.and_eq_true, decide_eq_true_eq] at hh
    cases hs : sumI xs with
    | none => rw [hs] at e; cases e
    | some s => rw [hs] at e; exact ⟨hh.1, List.all_eq_true.1 hh.2, s, rfl, e⟩
  · cases e
/-- A mean times their number is the sum; and it is real. -/
theorem mean_sum {xs : List Fr} {o : Fr} (e : meanI xs = some o) : o.im = 0 ∧ ∃ s, sumI xs = some s ∧ ∀ t, timesI o ⟨xs.length, 0, 1⟩ = some t → t = s := by
  obtain ⟨⟨h1, h2⟩, hr, s, hs, ho⟩ := mean_parts e
  obtain ⟨x, d, hx⟩ := sum_real hr hs
  obtain ⟨_, q, hq, hoq⟩ := over_parts ho
  have hv := val_times hx (turn_val h1 hq) hoq
  have hv2 : Rep o x 0 (d * xs.length) := by simpa using hv
  refine ⟨?_, s, hs, fun t ht => ?_⟩
  · have h3 := hv2.im
    have h4 := hv2.pos
    rw [Int.zero_mul] at h3
    rcases Int.mul_eq_zero.1 h3 with h5 | h5
    · exact h5
    · omega
  · have hn : Rep (⟨xs.length, 0, 1⟩ : Fr) xs.length 0 1 := by
      refine ⟨?_, by decide, by simp, by simp⟩
      unfold timesI at ht
      split at ht
      · rename_i hh
        simp only [Bool.and_eq_true] at hh
        exact hh.2
      · cases ht
    have hw := val_times hv2 hn ht
    have hp : (1 : Int) ≤ (xs.length : Int) := by omega
    have hs2 : Rep s ((xs.length : Int) * x) (xs.length * 0) (xs.length * d) := by
      obtain ⟨r0, r1, r2, r3⟩ := hx
      refine ⟨r0, ?_, ?_, ?_⟩
      · have := Int.mul_le_mul hp r1 (by omega) (by omega)
        omega
      · clear r3; grind
      · simp [r3]; clear r2; grind
    refine rep_uniq hw ?_
    simp only [Int.mul_zero, Int.zero_mul, Int.sub_zero, Int.add_zero, Int.mul_one] at hs2 ⊢
    rw [Int.mul_comm x, Int.mul_comm d]
    exact hs2
theorem mean_one {x : Fr} (h : realOk x = true) : meanI [x] = some x := by
  have hv : fvalid x = true := by
    simp only [realOk, Bool.and_eq_true] at h
    exact h.1
  have e1 : sumI [x] = some x := by
    show addI ⟨0, 0, 1⟩ x = some x
    exact add_zero hv
  have e2 : overI x ⟨1, 0, 1⟩ = some x := by
    have ht : turnI ⟨1, 0, 1⟩ = some ⟨1, 0, 1⟩ := by decide
    have e := low_self hv
    rw [overI, hv, show fvalid ⟨1, 0, 1⟩ = true by decide, ht]
    simp [isZero, timesI, hv, show fvalid ⟨1, 0, 1⟩ = true by decide, e]
  simp [meanI, h, e1, e2]
/-- All so far are real, and their sum is told. -/
def okK (xs : List Fr) (k : Nat) : Bool := (xs.take k).all realOk && (sumI (xs.take k)).isSome
theorem okK_first {xs : List Fr} {f : Fr} (h : xs[0]? = some f) : okK xs 1 = realOk f ∧ (realOk f = true → sumI (xs.take 1) = some f) := by
  have e : xs.take 1 = [f] := by
    cases xs with
    | nil => simp at h
    | cons x xs => simp at h; simp [h]
  have hs : realOk f = true → sumI [f] = some f := fun hr => by
    have hv : fvalid f = true := by
      simp only [realOk, Bool.and_eq_true] at hr
      exact hr.1
    show addI ⟨0, 0, 1⟩ f = some f
    exact add_zero hv
  rw [okK, e]
  refine ⟨?_, hs⟩
  cases hr : realOk f
  · simp [hr]
  · simp [hr, hs hr]
theorem okK_next {xs : List Fr} {k : Nat} {f acc : Fr} (h : xs[k]? = some f) (hk : okK xs k = true → sumI (xs.take k) = some acc) :
    ((!okK xs k || !realOk f) || (addI acc f).isNone) = !okK xs (k + 1) ∧ (okK xs (k + 1) = true → sumI (xs.take (k + 1)) = some ((addI acc f).getD ⟨0, 0, 0⟩)) := by
  have e : xs.take (k + 1) = xs.take k ++ [f] := by rw [List.take_add_one, h]; rfl
  have e1 : okK xs (k + 1) = ((xs.take k).all realOk && realOk f && (sumStep (sumI (xs.take k)) f).isSome) := by
    rw [okK, e, sum_snoc, List.all_append]
    simp [Bool.and_assoc]
  have e2 : sumI (xs.take (k + 1)) = sumStep (sumI (xs.take k)) f := by rw [e, sum_snoc]
  rw [e2, e1]
  cases ho : okK xs k
  · have h0 : ((xs.take k).all realOk && realOk f && (sumStep (sumI (xs.take k)) f).isSome) = false := by
      rw [Bool.eq_false_iff]
      intro hc
      simp only [Bool.and_eq_true] at hc
      have : okK xs k = true := by
        rw [okK, hc.1.1, Bool.true_and]
        cases hs : sumI (xs.take k) with
        | none => rw [hs] at hc; cases hc.2
        | some s => rfl
      rw [ho] at this
      cases this
    rw [h0]
    simp
  · have hs := hk ho
    have ha : (xs.take k).all realOk = true := by
      have := ho
      rw [okK, Bool.and_eq_true] at this
      exact this.1
    rw [hs, ha]
    show _ ∧ (_ → addI acc f = _)
    cases hr : realOk f
    · simp
    · cases hx : addI acc f with
      | none => simp [sumStep, hx]
      | some x => simp [sumStep, hx]
theorem mean_end {xs : List Fr} {acc : Fr} (h1 : 1 ≤ xs.length) (h2 : xs.length ≤ 16) (h : okK xs xs.length = true → sumI xs = some acc) :
    gotF (!okK xs xs.length || (overI acc ⟨xs.length, 0, 1⟩).isNone) ⟨0, 0, 0⟩ ((overI acc ⟨xs.length, 0, 1⟩).getD ⟨0, 0, 0⟩) = (meanI xs).getD ⟨0, 0, 0⟩ ∧ (!(!okK xs xs.length || (overI acc ⟨xs.length, 0, 1⟩).isNone)) = (meanI xs).isSome := by
  have e : okK xs xs.length = (xs.all realOk && (sumI xs).isSome) := by rw [okK, List.take_length]
  unfold meanI gotF
  cases ho : okK xs xs.length
  · rw [e, Bool.and_eq_false_iff] at ho
    rcases ho with h3 | h3
    · simp [h3]
    · have : sumI xs = none := by simpa using h3
      simp [this]
  · have hs := h ho
    rw [e, Bool.and_eq_true] at ho
    rw [hs]
    simp only [h1, h2, ho.1, decide_true, Bool.and_self, if_true]
    show _ = (overI acc _).getD _ ∧ _ = (overI acc _).isSome
    cases overI acc ⟨xs.length, 0, 1⟩ <;> simp
end Go.Proofs.YtkdggljioekkhaaGreatDoor
