/-
  Short fibres stand for the same products, and are short. Plain arithmetic.
-/
import Derived.Test.YtmaifiakjlbooaaDoorVg
namespace Go.Proofs.YtmaifiakjlbooaaDoor
set_option linter.unusedSimpArgs false
set_option linter.unusedVariables false
open Go.RowKit
theorem pstep_mod {A : CM × Int} {s : Sec} (hs : secOk { s with t := 0 } = true) (hA : 1 ≤ A.2) (ht : 0 ≤ s.t) : Same (pstep A { s with t := s.t % beatI s.ph }) (pstep A s) := by
  have hb := beatI_bd s.ph
  have h := powC_mod hs s.t.toNat
  have hn := nS_pos hs
  have e : (s.t % beatI s.ph).toNat = s.t.toNat % (beatI s.ph).toNat := by
    obtain ⟨a, ha⟩ := Int.eq_ofNat_of_zero_le ht
    obtain ⟨b, hb'⟩ := Int.eq_ofNat_of_zero_le (show 0 ≤ beatI s.ph by omega)
    rw [ha, hb']
    rfl
  have h1 : nS { s with t := s.t % beatI s.ph } = nS s := rfl
  have h2 : wS { s with t := s.t % beatI s.ph } = wS s := rfl
  have h3 : nS { s with t := 0 } = nS s := rfl
  have h4 : wS { s with t := 0 } = wS s := rfl
  rw [h3] at hn
  rw [h3, h4] at h
  refine ⟨⟨?_, ?_⟩, ?_⟩
  · unfold pstep; rw [h1]; exact pos_mul (pow_pos' hn _) hA
  · unfold pstep; exact pos_mul (pow_pos' hn _) hA
  · unfold pstep
    rw [h1, h2]
    show Eqv (mulC (powC (wS s) (s.t % beatI s.ph).toNat) A.1) (nS s ^ (s.t % beatI s.ph).toNat * A.2) _ _
    rw [e]
    exact Eqv.mul h.2.symm (Eqv.refl _ _)
theorem pstep_zero {A : CM × Int} {s : Sec} (h : s.t = 0) : pstep A s = A := by
  unfold pstep
  rw [h]
  rw [Int.toNat_zero, Int.pow_zero, Int.one_mul, show powC (wS s) 0 = idC from rfl, id_mulC]
theorem prodL_pos : ∀ (ys : List Sec) (A : CM × Int), 1 ≤ A.2 → (∀ s ∈ ys, 1 ≤ nS s) → 1 ≤ (ys.foldl pstep A).2
  | [], A, h, _ => h
  | s :: ys, A, h, hs => prodL_pos ys _ (pos_mul (pow_pos' (hs s (by simp)) _) h) (fun z hz => hs z (by simp [hz]))
/-- A section whose direction and phase can be told. -/
def dirSec (s : Sec) : Prop := secOk { s with t := 0 } = true
theorem dirSec_of {s : Sec} (h : secOk s = true) : dirSec s := by
  unfold dirSec
  simp only [secOk, Bool.and_eq_true] at h ⊢
  exact ⟨h.1, by decide⟩
theorem dirSec_t {s : Sec} (h : dirSec s) (x : Int) : dirSec { s with t := x } := h
theorem dirSec_n {s : Sec} (h : dirSec s) : 1 ≤ nS s := nS_pos (s := { s with t := 0 }) h
theorem putS_same {out : List Sec} {s : Sec} (hs : dirSec s) (ho : ∀ z ∈ out, dirSec z) (ht : 0 ≤ s.t) : Same (prodL (putS out s)) (pstep (prodL out) s) := by
  have hp : 1 ≤ (prodL out).2 := prodL_pos out _ (by decide) (fun z hz => dirSec_n (ho z hz))
  have h := pstep_mod (A := prodL out) hs hp ht
  unfold putS
  split
  · rw [prodL_snoc]; exact h
  · rename_i hn
    have hz : s.t % beatI s.ph = 0 := by
      have := mod_bd s.t (beatI s.ph) (beatI_bd _).1 (beatI_bd _).2
      omega
    rwa [pstep_zero (s := { s with t := s.t % beatI s.ph }) hz] at h
theorem sameSec_eq {a b : Sec} (h : sameSec a b = true) : a.p = b.p ∧ a.q = b.q ∧ a.ph = b.ph := by
  simpa [sameSec] using h
theorem shortStep_same {out : List Sec} {s : Sec} (hs : dirSec s) (ho : ∀ z ∈ out, dirSec z) (hz : ∀ z ∈ out, small z) (ht : 0 ≤ s.t) : Same (prodL (shortStep out s)) (pstep (prodL out) s) := by
  unfold shortStep
  cases hl : out.getLast? with
  | none => exact putS_same hs ho ht
  | some l =>
    simp only []
    split
    · rename_i hsame
      obtain ⟨e1, e2, e3⟩ := sameSec_eq hsame
      have hm : l ∈ out := List.mem_of_getLast? hl
      have hlt := (hz l hm).1
      have hout : out = out.dropLast ++ [l] := by
        rw [List.getLast?_eq_some_iff] at hl
        obtain ⟨ys, rfl⟩ := hl
        simp
      have h1 := putS_same (out := out.dropLast) (s := { s with t := s.t + l.t }) (dirSec_t hs _) (fun z hz => ho z (List.dropLast_subset _ hz)) (by show 0 ≤ s.t + l.t; omega)
      have h2 : pstep (prodL out.dropLast) { s with t := s.t + l.t } = pstep (prodL out) s := by
        conv => rhs; rw [hout, prodL_snoc]
        have en : nS l = nS s := by unfold nS; rw [e1, e2]
        have ew : wS l = wS s := by unfold wS; rw [e1, e2, e3]
        have et : (s.t + l.t).toNat = s.t.toNat + l.t.toNat := by omega
        show (mulC (powC (wS s) (s.t + l.t).toNat) (prodL out.dropLast).1, nS s ^ (s.t + l.t).toNat * (prodL out.dropLast).2) = (mulC (powC (wS s) s.t.toNat) (mulC (powC (wS l) l.t.toNat) (prodL out.dropLast).1), nS s ^ s.t.toNat * (nS l ^ l.t.toNat * (prodL out.dropLast).2))
        rw [en, ew, et, powC_add, mulC_assoc, Int.pow_add, Int.mul_assoc]
      rwa [h2] at h1
    · exact putS_same hs ho ht
theorem putS_dir {out : List Sec} {s : Sec} (hs : dirSec s) (ho : ∀ z ∈ out, dirSec z) : ∀ z ∈ putS out s, dirSec z := by
  intro z hz
  unfold putS at hz
  split at hz
  · rcases List.mem_append.1 hz with hz | hz
    · exact ho z hz
    · simp only [List.mem_singleton] at hz
      subst hz
      exact hs
  · exact ho z hz
theorem step_dir {out : List Sec} {s : Sec} (hs : dirSec s) (ho : ∀ z ∈ out, dirSec z) : ∀ z ∈ shortStep out s, dirSec z := by
  unfold shortStep
  split
  · split
    · exact putS_dir (dirSec_t hs _) (fun z hz => ho z (List.dropLast_subset _ hz))
    · exact putS_dir hs ho
  · exact putS_dir hs ho
theorem fold_same : ∀ (ys out : List Sec) (A : CM × Int), (∀ s ∈ ys, secOk s = true) → (∀ z ∈ out, dirSec z) → (∀ z ∈ out, small z) → Same (prodL out) A → Same (prodL (ys.foldl shortStep out)) (ys.foldl pstep A)
  | [], out, A, _, _, _, h => h
  | s :: ys, out, A, hy, ho, hz, h => by
    have hs := hy s (by simp)
    have ht : 0 ≤ s.t := by
      simp only [secOk, Bool.and_eq_true, inB_iff] at hs
      exact hs.2.1
    have h1 := shortStep_same (dirSec_of hs) ho hz ht
    exact fold_same ys _ _ (fun z hz => hy z (by simp [hz])) (step_dir (dirSec_of hs) ho) (step_small hz) (h1.trans (h.step (dirSec_n (dirSec_of hs))))
theorem fibOk_all {xs : List Sec} (h : fibOk xs = true) : ∀ s ∈ xs, secOk s = true := by
  simp only [fibOk, Bool.and_eq_true] at h
  exact List.all_eq_true.1 h.1
theorem short_same {xs : List Sec} (h : fibOk xs = true) : Same (prodL (shortI xs)) (prodL xs) := by
  rw [shortI, if_pos h, shortK, List.take_length]
  exact fold_same xs [] (idC, 1) (fibOk_all h) (fun z hz => by cases hz) (fun z hz => by cases hz) (Same.refl (by decide))
/-- Where both matrices can be told they are the same. -/
theorem short_mat {xs : List Sec} {m n : Mt} (h : fibOk xs = true) (hm : fibMatI xs = some m) (hn : fibMatI (shortI xs) = some n) : m = n :=
  rc_uniq (fib_rc hm) (fib_rc hn) (short_same h).2.symm
end Go.Proofs.YtmaifiakjlbooaaDoor
