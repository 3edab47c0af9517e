/-
  A short fibre is short already. Plain arithmetic.
-/
import Derived.Test.YtmaifiakjlbooaaDoorVh
namespace Go.Proofs.YtmaifiakjlbooaaDoor
set_option linter.unusedSimpArgs false
set_option linter.unusedVariables false
open Go.RowKit
/-- Nothing of it can be drawn together, nothing falls away. -/
def Red (ys : List Sec) : Prop := (∀ z ∈ ys, 0 < z.t ∧ z.t % beatI z.ph = z.t) ∧ ∀ (i : Nat) (a b : Sec), ys[i]? = some a → ys[i + 1]? = some b → sameSec a b = false
theorem last_ix {ys : List Sec} {a b : Sec} {i : Nat} (h : ys[i]? = some a) (he : i + 1 = ys.length) : ys.getLast? = some a := by
  rw [List.getLast?_eq_getElem?, show ys.length - 1 = i by omega]
  exact h
theorem red_snoc {out : List Sec} {z : Sec} (h : Red out) (hl : ∀ l, out.getLast? = some l → sameSec l z = false) (ht : 0 < z.t) (hm : z.t % beatI z.ph = z.t) : Red (out ++ [z]) := by
  refine ⟨fun y hy => ?_, fun i a b ha hb => ?_⟩
  · rcases List.mem_append.1 hy with hy | hy
    · exact h.1 y hy
    · simp only [List.mem_singleton] at hy
      subst hy
      exact ⟨ht, hm⟩
  · have hi := (List.getElem?_eq_some_iff.1 hb).1
    rw [List.length_append, List.length_singleton] at hi
    rcases Nat.lt_or_ge (i + 1) out.length with hlt | hge
    · rw [List.getElem?_append_left (by omega)] at ha
      rw [List.getElem?_append_left hlt] at hb
      exact h.2 i a b ha hb
    · have he : i + 1 = out.length := by omega
      rw [List.getElem?_append_left (by omega)] at ha
      rw [List.getElem?_append_right hge, he, Nat.sub_self] at hb
      obtain rfl : z = b := by simpa using hb
      exact hl a (last_ix (b := z) ha he)
theorem red_take {ys : List Sec} (h : Red ys) (n : Nat) : Red (ys.take n) := by
  refine ⟨fun z hz => h.1 z (List.mem_of_mem_take hz), fun i a b ha hb => ?_⟩
  rw [List.getElem?_take] at ha hb
  split at hb
  · rw [if_pos (by omega)] at ha
    exact h.2 i a b ha hb
  · cases hb
theorem putS_red {out : List Sec} {s : Sec} (h : Red out) (hl : ∀ l, out.getLast? = some l → sameSec l s = false) : Red (putS out s) := by
  unfold putS
  split
  · rename_i ht
    exact red_snoc h hl ht (Int.emod_emod_of_dvd s.t (Int.dvd_refl _))
  · exact h
theorem sameSec_trans {a b c : Sec} (h : sameSec b c = true) : sameSec a c = sameSec a b := by
  obtain ⟨e1, e2, e3⟩ := sameSec_eq h
  simp only [sameSec, e1, e2, e3]
theorem step_red {out : List Sec} {s : Sec} (h : Red out) : Red (shortStep out s) := by
  unfold shortStep
  cases hl : out.getLast? with
  | none => exact putS_red h (fun l hl' => by rw [hl] at hl'; cases hl')
  | some l =>
    simp only []
    split
    · rename_i hsame
      rw [List.dropLast_eq_take]
      refine putS_red (red_take h _) (fun l' hl' => ?_)
      have hlen : 0 < out.length := by
        cases out with
        | nil => cases hl
        | cons _ _ => simp
      rw [List.getLast?_eq_getElem?, List.length_take, Nat.min_eq_left (by omega)] at hl'
      rw [List.getElem?_take] at hl'
      split at hl'
      · rename_i hlt
        have hb : out[out.length - 1 - 1 + 1]? = some l := by
          rw [show out.length - 1 - 1 + 1 = out.length - 1 by omega, ← List.getLast?_eq_getElem?]
          exact hl
        have := h.2 _ l' l hl' hb
        show sameSec l' s = false
        rw [sameSec_trans hsame]
        exact this
      · cases hl'
    · rename_i hsame
      exact putS_red h (fun l' hl' => by rw [hl] at hl'; obtain rfl := Option.some.inj hl'; simpa using hsame)
theorem fold_red : ∀ (ys out : List Sec), Red out → Red (ys.foldl shortStep out)
  | [], _, h => h
  | _ :: ys, _, h => fold_red ys _ (step_red h)
theorem fold_dir : ∀ (ys out : List Sec), (∀ s ∈ ys, dirSec s) → (∀ z ∈ out, dirSec z) → ∀ z ∈ ys.foldl shortStep out, dirSec z
  | [], _, _, h => h
  | s :: ys, out, hy, ho => fold_dir ys _ (fun z hz => hy z (by simp [hz])) (step_dir (hy s (by simp)) ho)
theorem shortK_red (ys : List Sec) (h : Red ys) : ∀ k, k ≤ ys.length → shortK ys k = ys.take k
  | 0, _ => by simp [shortK]
  | k + 1, hk => by
    have hs : ys[k]? = some (ys[k]'(by omega)) := List.getElem?_eq_getElem _
    rw [shortK_succ hs, shortK_red ys h k (by omega), List.take_add_one, hs]
    have hst := h.1 (ys[k]'(by omega)) (List.getElem_mem _)
    rw [step_put]
    · have hp : 0 < (ys[k]'(by omega)).t % beatI (ys[k]'(by omega)).ph := by rw [hst.2]; exact hst.1
      rw [putS_pos hp, hst.2]
      rfl
    · rcases Nat.eq_zero_or_pos k with h0 | h0
      · left; subst h0; simp
      · right
        have ha : ys[k - 1]? = some (ys[k - 1]'(by omega)) := List.getElem?_eq_getElem _
        refine ⟨ys[k - 1]'(by omega), ?_, h.2 (k - 1) _ _ ha (by rw [show k - 1 + 1 = k by omega]; exact hs)⟩
        rw [List.getLast?_eq_getElem?, List.length_take, Nat.min_eq_left (by omega), List.getElem?_take, if_pos (by omega)]
        exact ha
theorem shortI_ok {xs : List Sec} (h : fibOk xs = true) : fibOk (shortI xs) = true := by
  have e : shortI xs = xs.foldl shortStep [] := by rw [shortI, if_pos h, shortK, List.take_length]
  have hd := fold_dir xs [] (fun s hs => dirSec_of (fibOk_all h s hs)) (fun z hz => by cases hz)
  have hsm := shortK_small xs xs.length
  have hl : (shortI xs).length ≤ 8 := by
    rw [shortI, if_pos h]
    exact Nat.le_trans (shortK_len _ _) (fibOk_len h)
  rw [← e] at hd
  have e2 : shortI xs = shortK xs xs.length := by rw [shortI, if_pos h]
  rw [← e2] at hsm
  simp only [fibOk, Bool.and_eq_true, decide_eq_true_eq]
  refine ⟨List.all_eq_true.2 fun z hz => ?_, hl⟩
  have h1 := hd z hz
  have h2 := hsm z hz
  unfold dirSec at h1
  simp only [secOk, Bool.and_eq_true, inB_iff] at h1 ⊢
  exact ⟨h1.1, by have := h2.1; have := h2.2; omega⟩
theorem short_short {xs : List Sec} (h : fibOk xs = true) : shortI (shortI xs) = shortI xs := by
  have hr : Red (shortI xs) := by
    rw [shortI, if_pos h, shortK, List.take_length]
    exact fold_red xs [] ⟨fun z hz => (by cases hz), fun i a b ha _ => (by simp at ha)⟩
  have hu : ∀ ys, fibOk ys = true → shortI ys = shortK ys ys.length := fun ys hy => by rw [shortI, if_pos hy]
  rw [hu (shortI xs) (shortI_ok h), shortK_red _ hr _ (Nat.le_refl _), List.take_length]
theorem short_len {xs : List Sec} (h : fibOk xs = true) : (shortI xs).length ≤ xs.length := by
  rw [shortI, if_pos h]
  exact shortK_len _ _
end Go.Proofs.YtmaifiakjlbooaaDoor
