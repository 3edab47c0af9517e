/-
  MeterTurn in plain Lean: what fails early fails late, four numbers turned stay real.
-/
import Derived.Test.YtalcjmefmffcnaaDoorTx
namespace Go.Proofs.YtalcjmefmffcnaaDoor
set_option linter.unusedSimpArgs false
set_option linter.unusedVariables false
open Go.RowKit
theorem trn_none_step {r t : List Fr} {m : Mt} {k : Nat} (h : trnI r t m k = none) : trnI r t m (k + 1) = none := by
  rw [trnI, h]; rfl
theorem trn_none {r t : List Fr} {m : Mt} {k : Nat} (h : trnI r t m k = none) : ∀ n, k ≤ n → trnI r t m n = none
  | 0, hn => by obtain rfl : k = 0 := by omega
                exact h
  | n + 1, hn => by
    rcases Nat.lt_or_ge k (n + 1) with h1 | h1
    · exact trn_none_step (trn_none h n (by omega))
    · obtain rfl : k = n + 1 := by omega
      exact h
theorem trn_tap {r t : List Fr} {m : Mt} {k : Nat} (h : tvI t m k = none) {n : Nat} (hn : k < n) : trnI r t m n = none := by
  refine trn_none (k := k + 1) ?_ n hn
  rw [trnI, h]
  cases trnI r t m k <;> rfl
theorem trn_bad {r t : List Fr} {m v : Mt} {k : Nat} (h : tvI t m k = some v) (hb : (rdI r v).2 = true) {n : Nat} (hn : k < n) : trnI r t m n = none := by
  refine trn_none (k := k + 1) ?_ n hn
  rw [trnI, h]
  cases trnI r t m k
  · rfl
  · rw [Option.bind_some, Option.bind_some, hb]; rfl
theorem trn_go {r t L : List Fr} {m v : Mt} {k : Nat} (hL : trnI r t m k = some L) (h : tvI t m k = some v) (hb : (rdI r v).2 = false) : trnI r t m (k + 1) = some (L ++ [(rdI r v).1]) := by
  rw [trnI, hL, h, Option.bind_some, Option.bind_some, hb]; rfl
theorem trn_len {r t L : List Fr} {m : Mt} : ∀ {k : Nat}, trnI r t m k = some L → L.length = k := fun h => (turn_first h).1
theorem tv_real {t : List Fr} {m : Mt} (ht : t.length = 16) (hm : mreal m = true) : ∀ {k : Nat} {v : Mt}, tvI t m k = some v → mreal v = true
  | 0, v, h => by obtain rfl := Option.some.inj h; exact hm
  | k + 1, v, h => by
    rw [tvI] at h
    cases hk : tvI t m k with
    | none => rw [hk] at h; cases h
    | some u => rw [hk, Option.bind_some] at h; exact (tap_q ht h).2.2.1
/-- The reference's readings of turned numbers are the program's. -/
theorem rd_turn {s : Sta} {v : Mt} (hs : rowOk s = true) (hv : mreal v = true) : (rdS (rowG s) v).2 = (rdI (rowG s) v).2 ∧ ((rdI (rowG s) v).2 = false → (rdS (rowG s) v).1 = (rdI (rowG s) v).1) := by
  obtain ⟨h1, h2⟩ := rd_eq (r := rowG s) (m := v) (lrow_real hs) hv
  exact ⟨h1.symm, fun h => (h2 h).1.symm⟩
/-- When MeterTurn fails ahead of its loop, and what it does else. -/
theorem turnM_range {m : Mt} {fr st : Sta} {n : Int} (h : inB n 0 16 = false) : turnM m fr st n = none := by simp [turnM, h]
theorem turnM_real {m : Mt} {fr st : Sta} {n : Int} (h : mreal m = false) : turnM m fr st n = none := by simp [turnM, h]
theorem turnM_row {m : Mt} {fr st : Sta} {n : Int} (h : rowOk fr = false) : turnM m fr st n = none := by
  have : rowI fr = none := by simpa [rowOk] using h
  simp [turnM, this]
theorem turnM_dir {m : Mt} {fr st : Sta} {n : Int} (h : dirOk st.p st.q = false) : turnM m fr st n = none := by
  unfold turnM
  split
  · cases rowI fr <;> simp [backM, h]
  · rfl
theorem turnM_back {m : Mt} {fr st : Sta} {n : Int} (h : madjI (rotM st.p st.q) = none) : turnM m fr st n = none := by
  unfold turnM
  split
  · cases rowI fr <;> simp [backM, h]
  · rfl
theorem turnM_tab {m : Mt} {fr st : Sta} {n : Int} (h : tabM (adjR st.p st.q) = none) : turnM m fr st n = none := by
  unfold turnM
  split
  · cases hr : rowI fr with
    | none => rfl
    | some r =>
      rw [Option.bind_some]
      cases hb : backM st.p st.q with
      | none => rfl
      | some b =>
        rw [Option.bind_some]
        unfold backM at hb
        split at hb
        · rw [adjR, hb, Option.getD_some] at h
          rw [h]; rfl
        · cases hb
  · rfl
theorem turnM_go {m : Mt} {fr st : Sta} {n : Int} {t : List Fr} (h1 : inB n 0 16 = true) (h2 : mreal m = true) (h3 : rowOk fr = true) (h4 : dirOk st.p st.q = true) (h5 : (madjI (rotM st.p st.q)).isSome = true) (h6 : tabM (adjR st.p st.q) = some t) :
    turnM m fr st n = trnI (rowG fr) t m n.toNat := by
  unfold rowOk at h3
  obtain ⟨r, hr⟩ := Option.isSome_iff_exists.1 h3
  obtain ⟨b, hb⟩ := Option.isSome_iff_exists.1 h5
  rw [adjR, hb, Option.getD_some] at h6
  simp only [turnM, h1, h2, Bool.and_self, if_true, hr, Option.bind_some, backM, h4, hb, h6, rowG, Option.getD_some]
end Go.Proofs.YtalcjmefmffcnaaDoor
