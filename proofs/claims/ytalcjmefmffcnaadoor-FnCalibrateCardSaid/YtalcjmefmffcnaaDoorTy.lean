/-
  Squares of rows, calibrated rows: plain Lean.
-/
import Derived.Test.YtalcjmefmffcnaaDoorTx
import Derived.Test.YtalcjmefmffcnaaDoorKn
namespace Go.Proofs.YtalcjmefmffcnaaDoor
set_option linter.unusedSimpArgs false
set_option linter.unusedVariables false
open Go.RowKit
theorem sqr_law {s : Sta} {x0 x1 x2 x3 : Fr} (h : rowI s = some [x0, x1, x2, x3]) (hb : (dotS (sqr3 x1 x2 x3) (sqr3 x1 x2 x3) 3).2 = false) : (dotS (sqr3 x1 x2 x3) (sqr3 x1 x2 x3) 3).1 = ⟨1, 0, 4⟩ := by
  obtain ⟨-, hq⟩ := row_law h
  have hr := (row_some h).2
  have hs : ∀ k, k < 3 → realOk (sqr3 x1 x2 x3 k) = true := fun k hk => match k, hk with
    | 0, _ => hr x1 (by simp)
    | 1, _ => hr x2 (by simp)
    | 2, _ => hr x3 (by simp)
  obtain ⟨d1, d2⟩ := dot_eq (r := sqr3 x1 x2 x3) (c := sqr3 x1 x2 x3) 3 hs hs
  rw [hb] at d1
  obtain ⟨e1, e2⟩ := d2 d1 (by omega)
  obtain ⟨q1, q2⟩ := dot_q (r := sqr3 x1 x2 x3) (c := sqr3 x1 x2 x3) 3 hs hs d1 (by omega)
  rw [← e1]
  refine q_uniq q2 (by decide) ?_
  rw [q1]
  have h4 : qr ⟨1, 0, 4⟩ = 1 / 4 := by unfold qr; rfl
  rw [h4, ← hq]
  show 0 + qr x1 * qr x1 + qr x2 * qr x2 + qr x3 * qr x3 = _
  rw [Rat.zero_add]
theorem list4 {α : Type} {l : List α} (h : l.length = 4) : ∃ a b c d, l = [a, b, c, d] := by
  match l, h with
  | [a, b, c, d], _ => exact ⟨a, b, c, d, rfl⟩
/-- Calibrated rows make the readings. -/
theorem cal_law {ks : List Mt} {rs out : List Fr} (h : calI ks rs = some out) : ks.length = 4 ∧ rs.length = 4 ∧ out.length = 4 ∧ ∀ (i : Nat) (k : Mt), ks[i]? = some k → (dotS (lrow out) (mrow k) 4).2 = false → rs[i]? = some (dotS (lrow out) (mrow k) 4).1 := by
  unfold calI at h
  split at h
  · rename_i hv
    have hl : ks.length = 4 ∧ rs.length = 4 := by
      unfold solI at h
      split at h
      · rename_i hc; simp only [Bool.and_eq_true, decide_eq_true_eq, List.length_map] at hc; exact hc.2
      · cases h
    obtain ⟨k0, k1, k2, k3, rfl⟩ := list4 hl.1
    obtain ⟨y, u, v, x, rfl⟩ := list4 hl.2
    · clear hl
      simp only [List.all_cons, List.all_nil, Bool.and_true, Bool.and_eq_true] at hv
      obtain ⟨v0, v1, v2, v3⟩ := hv
      have hall : ∀ m ∈ [k0, k1, k2, k3], mreal m = true := fun m hm => by
        simp only [List.mem_cons, List.not_mem_nil, or_false] at hm
        rcases hm with rfl | rfl | rfl | rfl <;> assumption
      simp only [mreal, Bool.and_eq_true] at v0 v1 v2 v3
      simp only [List.map_cons, List.map_nil, row4] at h
      have hreals : _ := And.intro v0.1 (And.intro v0.2.1 (And.intro v0.2.2.1 (And.intro v0.2.2.2 (And.intro v1.1 (And.intro v1.2.1 (And.intro v1.2.2.1 (And.intro v1.2.2.2 (And.intro v2.1 (And.intro v2.2.1 (And.intro v2.2.2.1 (And.intro v2.2.2.2 (And.intro v3.1 (And.intro v3.2.1 (And.intro v3.2.2.1 v3.2.2.2))))))))))))))
      obtain ⟨ry, ru, rv, rx, -⟩ := sol_q hreals h
      obtain ⟨x0, x1, x2, x3, rfl, r0, r1, r2, r3, w0, w1, w2, w3⟩ := sol_rows hreals h
      refine ⟨rfl, rfl, rfl, fun i k hk hb => ?_⟩
      have hm := hall k (List.mem_of_getElem? hk)
      have hs : ∀ j, j < 4 → realOk (lrow [x0, x1, x2, x3] j) = true := fun j hj => match j, hj with
        | 0, _ => r0
        | 1, _ => r1
        | 2, _ => r2
        | 3, _ => r3
      obtain ⟨d1, d2⟩ := dot_eq (r := lrow [x0, x1, x2, x3]) (c := mrow k) 4 hs (mrow_real hm)
      rw [hb] at d1
      obtain ⟨e1, e2⟩ := d2 d1 (by omega)
      obtain ⟨q1, q2⟩ := rd_q (r := [x0, x1, x2, x3]) hs hm d1
      rw [← e1]
      have e : (dotI (lrow [x0, x1, x2, x3]) (mrow k) 4).1 = (rdI [x0, x1, x2, x3] k).1 := rfl
      rw [e]
      have hi : i < 4 := (List.getElem?_eq_some_iff.1 hk).1
      have l0 : lrow [x0, x1, x2, x3] 0 = x0 := rfl
      have l1 : lrow [x0, x1, x2, x3] 1 = x1 := rfl
      have l2 : lrow [x0, x1, x2, x3] 2 = x2 := rfl
      have l3 : lrow [x0, x1, x2, x3] 3 = x3 := rfl
      rw [l0, l1, l2, l3] at q1
      match i, hi, hk with
      | 0, _, hk =>
        obtain rfl := Option.some.inj hk
        exact congrArg some (q_uniq ry q2 (by rw [q1, ← w0]; grind))
      | 1, _, hk =>
        obtain rfl := Option.some.inj hk
        exact congrArg some (q_uniq ru q2 (by rw [q1, ← w1]; grind))
      | 2, _, hk =>
        obtain rfl := Option.some.inj hk
        exact congrArg some (q_uniq rv q2 (by rw [q1, ← w2]; grind))
      | 3, _, hk =>
        obtain rfl := Option.some.inj hk
        exact congrArg some (q_uniq rx q2 (by rw [q1, ← w3]; grind))
  · cases h
end Go.Proofs.YtalcjmefmffcnaaDoor
