/-
  The walk of the program's comparison of fractions.
-/
import Derived.Test.YtjbnkefeacineaaGreatDoorJh
import Derived.Test.YtjbnkefeacineaaGreatDoorBo
import Derived.Test.YtjbnkefeacineaaGreatDoorJg
import Derived.Deep.WholeRow
import Derived.Deep.Cut
import Derived.Lib.Hide
namespace Go.Proofs.YtjbnkefeacineaaGreatDoor
set_option linter.unusedSimpArgs false
set_option linter.unusedVariables false
open Go.RowKit
attribute [local go_sem ↓] Go.wp_at_zero Go.wp_at_succ
theorem mul_bdC {x y : Int} (hx : -2000000000 ≤ x ∧ x ≤ 2000000000) (hy : 1 ≤ y ∧ y ≤ 2000000000) : -4000000000000000000 ≤ x * y ∧ x * y ≤ 4000000000000000000 := by
  have h1 := Int.mul_le_mul_of_nonneg_right hx.2 (show (0 : Int) ≤ y by omega)
  have h2 := Int.mul_le_mul_of_nonneg_right hx.1 (show (0 : Int) ≤ y by omega)
  omega
set_option maxRecDepth 100000 in
set_option maxHeartbeats 8000000 in
theorem compare_any (a b : Fr) (w : World) :
    Calls Tryz.prog 16 #[frv a, frv b] w fun e w' => e = .returned (.tuple #[.int .i64 ((cmpI a b).getD 0), .bool (cmpI a b).isSome]) ∧ Below w.heap.size w w' := by
  have e0 : ∀ W, Blk W w.heap.size (frc a) 24 → Blk W (w.heap.size + 1) (frc b) 24 → True := fun _ _ _ => trivial
  obtain ⟨W0, hW0, hP, hQ, hB⟩ : ∃ W, W = (w.alloc (.cells #[.int .i64 a.re, .int .i64 a.im, .int .i64 a.den] 24)).alloc (.cells #[.int .i64 b.re, .int .i64 b.im, .int .i64 b.den] 24) ∧ Blk W w.heap.size (frc a) 24 ∧ Blk W (w.heap.size + 1) (frc b) 24 ∧ Below w.heap.size w W := by
    refine ⟨_, rfl, (Below.heap_alloc _ _ _ (by simp)).trans (heap_alloc_last w _), ?_, by exact below_⟩
    have := heap_alloc_last (w.alloc (.cells #[.int .i64 a.re, .int .i64 a.im, .int .i64 a.den] 24)) (.cells #[.int .i64 b.re, .int .i64 b.im, .int .i64 b.den] 24)
    rwa [World.size_alloc] at this
  clear e0
  obtain ⟨x0, x1, x2⟩ := blk_fr0 hP
  cases ha : realOk a
  · have e : cmpI a b = none := by simp [cmpI, ha]
    rw [e]
    have HA := Lib.hid ha
    clear e ha
    go_enter Tryz.func16, Tryz.ntmps16
    go_upto_region 1 with fail
    rw [← hW0]
    clear hW0
    go_wp2_with (first | (go_at_call 48; (with_reducible refine (realOk_any a _).mono ?_); rw [HA.out]; rintro e w1 ⟨rfl, hb⟩; have hB := bstep hB hb hB.size; clear hb))
    go_ret2
    exact ⟨rfl, hB⟩
  cases hb : realOk b
  · have e : cmpI a b = none := by simp [cmpI, hb]
    rw [e]
    have HA := Lib.hid ha
    have HB := Lib.hid hb
    clear e ha hb
    go_enter Tryz.func16, Tryz.ntmps16
    go_upto_region 1 with fail
    rw [← hW0]
    clear hW0
    go_wp2_with (first | (go_at_call 48; (with_reducible refine (realOk_any a _).mono ?_); rw [HA.out]; rintro e w1 ⟨rfl, hb⟩; have hP := (hb.block _ (blk_lt hP)).trans hP; have hQ := (hb.block _ (blk_lt hQ)).trans hQ; have hB := bstep hB hb hB.size; obtain ⟨x0, x1, x2⟩ := blk_fr0 hP; obtain ⟨y0, y1, y2⟩ := blk_fr0 hQ; clear hb) | (go_at_call 48; (with_reducible refine (realOk_any b _).mono ?_); rw [HB.out]; rintro e w2 ⟨rfl, hb⟩; have hP := (hb.block _ (blk_lt hP)).trans hP; have hQ := (hb.block _ (blk_lt hQ)).trans hQ; have hB := bstep hB hb hB.size; obtain ⟨x0, x1, x2⟩ := blk_fr0 hP; obtain ⟨y0, y1, y2⟩ := blk_fr0 hQ; clear hb))
    go_ret2
    exact ⟨rfl, hB⟩
  have e : cmpI a b = some (cmpS (a.re * b.den - b.re * a.den)) := by simp [cmpI, ha, hb]
  rw [e]
  have a1 := fvalid_bd a (real_parts ha).1
  have b1 := fvalid_bd b (real_parts hb).1
  have m1 := mul_bdC a1.1 b1.2.2
  have m2 := mul_bdC b1.1 a1.2.2
  have hw1 : IntKind.i64.wrap (a.re * b.den) = a.re * b.den := IntWalk.i64_in _ (by omega)
  have hw2 : IntKind.i64.wrap (b.re * a.den) = b.re * a.den := IntWalk.i64_in _ (by omega)
  have hw3 : IntKind.i64.wrap (a.re * b.den - b.re * a.den) = a.re * b.den - b.re * a.den := IntWalk.i64_in _ (by omega)
  have hw4 : wrap64 (a.re * b.den - b.re * a.den) = a.re * b.den - b.re * a.den := by unfold wrap64; omega
  have HA := Lib.hid ha
  have HB := Lib.hid hb
  obtain ⟨d, hd⟩ : ∃ d, d = a.re * b.den - b.re * a.den := ⟨_, rfl⟩
  rw [← hd] at hw3 hw4 ⊢
  have HD := Lib.hid hd
  clear e ha hb a1 b1 m1 m2 hd
  go_enter Tryz.func16, Tryz.ntmps16
  go_upto_region 1 with fail
  rw [← hW0]
  clear hW0
  have HW4 := Lib.hid hw4
  clear hw4
  go_upto_region 4 with (first | (go_at_call 48; (with_reducible refine (realOk_any a _).mono ?_); rw [HA.out]; rintro e w1 ⟨rfl, hb⟩; have hP := (hb.block _ (blk_lt hP)).trans hP; have hQ := (hb.block _ (blk_lt hQ)).trans hQ; have hB := bstep hB hb hB.size; obtain ⟨x0, x1, x2⟩ := blk_fr0 hP; obtain ⟨y0, y1, y2⟩ := blk_fr0 hQ; clear hb) | (go_at_call 48; (with_reducible refine (realOk_any b _).mono ?_); rw [HB.out]; rintro e w2 ⟨rfl, hb⟩; have hP := (hb.block _ (blk_lt hP)).trans hP; have hQ := (hb.block _ (blk_lt hQ)).trans hQ; have hB := bstep hB hb hB.size; obtain ⟨x0, x1, x2⟩ := blk_fr0 hP; obtain ⟨y0, y1, y2⟩ := blk_fr0 hQ; clear hb))
  have hw4 := HW4.out
  clear HW4
  rw [← HD.out, hw4]
  clear hw1 hw2 hw3 hw4 HD x0 x1 x2 y0 y1 y2
  by_cases h1 : d < 0
  · have e : cmpS d = -1 := by unfold cmpS; rw [if_pos h1]
    have HE := Lib.hid e
    clear e
    go_wp2
    go_ret2
    exact ⟨by rw [HE.out]; rfl, hB⟩
  by_cases h2 : 0 < d
  · have e : cmpS d = 1 := by unfold cmpS; rw [if_neg h1, if_pos h2]
    have HE := Lib.hid e
    clear e
    go_wp2
    go_ret2
    exact ⟨by rw [HE.out]; rfl, hB⟩
  have e : cmpS d = 0 := by unfold cmpS; rw [if_neg h1, if_neg h2]
  have HE := Lib.hid e
  clear e
  go_wp2
  go_ret2
  exact ⟨by rw [HE.out]; rfl, hB⟩
end Go.Proofs.YtjbnkefeacineaaGreatDoor
