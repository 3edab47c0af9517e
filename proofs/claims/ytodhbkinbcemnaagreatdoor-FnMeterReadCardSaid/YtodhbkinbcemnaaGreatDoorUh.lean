/-
  The walks of the reference's l6tOf, l6tRow and TableValid.
-/
import Derived.Test.YtodhbkinbcemnaaGreatDoorUg
import Derived.Test.YtodhbkinbcemnaaGreatDoorTx
import Derived.BigRegion
namespace Go.Proofs.YtodhbkinbcemnaaGreatDoor
set_option linter.unusedSimpArgs false
set_option linter.unusedVariables false
open Go.RowKit
attribute [local go_sem ↓] Go.wp_at_zero Go.wp_at_succ
/-- A row of a table. -/
def rowT (a : List Fr) (i : Nat) : List Fr := [a.getD (4 * i) zK, a.getD (4 * i + 1) zK, a.getD (4 * i + 2) zK, a.getD (4 * i + 3) zK]
set_option maxRecDepth 100000 in
set_option maxHeartbeats 4000000 in
theorem y_of0 (a : List Fr) (ha : a.length = 16) (w : World) : Calls Tryz.prog 70 #[.agg (tbc a), .int .i64 0] w fun e w' => e = .returned (.agg (tbc (rowT a 0))) ∧ Below w.heap.size w w' := by
  have hT : TbIs (w.alloc (.cells (tbc a) 44)) w.heap.size a := TbIs.new w a
  have g0 := hT.get (i := 0) (by omega)
  have g1 := hT.get (i := 1) (by omega)
  have g2 := hT.get (i := 2) (by omega)
  have g3 := hT.get (i := 3) (by omega)
  obtain ⟨x0, x1, x2, x3, hx, g0, g1, g2, g3⟩ : ∃ x0 x1 x2 x3 : Fr, rowT a 0 = [x0, x1, x2, x3] ∧ FAt (w.alloc (.cells (tbc a) 44)) w.heap.size (0 * 3) x0 ∧ FAt (w.alloc (.cells (tbc a) 44)) w.heap.size (1 * 3) x1 ∧ FAt (w.alloc (.cells (tbc a) 44)) w.heap.size (2 * 3) x2 ∧ FAt (w.alloc (.cells (tbc a) 44)) w.heap.size (3 * 3) x3 := ⟨_, _, _, _, rfl, g0, g1, g2, g3⟩
  rw [hx]
  clear hx hT
  obtain ⟨c0, c1, c2⟩ := g0
  obtain ⟨c3, c4, c5⟩ := g1
  obtain ⟨c6, c7, c8⟩ := g2
  obtain ⟨c9, c10, c11⟩ := g3
  simp only [Nat.reduceMul, Nat.reduceAdd, Nat.zero_add, Nat.zero_mul] at c0 c1 c2 c3 c4 c5 c6 c7 c8 c9 c10 c11
  have q0 : IntKind.i64.wrap 0 = 0 := by decide
  have q1 : IntKind.i64.wrap 1 = 1 := by decide
  have q2 : IntKind.i64.wrap 2 = 2 := by decide
  have q3 : IntKind.i64.wrap 3 = 3 := by decide
  go_enter Tryz.func70, Tryz.ntmps70
  go_upto_region 1 with fail
  go_region_held3 (fun w' => w'.cell? ⟨w.heap.size, 0, none⟩ = some (.int .i64 x0.re) ∧ w'.cell? ⟨w.heap.size, 1, none⟩ = some (.int .i64 x0.im) ∧ w'.cell? ⟨w.heap.size, 2, none⟩ = some (.int .i64 x0.den) ∧ w'.cell? ⟨w.heap.size, 3, none⟩ = some (.int .i64 x1.re) ∧ w'.cell? ⟨w.heap.size, 4, none⟩ = some (.int .i64 x1.im) ∧ w'.cell? ⟨w.heap.size, 5, none⟩ = some (.int .i64 x1.den) ∧ w'.cell? ⟨w.heap.size, 6, none⟩ = some (.int .i64 x2.re) ∧ w'.cell? ⟨w.heap.size, 7, none⟩ = some (.int .i64 x2.im) ∧ w'.cell? ⟨w.heap.size, 8, none⟩ = some (.int .i64 x2.den) ∧ w'.cell? ⟨w.heap.size, 9, none⟩ = some (.int .i64 x3.re) ∧ w'.cell? ⟨w.heap.size, 10, none⟩ = some (.int .i64 x3.im) ∧ w'.cell? ⟨w.heap.size, 11, none⟩ = some (.int .i64 x3.den)) ((first | go_keep | (simp [go_sem, *]; done))) (fail)
  all_goals (try go_wp2)
  all_goals exact bodyPost_ret (v := .agg (tbc [x0, x1, x2, x3])) (by simp [results, Tryz.results70, go_sem, tbc, rowF, fracL, *]) rfl ⟨rfl, by exact below_⟩
set_option maxRecDepth 100000 in
set_option maxHeartbeats 4000000 in
theorem y_of1 (a : List Fr) (ha : a.length = 16) (w : World) : Calls Tryz.prog 70 #[.agg (tbc a), .int .i64 1] w fun e w' => e = .returned (.agg (tbc (rowT a 1))) ∧ Below w.heap.size w w' := by
  have hT : TbIs (w.alloc (.cells (tbc a) 44)) w.heap.size a := TbIs.new w a
  have g0 := hT.get (i := 4) (by omega)
  have g1 := hT.get (i := 5) (by omega)
  have g2 := hT.get (i := 6) (by omega)
  have g3 := hT.get (i := 7) (by omega)
  obtain ⟨x0, x1, x2, x3, hx, g0, g1, g2, g3⟩ : ∃ x0 x1 x2 x3 : Fr, rowT a 1 = [x0, x1, x2, x3] ∧ FAt (w.alloc (.cells (tbc a) 44)) w.heap.size (4 * 3) x0 ∧ FAt (w.alloc (.cells (tbc a) 44)) w.heap.size (5 * 3) x1 ∧ FAt (w.alloc (.cells (tbc a) 44)) w.heap.size (6 * 3) x2 ∧ FAt (w.alloc (.cells (tbc a) 44)) w.heap.size (7 * 3) x3 := ⟨_, _, _, _, rfl, g0, g1, g2, g3⟩
  rw [hx]
  clear hx hT
  obtain ⟨c0, c1, c2⟩ := g0
  obtain ⟨c3, c4, c5⟩ := g1
  obtain ⟨c6, c7, c8⟩ := g2
  obtain ⟨c9, c10, c11⟩ := g3
  simp only [Nat.reduceMul, Nat.reduceAdd, Nat.zero_add, Nat.zero_mul] at c0 c1 c2 c3 c4 c5 c6 c7 c8 c9 c10 c11
  have q4 : IntKind.i64.wrap 4 = 4 := by decide
  have q5 : IntKind.i64.wrap 5 = 5 := by decide
  have q6 : IntKind.i64.wrap 6 = 6 := by decide
  have q7 : IntKind.i64.wrap 7 = 7 := by decide
  go_enter Tryz.func70, Tryz.ntmps70
  go_upto_region 1 with fail
  go_region_held3 (fun w' => w'.cell? ⟨w.heap.size, 12, none⟩ = some (.int .i64 x0.re) ∧ w'.cell? ⟨w.heap.size, 13, none⟩ = some (.int .i64 x0.im) ∧ w'.cell? ⟨w.heap.size, 14, none⟩ = some (.int .i64 x0.den) ∧ w'.cell? ⟨w.heap.size, 15, none⟩ = some (.int .i64 x1.re) ∧ w'.cell? ⟨w.heap.size, 16, none⟩ = some (.int .i64 x1.im) ∧ w'.cell? ⟨w.heap.size, 17, none⟩ = some (.int .i64 x1.den) ∧ w'.cell? ⟨w.heap.size, 18, none⟩ = some (.int .i64 x2.re) ∧ w'.cell? ⟨w.heap.size, 19, none⟩ = some (.int .i64 x2.im) ∧ w'.cell? ⟨w.heap.size, 20, none⟩ = some (.int .i64 x2.den) ∧ w'.cell? ⟨w.heap.size, 21, none⟩ = some (.int .i64 x3.re) ∧ w'.cell? ⟨w.heap.size, 22, none⟩ = some (.int .i64 x3.im) ∧ w'.cell? ⟨w.heap.size, 23, none⟩ = some (.int .i64 x3.den)) ((first | go_keep | (simp [go_sem, *]; done))) (fail)
  all_goals (try go_wp2)
  all_goals exact bodyPost_ret (v := .agg (tbc [x0, x1, x2, x3])) (by simp [results, Tryz.results70, go_sem, tbc, rowF, fracL, *]) rfl ⟨rfl, by exact below_⟩
set_option maxRecDepth 100000 in
set_option maxHeartbeats 4000000 in
theorem y_of2 (a : List Fr) (ha : a.length = 16) (w : World) : Calls Tryz.prog 70 #[.agg (tbc a), .int .i64 2] w fun e w' => e = .returned (.agg (tbc (rowT a 2))) ∧ Below w.heap.size w w' := by
  have hT : TbIs (w.alloc (.cells (tbc a) 44)) w.heap.size a := TbIs.new w a
  have g0 := hT.get (i := 8) (by omega)
  have g1 := hT.get (i := 9) (by omega)
  have g2 := hT.get (i := 10) (by omega)
  have g3 := hT.get (i := 11) (by omega)
  obtain ⟨x0, x1, x2, x3, hx, g0, g1, g2, g3⟩ : ∃ x0 x1 x2 x3 : Fr, rowT a 2 = [x0, x1, x2, x3] ∧ FAt (w.alloc (.cells (tbc a) 44)) w.heap.size (8 * 3) x0 ∧ FAt (w.alloc (.cells (tbc a) 44)) w.heap.size (9 * 3) x1 ∧ FAt (w.alloc (.cells (tbc a) 44)) w.heap.size (10 * 3) x2 ∧ FAt (w.alloc (.cells (tbc a) 44)) w.heap.size (11 * 3) x3 := ⟨_, _, _, _, rfl, g0, g1, g2, g3⟩
  rw [hx]
  clear hx hT
  obtain ⟨c0, c1, c2⟩ := g0
  obtain ⟨c3, c4, c5⟩ := g1
  obtain ⟨c6, c7, c8⟩ := g2
  obtain ⟨c9, c10, c11⟩ := g3
  simp only [Nat.reduceMul, Nat.reduceAdd, Nat.zero_add, Nat.zero_mul] at c0 c1 c2 c3 c4 c5 c6 c7 c8 c9 c10 c11
  have q8 : IntKind.i64.wrap 8 = 8 := by decide
  have q9 : IntKind.i64.wrap 9 = 9 := by decide
  have q10 : IntKind.i64.wrap 10 = 10 := by decide
  have q11 : IntKind.i64.wrap 11 = 11 := by decide
  go_enter Tryz.func70, Tryz.ntmps70
  go_upto_region 1 with fail
  go_region_held3 (fun w' => w'.cell? ⟨w.heap.size, 24, none⟩ = some (.int .i64 x0.re) ∧ w'.cell? ⟨w.heap.size, 25, none⟩ = some (.int .i64 x0.im) ∧ w'.cell? ⟨w.heap.size, 26, none⟩ = some (.int .i64 x0.den) ∧ w'.cell? ⟨w.heap.size, 27, none⟩ = some (.int .i64 x1.re) ∧ w'.cell? ⟨w.heap.size, 28, none⟩ = some (.int .i64 x1.im) ∧ w'.cell? ⟨w.heap.size, 29, none⟩ = some (.int .i64 x1.den) ∧ w'.cell? ⟨w.heap.size, 30, none⟩ = some (.int .i64 x2.re) ∧ w'.cell? ⟨w.heap.size, 31, none⟩ = some (.int .i64 x2.im) ∧ w'.cell? ⟨w.heap.size, 32, none⟩ = some (.int .i64 x2.den) ∧ w'.cell? ⟨w.heap.size, 33, none⟩ = some (.int .i64 x3.re) ∧ w'.cell? ⟨w.heap.size, 34, none⟩ = some (.int .i64 x3.im) ∧ w'.cell? ⟨w.heap.size, 35, none⟩ = some (.int .i64 x3.den)) ((first | go_keep | (simp [go_sem, *]; done))) (fail)
  all_goals (try go_wp2)
  all_goals exact bodyPost_ret (v := .agg (tbc [x0, x1, x2, x3])) (by simp [results, Tryz.results70, go_sem, tbc, rowF, fracL, *]) rfl ⟨rfl, by exact below_⟩
set_option maxRecDepth 100000 in
set_option maxHeartbeats 4000000 in
theorem y_of3 (a : List Fr) (ha : a.length = 16) (w : World) : Calls Tryz.prog 70 #[.agg (tbc a), .int .i64 3] w fun e w' => e = .returned (.agg (tbc (rowT a 3))) ∧ Below w.heap.size w w' := by
  have hT : TbIs (w.alloc (.cells (tbc a) 44)) w.heap.size a := TbIs.new w a
  have g0 := hT.get (i := 12) (by omega)
  have g1 := hT.get (i := 13) (by omega)
  have g2 := hT.get (i := 14) (by omega)
  have g3 := hT.get (i := 15) (by omega)
  obtain ⟨x0, x1, x2, x3, hx, g0, g1, g2, g3⟩ : ∃ x0 x1 x2 x3 : Fr, rowT a 3 = [x0, x1, x2, x3] ∧ FAt (w.alloc (.cells (tbc a) 44)) w.heap.size (12 * 3) x0 ∧ FAt (w.alloc (.cells (tbc a) 44)) w.heap.size (13 * 3) x1 ∧ FAt (w.alloc (.cells (tbc a) 44)) w.heap.size (14 * 3) x2 ∧ FAt (w.alloc (.cells (tbc a) 44)) w.heap.size (15 * 3) x3 := ⟨_, _, _, _, rfl, g0, g1, g2, g3⟩
  rw [hx]
  clear hx hT
  obtain ⟨c0, c1, c2⟩ := g0
  obtain ⟨c3, c4, c5⟩ := g1
  obtain ⟨c6, c7, c8⟩ := g2
  obtain ⟨c9, c10, c11⟩ := g3
  simp only [Nat.reduceMul, Nat.reduceAdd, Nat.zero_add, Nat.zero_mul] at c0 c1 c2 c3 c4 c5 c6 c7 c8 c9 c10 c11
  have q12 : IntKind.i64.wrap 12 = 12 := by decide
  have q13 : IntKind.i64.wrap 13 = 13 := by decide
  have q14 : IntKind.i64.wrap 14 = 14 := by decide
  have q15 : IntKind.i64.wrap 15 = 15 := by decide
  go_enter Tryz.func70, Tryz.ntmps70
  go_upto_region 1 with fail
  go_region_held3 (fun w' => w'.cell? ⟨w.heap.size, 36, none⟩ = some (.int .i64 x0.re) ∧ w'.cell? ⟨w.heap.size, 37, none⟩ = some (.int .i64 x0.im) ∧ w'.cell? ⟨w.heap.size, 38, none⟩ = some (.int .i64 x0.den) ∧ w'.cell? ⟨w.heap.size, 39, none⟩ = some (.int .i64 x1.re) ∧ w'.cell? ⟨w.heap.size, 40, none⟩ = some (.int .i64 x1.im) ∧ w'.cell? ⟨w.heap.size, 41, none⟩ = some (.int .i64 x1.den) ∧ w'.cell? ⟨w.heap.size, 42, none⟩ = some (.int .i64 x2.re) ∧ w'.cell? ⟨w.heap.size, 43, none⟩ = some (.int .i64 x2.im) ∧ w'.cell? ⟨w.heap.size, 44, none⟩ = some (.int .i64 x2.den) ∧ w'.cell? ⟨w.heap.size, 45, none⟩ = some (.int .i64 x3.re) ∧ w'.cell? ⟨w.heap.size, 46, none⟩ = some (.int .i64 x3.im) ∧ w'.cell? ⟨w.heap.size, 47, none⟩ = some (.int .i64 x3.den)) ((first | go_keep | (simp [go_sem, *]; done))) (fail)
  all_goals (try go_wp2)
  all_goals exact bodyPost_ret (v := .agg (tbc [x0, x1, x2, x3])) (by simp [results, Tryz.results70, go_sem, tbc, rowF, fracL, *]) rfl ⟨rfl, by exact below_⟩
theorem y_of (a : List Fr) (ha : a.length = 16) (i : Nat) (hi : i < 4) (w : World) : Calls Tryz.prog 70 #[.agg (tbc a), .int .i64 i] w fun e w' => e = .returned (.agg (tbc (rowT a i))) ∧ Below w.heap.size w w' := by
  match i, hi with
  | 0, _ => exact y_of0 a ha w
  | 1, _ => exact y_of1 a ha w
  | 2, _ => exact y_of2 a ha w
  | 3, _ => exact y_of3 a ha w
set_option maxRecDepth 100000 in
set_option maxHeartbeats 4000000 in
theorem svalid_tab (xs : List Fr) (w : World) (hx : xs.length = 16) :
    Calls Tryz.prog 112 #[.agg (tbc xs)] w fun e w' => e = .returned (.bool (xs.all realOk)) ∧ Below w.heap.size w w' := by
  have hrow : TbIs (w.alloc (.cells (tbc xs) 44)) w.heap.size xs := TbIs.new w xs
  go_enter Tryz.func112, Tryz.ntmps112
  go_wp2
  go_loopw [3] (fun i wr => ∃ k : Nat, k ≤ 16 ∧ i = .int .i64 k ∧ Hid ((xs.take k).all realOk = true) ∧ Below w.heap.size w wr ∧ TbIs wr w.heap.size xs) (fun i _ => 16 - (intOf i).toNat)
  case atStart => exact ⟨0, Nat.zero_le _, rfl, rfl, by exact below_, hrow⟩
  case round =>
    clear hrow
    obtain ⟨k, hk, rfl, hall, hb, hT⟩ := hrel
    have hz := hb.size
    have hlt := hT.lt
    by_cases hkl : k < 16
    · have hs1 : xs[k]? = some (xs[k]'(by omega)) := List.getElem?_eq_getElem (by omega)
      obtain ⟨s, hs⟩ : ∃ s, s = xs[k]'(by omega) := ⟨_, rfl⟩
      rw [← hs] at hs1
      clear hs
      have HS1 := Lib.hid hs1
      have hki : (k : Int) < 16 := by omega
      obtain ⟨c0, c1, c2⟩ := hT.at hs1
      clear hs1
      have hTb : ∀ w', Below wr.heap.size wr w' → TbIs w' w.heap.size xs := fun w' h => hT.below h hlt
      cases hv : fvalid s
      · have HF := Lib.hid (all_fails HS1.out (by simp [realOk, hv]))
        go_wp2_with (first | (go_at_call 65; (with_reducible refine (sfvalid_f s _ hv).mono ?_); rintro e w1 ⟨rfl, hb1⟩; have hB : Below w.heap.size w w1 := bstep hb hb1 hz; clear hb1))
        go_ret
        exact ⟨by rw [HF.out]; rfl, hB⟩
      · cases hi : (s.im == 0)
        · have hi2 : ¬ s.im = 0 := by simpa using hi
          have HF := Lib.hid (all_fails HS1.out (by simp [realOk, hv, hi2]))
          go_wp2_with (first | (go_at_call 65; (with_reducible refine (sfvalid_t s _ hv).mono ?_); rintro e w1 ⟨rfl, hb1⟩; have hB : Below w.heap.size w w1 := bstep hb hb1 hz; obtain ⟨d0, d1, d2⟩ := (hTb w1 hb1).at HS1.out; clear hb1))
          go_ret
          exact ⟨by rw [HF.out]; rfl, hB⟩
        · have hi2 : s.im = 0 := by simpa using hi
          obtain ⟨sr, si, sd⟩ := s
          simp only at hi2
          subst hi2
          clear hi
          simp only at c0 c1 c2
          go_wp2_with (first | (go_at_call 65; (with_reducible refine (sfvalid_t ⟨sr, 0, sd⟩ _ hv).mono ?_); rintro e w1 ⟨rfl, hb1⟩; have hB : Below w.heap.size w w1 := bstep hb hb1 hz; obtain ⟨d0, d1, d2⟩ := (hTb w1 hb1).at HS1.out; have hT1 := hTb w1 hb1; clear hb1))
          go_roundw
          case rel => exact ⟨k + 1, by omega, by go_num, Lib.hid (by rw [all_succ HS1.out, hall.out]; simp [realOk, hv]), hB, hT1⟩
          case measure => simp [intOf]; omega
    · go_wp2
      go_ret
      have e : k = 16 := by omega
      subst e
      have := hall.out
      rw [List.take_of_length_le (by omega)] at this
      exact ⟨by rw [this]; rfl, hb⟩
end Go.Proofs.YtodhbkinbcemnaaGreatDoor
