/-
  The walk of the statement that compares PortVector with the reference's: it returns true, for all arguments.
-/
import Derived.Test.YtkdggljioekkhaaGreatDoorJe
import Derived.Test.YtkdggljioekkhaaGreatDoorJf
import Derived.Test.YtkdggljioekkhaaGreatDoorJg
namespace Go.Proofs.YtkdggljioekkhaaGreatDoor
set_option linter.unusedSimpArgs false
set_option linter.unusedVariables false
open Go.RowKit
attribute [local go_sem ↓] Go.wp_at_zero Go.wp_at_succ
set_option maxRecDepth 100000 in
set_option maxHeartbeats 8000000 in
theorem fnExactPortVector_walk (a b : ByteArray) (k : Int) (v : Jn) (s : Bool) (w : World) (hGP : GP w) :
    Calls Tryz.prog 3 #[.string a, .string b, .int .i64 k, jnv v, .bool s] w fun e w' => e = .returned (.bool true) ∧ Below w.heap.size w w' := by
  by_cases ha : 1048576 < a.size
  · have h1 : 1048576 < (a.size : Int) := by omega
    go_enter Tryz.func3, Tryz.ntmps3
    go_wp2
    go_ret
    exact ⟨rfl, by exact below_⟩
  by_cases hb : 1048576 < b.size
  · have h1 : ¬ 1048576 < (a.size : Int) := by omega
    have h2 : 1048576 < (b.size : Int) := by omega
    go_enter Tryz.func3, Tryz.ntmps3
    go_wp2
    go_ret
    exact ⟨rfl, by exact below_⟩
  have h1 : ¬ 1048576 < (a.size : Int) := by omega
  have h2 : ¬ 1048576 < (b.size : Int) := by omega
  have ha2 : a.size ≤ 1048576 := by omega
  have hb2 : b.size ≤ 1048576 := by omega
  clear ha hb
  obtain ⟨W0, hW0, hQ⟩ : ∃ W, W = w.alloc (.cells #[.int .i64 v.x.re, .int .i64 v.x.im, .int .i64 v.x.den, .int .i64 v.y.re, .int .i64 v.y.im, .int .i64 v.y.den] 25) ∧ BW w [(w.heap.size, jc v, 25)] W := ⟨_, rfl, BW.one w (jc v) 25⟩
  obtain ⟨j0, j1, j2, j3, j4, j5⟩ := (blk_j (a := v) (hQ.at (b := w.heap.size) (cs := jc v) (t := 25) (by simp))).1
  obtain ⟨X, p, hX⟩ : ∃ X p, (portI a.data.toList b.data.toList k v s).getD Z6 = X ∧ (portI a.data.toList b.data.toList k v s).isSome = p := ⟨_, _, rfl, rfl⟩
  have HX := Lib.hid hX
  clear hX
  go_enter Tryz.func3, Tryz.ntmps3
  go_upto_region 5 with fail
  rw [← hW0]
  clear hW0
  go_upto_region 6 with (first | (go_at_call 12; (with_reducible refine (toJones_any v _).mono ?_); rintro e v0 ⟨rfl, hb⟩; have hQ := hQ.step hb; obtain ⟨j0, j1, j2, j3, j4, j5⟩ := (blk_j (a := v) (hQ.at (b := w.heap.size) (cs := jc v) (t := 25) (by simp))).1; clear hb) | (go_at_call 11; (with_reducible refine (sport_m a b k v s X p _ HX).mono ?_); rintro e v1 ⟨rfl, hb⟩))
  have hP := hQ.push hb (jc X) 28
  obtain ⟨bX, hbb⟩ : ∃ b, b = v1.heap.size := ⟨_, rfl⟩
  obtain ⟨W1, hW, hWr⟩ : ∃ W, W = v1.alloc (.cells #[.int .i64 X.x.re, .int .i64 X.x.im, .int .i64 X.x.den, .int .i64 X.y.re, .int .i64 X.y.im, .int .i64 X.y.den] 28) ∧ W = v1.alloc (.cells (jc X) 28) := ⟨_, rfl, rfl⟩
  rw [← hbb, ← hWr] at hP
  rw [← hW, ← hbb]
  have hQ := hP
  clear hP hb hW hWr hbb j0 j1 j2 j3 j4 j5
  obtain ⟨j0, j1, j2, j3, j4, j5⟩ := (blk_j (a := v) (hQ.at (b := w.heap.size) (cs := jc v) (t := 25) (by simp))).1
  go_upto_region 7 with (first | (go_at_call 12; (with_reducible refine (toJones_any v _).mono ?_); rintro e v0 ⟨rfl, hb⟩; have hQ := hQ.step hb; obtain ⟨j0, j1, j2, j3, j4, j5⟩ := (blk_j (a := v) (hQ.at (b := w.heap.size) (cs := jc v) (t := 25) (by simp))).1; clear hb) | (go_at_call 13; (with_reducible refine (port_m a b k v s X p _ ha2 hb2 (hGP.below hQ.B) HX).mono ?_); rintro e v2 ⟨rfl, hb⟩))
  have hP := hQ.push hb (jc X) 28
  obtain ⟨bY, hbb⟩ : ∃ b, b = v2.heap.size := ⟨_, rfl⟩
  obtain ⟨W2, hW, hWr⟩ : ∃ W, W = v2.alloc (.cells #[.int .i64 X.x.re, .int .i64 X.x.im, .int .i64 X.x.den, .int .i64 X.y.re, .int .i64 X.y.im, .int .i64 X.y.den] 28) ∧ W = v2.alloc (.cells (jc X) 28) := ⟨_, rfl, rfl⟩
  rw [← hbb, ← hWr] at hP
  rw [← hW, ← hbb]
  have hQ := hP
  clear hP hb hW hWr hbb j0 j1 j2 j3 j4 j5
  obtain ⟨j0, j1, j2, j3, j4, j5⟩ := (blk_j (a := v) (hQ.at (b := w.heap.size) (cs := jc v) (t := 25) (by simp))).1
  obtain ⟨x0, x1, x2, x3, x4, x5⟩ := (blk_j (a := X) (hQ.at (b := bX) (cs := jc X) (t := 28) (by simp))).1
  obtain ⟨y0, y1, y2, y3, y4, y5⟩ := (blk_j (a := X) (hQ.at (b := bY) (cs := jc X) (t := 28) (by simp))).1
  have hBF := hQ.B
  go_wp2_with (first | (go_at_call 14; (with_reducible refine (eqJones_refl X _).mono ?_); rintro e v3 ⟨rfl, hb⟩; have hBF := bstep hBF hb hBF.size; clear hb))
  go_ret
  exact ⟨rfl, by exact below_⟩
end Go.Proofs.YtkdggljioekkhaaGreatDoor
