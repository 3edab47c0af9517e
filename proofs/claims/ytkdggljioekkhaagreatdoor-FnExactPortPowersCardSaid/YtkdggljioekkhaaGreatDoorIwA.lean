/-
  The walk of the statement that compares PortPowers with the reference's: it returns true, for all arguments.
-/
import Derived.Test.YtkdggljioekkhaaGreatDoorIk
import Derived.Test.YtkdggljioekkhaaGreatDoorJg
namespace Go.Proofs.YtkdggljioekkhaaGreatDoor
set_option linter.unusedSimpArgs false
set_option linter.unusedVariables false
open Go.RowKit
attribute [local go_sem ↓] Go.wp_at_zero Go.wp_at_succ
set_option maxRecDepth 100000 in
set_option maxHeartbeats 8000000 in
theorem fnExactPortPowers_walk (a b : ByteArray) (k : Int) (v : Jn) (w : World) (hGP : GP w) :
    Calls Tryz.prog 4 #[.string a, .string b, .int .i64 k, jnv v] w fun e w' => e = .returned (.bool true) ∧ Below w.heap.size w w' := by
  by_cases ha : 1048576 < a.size
  · have h1 : 1048576 < (a.size : Int) := by omega
    go_enter Tryz.func4, Tryz.ntmps4
    go_wp2
    go_ret
    exact ⟨rfl, by exact below_⟩
  by_cases hb : 1048576 < b.size
  · have h1 : ¬ 1048576 < (a.size : Int) := by omega
    have h2 : 1048576 < (b.size : Int) := by omega
    go_enter Tryz.func4, Tryz.ntmps4
    go_wp2
    go_ret
    exact ⟨rfl, by exact below_⟩
  have h1 : ¬ 1048576 < (a.size : Int) := by omega
  have h2 : ¬ 1048576 < (b.size : Int) := by omega
  have ha2 : a.size ≤ 1048576 := by omega
  have hb2 : b.size ≤ 1048576 := by omega
  clear ha hb
  obtain ⟨W0, hW0, hQ⟩ : ∃ W, W = w.alloc (.cells #[.int .i64 v.x.re, .int .i64 v.x.im, .int .i64 v.x.den, .int .i64 v.y.re, .int .i64 v.y.im, .int .i64 v.y.den] 25) ∧ BW w [(w.heap.size, jc v, 25)] W := ⟨_, rfl, BW.one w (jc v) 25⟩
  obtain ⟨j0, j1, j2, j3, j4, j5⟩ := (blk_j (a := v) (hQ.at (b := w.heap.size) (cs := jc v) (t := 25) (by simp))).1
  obtain ⟨A, B, ok, hP⟩ : ∃ A B ok, pw1 (powersI a.data.toList b.data.toList k v) = A ∧ pw2 (powersI a.data.toList b.data.toList k v) = B ∧ (powersI a.data.toList b.data.toList k v).isSome = ok := ⟨_, _, _, rfl, rfl, rfl⟩
  have HP := Lib.hid hP
  clear hP
  go_enter Tryz.func4, Tryz.ntmps4
  go_upto_region 5 with fail
  rw [← hW0]
  clear hW0
  go_upto_region 6 with (first | (go_at_call 12; (with_reducible refine (toJones_any v _).mono ?_); rintro e v0 ⟨rfl, hb⟩; have hQ := hQ.step hb; obtain ⟨j0, j1, j2, j3, j4, j5⟩ := (blk_j (a := v) (hQ.at (b := w.heap.size) (cs := jc v) (t := 25) (by simp))).1; clear hb) | (go_at_call 15; (with_reducible refine (spowers_any a b k v _ A B ok HP).mono ?_); rintro e v1 ⟨rfl, hb⟩))
  obtain ⟨bA, hb1⟩ : ∃ x, x = v1.heap.size := ⟨_, rfl⟩
  obtain ⟨bB, hb2⟩ : ∃ x, x = bA + 1 := ⟨_, rfl⟩
  have hP := (hQ.push hb (frc A) 26).push (Below.refl _ _) (frc B) 26
  obtain ⟨W1, hW, hWr⟩ : ∃ W, W = (v1.alloc (.cells #[.int .i64 A.re, .int .i64 A.im, .int .i64 A.den] 26)).alloc (.cells #[.int .i64 B.re, .int .i64 B.im, .int .i64 B.den] 26) ∧ W = (v1.alloc (.cells (frc A) 26)).alloc (.cells (frc B) 26) := ⟨_, rfl, rfl⟩
  rw [World.size_alloc, ← hb1, ← hb2, ← hWr] at hP
  rw [← hW, ← hb1, ← hb2]
  have hQ := hP
  clear hP hb hW hWr hb1 hb2 j0 j1 j2 j3 j4 j5
  obtain ⟨j0, j1, j2, j3, j4, j5⟩ := (blk_j (a := v) (hQ.at (b := w.heap.size) (cs := jc v) (t := 25) (by simp))).1
  go_upto_region 7 with (first | (go_at_call 12; (with_reducible refine (toJones_any v _).mono ?_); rintro e v0 ⟨rfl, hb⟩; have hQ := hQ.step hb; obtain ⟨j0, j1, j2, j3, j4, j5⟩ := (blk_j (a := v) (hQ.at (b := w.heap.size) (cs := jc v) (t := 25) (by simp))).1; clear hb) | (go_at_call 16; (with_reducible refine (powers_any a b k v _ ha2 hb2 (hGP.below hQ.B) A B ok HP).mono ?_); rintro e v2 ⟨rfl, hb⟩))
  obtain ⟨bC, hb1⟩ : ∃ x, x = v2.heap.size := ⟨_, rfl⟩
  obtain ⟨bD, hb2⟩ : ∃ x, x = bC + 1 := ⟨_, rfl⟩
  have hP := (hQ.push hb (frc A) 26).push (Below.refl _ _) (frc B) 26
  obtain ⟨W2, hW, hWr⟩ : ∃ W, W = (v2.alloc (.cells #[.int .i64 A.re, .int .i64 A.im, .int .i64 A.den] 26)).alloc (.cells #[.int .i64 B.re, .int .i64 B.im, .int .i64 B.den] 26) ∧ W = (v2.alloc (.cells (frc A) 26)).alloc (.cells (frc B) 26) := ⟨_, rfl, rfl⟩
  rw [World.size_alloc, ← hb1, ← hb2, ← hWr] at hP
  rw [← hW, ← hb1, ← hb2]
  have hQ := hP
  clear hP hb hW hWr hb1 hb2 j0 j1 j2 j3 j4 j5
  obtain ⟨j0, j1, j2, j3, j4, j5⟩ := (blk_j (a := v) (hQ.at (b := w.heap.size) (cs := jc v) (t := 25) (by simp))).1
  obtain ⟨x00, x01, x02⟩ := blk_fr0 (f := A) (hQ.at (b := bA) (cs := frc A) (t := 26) (by simp))
  obtain ⟨x10, x11, x12⟩ := blk_fr0 (f := B) (hQ.at (b := bB) (cs := frc B) (t := 26) (by simp))
  obtain ⟨x20, x21, x22⟩ := blk_fr0 (f := A) (hQ.at (b := bC) (cs := frc A) (t := 26) (by simp))
  obtain ⟨x30, x31, x32⟩ := blk_fr0 (f := B) (hQ.at (b := bD) (cs := frc B) (t := 26) (by simp))
  have hQ0 := hQ
  clear j0 j1 j2 j3 j4 j5
  go_wp2_with (first | (go_at_call 17; (with_reducible refine (eqFrac_refl A _).mono ?_); rintro e v3 ⟨rfl, hb⟩; have hQ := hQ.step hb; obtain ⟨x10, x11, x12⟩ := blk_fr0 (f := B) (hQ.at (b := bB) (cs := frc B) (t := 26) (by simp)); obtain ⟨x30, x31, x32⟩ := blk_fr0 (f := B) (hQ.at (b := bD) (cs := frc B) (t := 26) (by simp)); clear hb) | (go_at_call 17; (with_reducible refine (eqFrac_refl B _).mono ?_); rintro e v4 ⟨rfl, hb⟩; have hBF := (hQ.step hb).B; clear hb))
  go_ret
  exact ⟨rfl, by exact below_⟩
end Go.Proofs.YtkdggljioekkhaaGreatDoor
