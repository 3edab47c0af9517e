/-
  The walk of the statement that compares PortTable with the reference's: it returns true, for all arguments.
-/
import Derived.Test.YtkdggljioekkhaaGreatDoorIy
import Derived.Test.YtkdggljioekkhaaGreatDoorIx
namespace Go.Proofs.YtkdggljioekkhaaGreatDoor
set_option linter.unusedSimpArgs false
set_option linter.unusedVariables false
open Go.RowKit
attribute [local go_sem ↓] Go.wp_at_zero Go.wp_at_succ
set_option maxRecDepth 100000 in
set_option maxHeartbeats 8000000 in
theorem fnExactPortTable_walk (a b : ByteArray) (k : Int) (v : Jn) (w : World) (hGP : GP w) :
    Calls Tryz.prog 7 #[.string a, .string b, .int .i64 k, jnv v] w fun e w' => e = .returned (.bool true) ∧ Below w.heap.size w w' := by
  by_cases ha : 1048576 < a.size
  · have h1 : 1048576 < (a.size : Int) := by omega
    go_enter Tryz.func7, Tryz.ntmps7
    go_wp2
    go_ret
    exact ⟨rfl, by exact below_⟩
  by_cases hb : 1048576 < b.size
  · have h1 : ¬ 1048576 < (a.size : Int) := by omega
    have h2 : 1048576 < (b.size : Int) := by omega
    go_enter Tryz.func7, Tryz.ntmps7
    go_wp2
    go_ret
    exact ⟨rfl, by exact below_⟩
  have h1 : ¬ 1048576 < (a.size : Int) := by omega
  have h2 : ¬ 1048576 < (b.size : Int) := by omega
  have ha2 : a.size ≤ 1048576 := by omega
  have hb2 : b.size ≤ 1048576 := by omega
  clear ha hb
  obtain ⟨W0, hW0, hQ⟩ : ∃ W, W = w.alloc (.cells #[.int .i64 v.x.re, .int .i64 v.x.im, .int .i64 v.x.den, .int .i64 v.y.re, .int .i64 v.y.im, .int .i64 v.y.den] 25) ∧ BW w [(w.heap.size, jc v, 25)] W := ⟨_, rfl, BW.one w (jc v) 25⟩
  obtain ⟨j0, j1, j2, j3, j4, j5⟩ := (blk_j (a := v) (hQ.at (b := w.heap.size) (cs := jc v) (t := 25) (by simp))).1
  obtain ⟨m, ok, hm⟩ : ∃ m ok, (tableI a.data.toList b.data.toList k v).getD Z12 = m ∧ (tableI a.data.toList b.data.toList k v).isSome = ok := ⟨_, _, rfl, rfl⟩
  have hs : ∀ W, Calls Tryz.prog 22 #[.string a, .string b, .int .i64 k, jnv v] W fun e w' => e = .returned (.tuple #[mtv m, .bool ok]) ∧ Below W.heap.size W w' := fun W => by rw [← hm.1, ← hm.2]; exact stable_any a b k v W
  have hi : ∀ W, GP W → Calls Tryz.prog 23 #[.string a, .string b, .int .i64 k, jnv v] W fun e w' => e = .returned (.tuple #[mtv m, .bool ok]) ∧ Below W.heap.size W w' := fun W hG => by rw [← hm.1, ← hm.2]; exact table_any a b k v W ha2 hb2 hG
  clear hm
  go_enter Tryz.func7, Tryz.ntmps7
  go_upto_region 5 with fail
  rw [← hW0]
  clear hW0
  go_upto_region 6 with (first | (go_at_call 12; (with_reducible refine (toJones_any v _).mono ?_); rintro e v0 ⟨rfl, hb⟩; have hQ := hQ.step hb; obtain ⟨j0, j1, j2, j3, j4, j5⟩ := (blk_j (a := v) (hQ.at (b := w.heap.size) (cs := jc v) (t := 25) (by simp))).1; clear hb) | (go_at_call 22; (with_reducible refine (hs _).mono ?_); rintro e v1 ⟨rfl, hb⟩))
  have hP := hQ.push hb (mtc m) 43
  obtain ⟨bX, hbb⟩ : ∃ b, b = v1.heap.size := ⟨_, rfl⟩
  obtain ⟨W1, hW, hWr⟩ : ∃ W, W = v1.alloc (.cells #[.int .i64 m.a.re, .int .i64 m.a.im, .int .i64 m.a.den, .int .i64 m.b.re, .int .i64 m.b.im, .int .i64 m.b.den, .int .i64 m.c.re, .int .i64 m.c.im, .int .i64 m.c.den, .int .i64 m.d.re, .int .i64 m.d.im, .int .i64 m.d.den] 43) ∧ W = v1.alloc (.cells (mtc m) 43) := ⟨_, rfl, rfl⟩
  rw [← hbb, ← hWr] at hP
  rw [← hW, ← hbb]
  have hQ := hP
  clear hP hb hW hWr hbb j0 j1 j2 j3 j4 j5
  obtain ⟨j0, j1, j2, j3, j4, j5⟩ := (blk_j (a := v) (hQ.at (b := w.heap.size) (cs := jc v) (t := 25) (by simp))).1
  go_upto_region 7 with (first | (go_at_call 12; (with_reducible refine (toJones_any v _).mono ?_); rintro e v0 ⟨rfl, hb⟩; have hQ := hQ.step hb; obtain ⟨j0, j1, j2, j3, j4, j5⟩ := (blk_j (a := v) (hQ.at (b := w.heap.size) (cs := jc v) (t := 25) (by simp))).1; clear hb) | (go_at_call 23; (with_reducible refine (hi _ (hGP.below hQ.B)).mono ?_); rintro e v2 ⟨rfl, hb⟩))
  have hP := hQ.push hb (mtc m) 43
  obtain ⟨bY, hbb⟩ : ∃ b, b = v2.heap.size := ⟨_, rfl⟩
  obtain ⟨W2, hW, hWr⟩ : ∃ W, W = v2.alloc (.cells #[.int .i64 m.a.re, .int .i64 m.a.im, .int .i64 m.a.den, .int .i64 m.b.re, .int .i64 m.b.im, .int .i64 m.b.den, .int .i64 m.c.re, .int .i64 m.c.im, .int .i64 m.c.den, .int .i64 m.d.re, .int .i64 m.d.im, .int .i64 m.d.den] 43) ∧ W = v2.alloc (.cells (mtc m) 43) := ⟨_, rfl, rfl⟩
  rw [← hbb, ← hWr] at hP
  rw [← hW, ← hbb]
  have hQ := hP
  clear hP hb hW hWr hbb j0 j1 j2 j3 j4 j5
  obtain ⟨j0, j1, j2, j3, j4, j5⟩ := (blk_j (a := v) (hQ.at (b := w.heap.size) (cs := jc v) (t := 25) (by simp))).1
  obtain ⟨x0, x1, x2, x3, x4, x5, x6, x7, x8, x9, x10, x11⟩ := blk_mt (m := m) (hQ.at (b := bX) (cs := mtc m) (t := 43) (by simp))
  obtain ⟨y0, y1, y2, y3, y4, y5, y6, y7, y8, y9, y10, y11⟩ := blk_mt (m := m) (hQ.at (b := bY) (cs := mtc m) (t := 43) (by simp))
  have hBF := hQ.B
  clear j0 j1 j2 j3 j4 j5
  go_wp2_with (first | (go_at_call 24; (with_reducible refine (eqStk_refl m _).mono ?_); rintro e v3 ⟨rfl, hb⟩; have hBF := bstep hBF hb hBF.size; clear hb))
  go_ret
  exact ⟨rfl, by exact below_⟩
end Go.Proofs.YtkdggljioekkhaaGreatDoor
