/-
  The walk of the statement that compares PortSeen with the reference's: it returns true, for all arguments.
-/
import Derived.Test.YtkdggljioekkhaaGreatDoorIz
import Derived.Test.YtkdggljioekkhaaGreatDoorJg
namespace Go.Proofs.YtkdggljioekkhaaGreatDoor
set_option linter.unusedSimpArgs false
set_option linter.unusedVariables false
open Go.RowKit
attribute [local go_sem ↓] Go.wp_at_zero Go.wp_at_succ
set_option maxRecDepth 100000 in
set_option maxHeartbeats 8000000 in
theorem fnExactPortSeen_walk (a b : ByteArray) (v : Jn) (w : World) (hGP : GP w) :
    Calls Tryz.prog 10 #[.string a, .string b, jnv v] w fun e w' => e = .returned (.bool true) ∧ Below w.heap.size w w' := by
  by_cases ha : 1048576 < a.size
  · have h1 : 1048576 < (a.size : Int) := by omega
    go_enter Tryz.func10, Tryz.ntmps10
    go_wp2
    go_ret
    exact ⟨rfl, by exact below_⟩
  by_cases hb : 1048576 < b.size
  · have h1 : ¬ 1048576 < (a.size : Int) := by omega
    have h2 : 1048576 < (b.size : Int) := by omega
    go_enter Tryz.func10, Tryz.ntmps10
    go_wp2
    go_ret
    exact ⟨rfl, by exact below_⟩
  have h1 : ¬ 1048576 < (a.size : Int) := by omega
  have h2 : ¬ 1048576 < (b.size : Int) := by omega
  have ha2 : a.size ≤ 1048576 := by omega
  have hb2 : b.size ≤ 1048576 := by omega
  clear ha hb
  obtain ⟨W0, hW0, hQ⟩ : ∃ W, W = w.alloc (.cells #[.int .i64 v.x.re, .int .i64 v.x.im, .int .i64 v.x.den, .int .i64 v.y.re, .int .i64 v.y.im, .int .i64 v.y.den] 25) ∧ BW w [(w.heap.size, jc v, 25)] W := ⟨_, rfl, BW.one w (jc v) 25⟩
  obtain ⟨j0, j1, j2, j3, j4, j5⟩ := (blk_j (a := v) (hQ.at (b := w.heap.size) (cs := jc v) (t := 25) (by simp))).1
  obtain ⟨F, ok, hF⟩ : ∃ F ok, (seenI a.data.toList b.data.toList v).getD Z3 = F ∧ (seenI a.data.toList b.data.toList v).isSome = ok := ⟨_, _, rfl, rfl⟩
  have hs : ∀ W, Calls Tryz.prog 32 #[.string a, .string b, jnv v] W fun e w' => e = .returned (.tuple #[frv F, .bool ok]) ∧ Below W.heap.size W w' := fun W => by rw [← hF.1, ← hF.2]; exact sseen_any a b v W
  have hi : ∀ W, GP W → Calls Tryz.prog 33 #[.string a, .string b, jnv v] W fun e w' => e = .returned (.tuple #[frv F, .bool ok]) ∧ Below W.heap.size W w' := fun W hG => by rw [← hF.1, ← hF.2]; exact seen_any a b v W ha2 hb2 hG
  clear hF
  go_enter Tryz.func10, Tryz.ntmps10
  go_upto_region 5 with fail
  rw [← hW0]
  clear hW0
  go_upto_region 6 with (first | (go_at_call 12; (with_reducible refine (toJones_any v _).mono ?_); rintro e v0 ⟨rfl, hb⟩; have hQ := hQ.step hb; obtain ⟨j0, j1, j2, j3, j4, j5⟩ := (blk_j (a := v) (hQ.at (b := w.heap.size) (cs := jc v) (t := 25) (by simp))).1; clear hb) | (go_at_call 32; (with_reducible refine (hs _).mono ?_); rintro e v1 ⟨rfl, hb⟩))
  have hP := hQ.push hb (frc F) 26
  obtain ⟨bX, hbb⟩ : ∃ b, b = v1.heap.size := ⟨_, rfl⟩
  obtain ⟨W1, hW, hWr⟩ : ∃ W, W = v1.alloc (.cells #[.int .i64 F.re, .int .i64 F.im, .int .i64 F.den] 26) ∧ W = v1.alloc (.cells (frc F) 26) := ⟨_, rfl, rfl⟩
  rw [← hbb, ← hWr] at hP
  rw [← hW, ← hbb]
  have hQ := hP
  clear hP hb hW hWr hbb j0 j1 j2 j3 j4 j5
  obtain ⟨j0, j1, j2, j3, j4, j5⟩ := (blk_j (a := v) (hQ.at (b := w.heap.size) (cs := jc v) (t := 25) (by simp))).1
  go_upto_region 7 with (first | (go_at_call 12; (with_reducible refine (toJones_any v _).mono ?_); rintro e v0 ⟨rfl, hb⟩; have hQ := hQ.step hb; obtain ⟨j0, j1, j2, j3, j4, j5⟩ := (blk_j (a := v) (hQ.at (b := w.heap.size) (cs := jc v) (t := 25) (by simp))).1; clear hb) | (go_at_call 33; (with_reducible refine (hi _ (hGP.below hQ.B)).mono ?_); rintro e v2 ⟨rfl, hb⟩))
  have hP := hQ.push hb (frc F) 26
  obtain ⟨bY, hbb⟩ : ∃ b, b = v2.heap.size := ⟨_, rfl⟩
  obtain ⟨W2, hW, hWr⟩ : ∃ W, W = v2.alloc (.cells #[.int .i64 F.re, .int .i64 F.im, .int .i64 F.den] 26) ∧ W = v2.alloc (.cells (frc F) 26) := ⟨_, rfl, rfl⟩
  rw [← hbb, ← hWr] at hP
  rw [← hW, ← hbb]
  have hQ := hP
  clear hP hb hW hWr hbb j0 j1 j2 j3 j4 j5
  obtain ⟨j0, j1, j2, j3, j4, j5⟩ := (blk_j (a := v) (hQ.at (b := w.heap.size) (cs := jc v) (t := 25) (by simp))).1
  obtain ⟨x0, x1, x2⟩ := blk_fr0 (f := F) (hQ.at (b := bX) (cs := frc F) (t := 26) (by simp))
  obtain ⟨y0, y1, y2⟩ := blk_fr0 (f := F) (hQ.at (b := bY) (cs := frc F) (t := 26) (by simp))
  have hBF := hQ.B
  clear j0 j1 j2 j3 j4 j5
  go_wp2_with (first | (go_at_call 17; (with_reducible refine (eqFrac_refl F _).mono ?_); rintro e v3 ⟨rfl, hb⟩; have hBF := bstep hBF hb hBF.size; clear hb))
  go_ret
  exact ⟨rfl, by exact below_⟩
end Go.Proofs.YtkdggljioekkhaaGreatDoor
