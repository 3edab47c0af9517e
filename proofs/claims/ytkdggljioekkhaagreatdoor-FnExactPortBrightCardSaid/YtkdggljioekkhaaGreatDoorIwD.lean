/-
  The walk of the statement that compares PortBright with the reference's: it returns true, for all arguments.
-/
import Derived.Test.YtkdggljioekkhaaGreatDoorIl
import Derived.Test.YtkdggljioekkhaaGreatDoorJg
namespace Go.Proofs.YtkdggljioekkhaaGreatDoor
set_option linter.unusedSimpArgs false
set_option linter.unusedVariables false
open Go.RowKit
attribute [local go_sem ↓] Go.wp_at_zero Go.wp_at_succ
set_option maxRecDepth 100000 in
set_option maxHeartbeats 8000000 in
theorem fnExactPortBright_walk (a b : ByteArray) (v : Jn) (w : World) (hGP : GP w) :
    Calls Tryz.prog 9 #[.string a, .string b, jnv v] w fun e w' => e = .returned (.bool true) ∧ Below w.heap.size w w' := by
  by_cases ha : 1048576 < a.size
  · have h1 : 1048576 < (a.size : Int) := by omega
    go_enter Tryz.func9, Tryz.ntmps9
    go_wp2
    go_ret
    exact ⟨rfl, by exact below_⟩
  by_cases hb : 1048576 < b.size
  · have h1 : ¬ 1048576 < (a.size : Int) := by omega
    have h2 : 1048576 < (b.size : Int) := by omega
    go_enter Tryz.func9, Tryz.ntmps9
    go_wp2
    go_ret
    exact ⟨rfl, by exact below_⟩
  have h1 : ¬ 1048576 < (a.size : Int) := by omega
  have h2 : ¬ 1048576 < (b.size : Int) := by omega
  have ha2 : a.size ≤ 1048576 := by omega
  have hb2 : b.size ≤ 1048576 := by omega
  clear ha hb
  obtain ⟨W0, hW0, hQ⟩ : ∃ W, W = w.alloc (.cells #[.int .i64 v.x.re, .int .i64 v.x.im, .int .i64 v.x.den, .int .i64 v.y.re, .int .i64 v.y.im, .int .i64 v.y.den] 25) ∧ BW w [(w.heap.size, jc v, 25)] W := ⟨_, rfl, BW.one w (jc v) 25⟩
  obtain ⟨j0, j1, j2, j3, j4, j5⟩ := (blk_j (a := v) (hQ.at (b := w.heap.size) (cs := jc v) (t := 25) (by simp))).1
  obtain ⟨n, ok, hn, hok⟩ : ∃ n ok, ((brI a.data.toList b.data.toList v : Nat) : Int) = n ∧ (fringesI a.data.toList b.data.toList v).isSome = ok := ⟨_, _, rfl, rfl⟩
  have hs : ∀ W, Calls Tryz.prog 30 #[.string a, .string b, jnv v] W fun e w' => e = .returned (.tuple #[.int .i64 n, .bool ok]) ∧ Below W.heap.size W w' := fun W => by rw [← hn, ← hok]; exact sbright_any a b v W
  have hi : ∀ W, GP W → Calls Tryz.prog 31 #[.string a, .string b, jnv v] W fun e w' => e = .returned (.tuple #[.int .i64 n, .bool ok]) ∧ Below W.heap.size W w' := fun W hG => by rw [← hn, ← hok]; exact bright_any a b v W ha2 hb2 hG
  clear hn hok
  go_enter Tryz.func9, Tryz.ntmps9
  go_upto_region 5 with fail
  rw [← hW0]
  clear hW0
  go_upto_region 6 with (first | (go_at_call 12; (with_reducible refine (toJones_any v _).mono ?_); rintro e v0 ⟨rfl, hb⟩; have hQ := hQ.step hb; obtain ⟨j0, j1, j2, j3, j4, j5⟩ := (blk_j (a := v) (hQ.at (b := w.heap.size) (cs := jc v) (t := 25) (by simp))).1; clear hb) | (go_at_call 30; (with_reducible refine (hs _).mono ?_); rintro e v1 ⟨rfl, hb⟩))
  have hQ := hQ.step hb
  clear hb j0 j1 j2 j3 j4 j5
  obtain ⟨j0, j1, j2, j3, j4, j5⟩ := (blk_j (a := v) (hQ.at (b := w.heap.size) (cs := jc v) (t := 25) (by simp))).1
  go_upto_region 7 with (first | (go_at_call 12; (with_reducible refine (toJones_any v _).mono ?_); rintro e v0 ⟨rfl, hb⟩; have hQ := hQ.step hb; obtain ⟨j0, j1, j2, j3, j4, j5⟩ := (blk_j (a := v) (hQ.at (b := w.heap.size) (cs := jc v) (t := 25) (by simp))).1; clear hb) | (go_at_call 31; (with_reducible refine (hi _ (hGP.below hQ.B)).mono ?_); rintro e v2 ⟨rfl, hb⟩))
  have hBF := (hQ.step hb).B
  clear hb j0 j1 j2 j3 j4 j5
  go_wp2
  go_ret
  exact ⟨rfl, by exact below_⟩
end Go.Proofs.YtkdggljioekkhaaGreatDoor
