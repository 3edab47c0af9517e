/-
  The walk of the statement that compares PortFringes with the reference's: it returns true, for all arguments.
-/
import Derived.Test.YtkdggljioekkhaaGreatDoorJe
import Derived.Test.YtkdggljioekkhaaGreatDoorJf
import Derived.Test.YtkdggljioekkhaaGreatDoorJg
import Derived.Test.YtkdggljioekkhaaGreatDoorIu
namespace Go.Proofs.YtkdggljioekkhaaGreatDoor
set_option linter.unusedSimpArgs false
set_option linter.unusedVariables false
open Go.RowKit
attribute [local go_sem ↓] Go.wp_at_zero Go.wp_at_succ
set_option maxRecDepth 100000 in
set_option maxHeartbeats 8000000 in
theorem fnExactPortFringes_walk (a b : ByteArray) (v : Jn) (w : World) (hGP : GP w) :
    Calls Tryz.prog 8 #[.string a, .string b, jnv v] w fun e w' => e = .returned (.bool true) ∧ Below w.heap.size w w' := by
  by_cases ha : 1048576 < a.size
  · have h1 : 1048576 < (a.size : Int) := by omega
    go_enter Tryz.func8, Tryz.ntmps8
    go_wp2
    go_ret
    exact ⟨rfl, by exact below_⟩
  by_cases hb : 1048576 < b.size
  · have h1 : ¬ 1048576 < (a.size : Int) := by omega
    have h2 : 1048576 < (b.size : Int) := by omega
    go_enter Tryz.func8, Tryz.ntmps8
    go_wp2
    go_ret
    exact ⟨rfl, by exact below_⟩
  have h1 : ¬ 1048576 < (a.size : Int) := by omega
  have h2 : ¬ 1048576 < (b.size : Int) := by omega
  have ha2 : a.size ≤ 1048576 := by omega
  have hb2 : b.size ≤ 1048576 := by omega
  clear ha hb
  obtain ⟨W0, hW0, hQ⟩ : ∃ W, W = w.alloc (.cells #[.int .i64 v.x.re, .int .i64 v.x.im, .int .i64 v.x.den, .int .i64 v.y.re, .int .i64 v.y.im, .int .i64 v.y.den] 25) ∧ BW w [(w.heap.size, jc v, 25)] W := ⟨_, rfl, BW.one w (jc v) 25⟩
  obtain ⟨j0, j1, j2, j3, j4, j5⟩ := (blk_j (a := v) (hQ.at (b := w.heap.size) (cs := jc v) (t := 25) (by simp))).1
  obtain ⟨rs, ok, hr, hok⟩ : ∃ rs ok, (fringesI a.data.toList b.data.toList v).getD [] = rs ∧ (fringesI a.data.toList b.data.toList v).isSome = ok := ⟨_, _, rfl, rfl⟩
  have hrl : rs.length ≤ 4 := by
    rw [← hr]
    cases h : fringesI a.data.toList b.data.toList v with
    | none => simp
    | some fs => have := (fringes_real h).1; simp only [Option.getD_some]; omega
  have hs : ∀ W, Calls Tryz.prog 25 #[.string a, .string b, jnv v] W fun e w' => ∃ lv, e = .returned (.tuple #[lv, .bool ok]) ∧ OwF W.heap.size lv rs w' ∧ Below W.heap.size W w' := fun W => by rw [← hr, ← hok]; exact sfringes_any a b v W
  have hi : ∀ W, GP W → Calls Tryz.prog 26 #[.string a, .string b, jnv v] W fun e w' => ∃ lv, e = .returned (.tuple #[lv, .bool ok]) ∧ OwF W.heap.size lv rs w' ∧ Below W.heap.size W w' := fun W hG => by rw [← hr, ← hok]; exact fringes_any a b v W ha2 hb2 hG
  clear hr hok
  go_enter Tryz.func8, Tryz.ntmps8
  go_upto_region 5 with fail
  rw [← hW0]
  clear hW0
  go_upto_region 6 with (first | (go_at_call 12; (with_reducible refine (toJones_any v _).mono ?_); rintro e v0 ⟨rfl, hb⟩; have hzT := hb.size; have hQ := hQ.step hb; obtain ⟨j0, j1, j2, j3, j4, j5⟩ := (blk_j (a := v) (hQ.at (b := w.heap.size) (cs := jc v) (t := 25) (by simp))).1; clear hb) | (go_at_call 25; (with_reducible refine (hs _).mono ?_); rintro e v1 ⟨lv, rfl, O6, hb⟩; have O6 := O6.mono hQ.B.size))
  have hQ := hQ.step hb
  have hv1w : w.heap.size < v1.heap.size := blk_lt (hQ.at (b := w.heap.size) (cs := jc v) (t := 25) (by simp))
  clear hb hzT j0 j1 j2 j3 j4 j5
  obtain ⟨j0, j1, j2, j3, j4, j5⟩ := (blk_j (a := v) (hQ.at (b := w.heap.size) (cs := jc v) (t := 25) (by simp))).1
  obtain ⟨A6, c6, rfl, -⟩ := O6.frs
  obtain ⟨n, hn⟩ : ∃ n, n = rs.length := ⟨_, rfl⟩
  rw [← hn] at O6 hrl ⊢
  have HN := Lib.hid hn
  have h6 : ∀ k, Value.ownBlock (.slice A6 n c6) = some k → k < v1.heap.size := fun k e => (O6.lt k e).2
  clear hn
  go_upto_region 7 with (first | (go_at_call 12; (with_reducible refine (toJones_any v _).mono ?_); rintro e v0 ⟨rfl, hb⟩; have hzT := hb.size; have hbT := hb; have hQ := hQ.step hb; obtain ⟨j0, j1, j2, j3, j4, j5⟩ := (blk_j (a := v) (hQ.at (b := w.heap.size) (cs := jc v) (t := 25) (by simp))).1; clear hb) | (go_at_call 26; (with_reducible refine (hi _ (hGP.below hQ.B)).mono ?_); rintro e v2 ⟨lv, rfl, O9, hb⟩; have O9 := O9.mono hzT; have O6 := (O6.below hbT).below hb))
  have hz9 := hb.size
  have hQ := hQ.step hb
  have hP := hQ.at (b := w.heap.size) (cs := jc v) (t := 25) (by simp)
  have hB := hQ.B
  clear hb hbT j0 j1 j2 j3 j4 j5
  obtain ⟨A9, c9, rfl, -⟩ := O9.frs
  rw [← HN.out] at O9 ⊢
  have hl9 : ∀ k, Value.ownBlock (.slice A9 n c9) = some k → v1.heap.size ≤ k := fun k e => (O9.lt k e).1
  have hpl := blk_lt (hQ.at (b := w.heap.size) (cs := jc v) (t := 25) (by simp))
  have hwv : w.heap.size < v1.heap.size := hv1w
  clear hQ
  go_wp2_with (go_at_call 27; (with_reducible refine (eqFrs_refl A9 A6 n c9 c6 rs _ O9.frsK O6.frsK).mono ?_); rintro e w8 ⟨rfl, hb⟩; refine Hid.out ?_)
  refine Lib.hid ?_
  have O6 := O6.below hb
  have O9 := O9.below hb
  have hP := (hb.block _ (blk_lt hP)).trans hP
  have hB : Below w.heap.size w w8 := bstep hB hb hB.size
  clear hb
  go_wp2_with (go_at_call 28; (with_reducible refine (markF_any _ (.slice A9 n c9) rs _ O9 (by rw [← HN.out]; omega)).mono ?_); rintro e w9 ⟨rfl, O9m, hg⟩; refine Hid.out ?_)
  refine Lib.hid ?_
  rw [← HN.out] at O9m ⊢
  have O6 := O6.grown hg (own_ne h6 hl9)
  have hP := (hg.block _ (blk_lt hP) (fun e => by have := hl9 _ e.symm; omega)).trans hP
  have hB : Below w.heap.size w w9 := hB.grown hg hB.size (fun k e => by have := hl9 k e; omega)
  have hk2 : ¬ (3 * (n : Int) + 1 < 0) := by omega
  clear hg O9
  go_wp2_with (go_at_call 29; (with_reducible refine (heldF_any A9 n c9 _ O9m.frsK (by omega)).mono ?_); rintro e wa ⟨rfl, hb⟩; refine Hid.out ?_)
  refine Lib.hid ?_
  have O6 := O6.below hb
  have O9m := O9m.below hb
  have hP := (hb.block _ (blk_lt hP)).trans hP
  have hB : Below w.heap.size w wa := bstep hB hb hB.size
  clear hb
  obtain ⟨j0, j1, j2, j3, j4, j5⟩ := (blk_j (a := v) hP).1
  go_upto_region 18 with (first | (go_at_call 12; (with_reducible refine (toJones_any v _).mono ?_); rintro e wb ⟨rfl, hb⟩; have O6 := O6.below hb; have O9m := O9m.below hb; have hP := (hb.block _ (blk_lt hP)).trans hP; have hB := bstep hB hb hB.size; clear hb) | (go_at_call 26; (with_reducible refine (hi _ (hGP.below hB)).mono ?_); rintro e wc ⟨lv, rfl, O7, hb⟩; have O6 := O6.below hb; have O9m := O9m.below hb; have hP := (hb.block _ (blk_lt hP)).trans hP; have hB := bstep hB hb hB.size; clear hb))
  obtain ⟨A7, c7, rfl, -⟩ := O7.frs
  rw [← HN.out] at O7 ⊢
  clear j0 j1 j2 j3 j4 j5 hP
  go_wp2_with (go_at_call 27; (with_reducible refine (eqFrs_refl A7 A6 n c7 c6 rs _ O7.frsK O6.frsK).mono ?_); rintro e wd ⟨rfl, hb⟩; refine Hid.out ?_)
  refine Lib.hid ?_
  have O9m := O9m.below hb
  have hB : Below w.heap.size w wd := bstep hB hb hB.size
  clear hb O6 O7
  go_wp2_with (go_at_call 29; (with_reducible refine (heldF_any A9 n c9 _ O9m.frsK (by omega)).mono ?_); rintro e we ⟨rfl, hb⟩; refine Hid.out ?_)
  refine Lib.hid ?_
  have hB : Below w.heap.size w we := bstep hB hb hB.size
  clear hb
  go_wp2
  go_ret
  exact ⟨rfl, hB⟩
end Go.Proofs.YtkdggljioekkhaaGreatDoor
