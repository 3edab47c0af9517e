/-
  The walk of the reference's TableOf.
-/
import Derived.Test.YtodhbkinbcemnaaGreatDoorUg
import Derived.Test.YtodhbkinbcemnaaGreatDoorTm
namespace Go.Proofs.YtodhbkinbcemnaaGreatDoor
set_option linter.unusedSimpArgs false
set_option linter.unusedVariables false
open Go.RowKit
attribute [local go_sem ↓] Go.wp_at_zero Go.wp_at_succ
theorem smvalid_tc (m : Mt) (w : World) (h : mvalid m = true) : Calls Tryz.prog 109 #[.agg (mtc m)] w fun e w' => e = .returned (.bool true) ∧ Below w.heap.size w w' := smvalid_t m w h
theorem smvalid_fc (m : Mt) (w : World) (h : mvalid m = false) : Calls Tryz.prog 109 #[.agg (mtc m)] w fun e w' => e = .returned (.bool false) ∧ Below w.heap.size w w' := smvalid_f m w h
theorem y_powC (m : Mt) (p2 p3 p4 : Bool) (v2 v3 v4 : Int) (e : v2 = sgI p2 ∧ v3 = sgI p3 ∧ v4 = sgI p4) (x : Fr) (n : Bool) (hx : powS p2 p3 p4 m.a m.b m.c m.d = (x, n)) (bs : Nat) (bad : Bool) (w : World) (hs : OkIs w bs bad) :
    Calls Tryz.prog 110 #[.pointer (some ⟨bs, 0, none⟩), .agg (mtc m), .int .i64 v2, .int .i64 v3, .int .i64 v4] w fun e w' => e = .returned (frv x) ∧ OkIs w' bs (bad || n) ∧ BelX w.heap.size bs w w' := by
  obtain ⟨rfl, rfl, rfl⟩ := e
  have := y_pow0 m p2 p3 p4 bs bad w hs
  rw [show powS p2 p3 p4 (mfr m 0) (mfr m 1) (mfr m 2) (mfr m 3) = (x, n) from hx] at this
  exact this
theorem y_twoC (m : Mt) (i j k l : Nat) (p im : Bool) (vi vj vp vk vl : Int) (e : vi = i ∧ vj = j ∧ vp = sgI p ∧ vk = k ∧ vl = l) (hi : i < 4 ∧ j < 4 ∧ k < 4 ∧ l < 4) (x : Fr) (n : Bool) (hx : twoS im p (mfr m i) (mfr m j) (mfr m k) (mfr m l) = (x, n)) (bs : Nat) (bad : Bool) (w : World) (hs : OkIs w bs bad) :
    Calls Tryz.prog 111 #[.pointer (some ⟨bs, 0, none⟩), .agg (mtc m), .int .i64 vi, .int .i64 vj, .int .i64 vp, .int .i64 vk, .int .i64 vl, .bool im] w fun e w' => e = .returned (frv x) ∧ OkIs w' bs (bad || n) ∧ BelX w.heap.size bs w w' := by
  obtain ⟨rfl, rfl, rfl, rfl, rfl⟩ := e
  have := y_two0 m i j k l p im bs bad w hs hi.1 hi.2.1 hi.2.2.1 hi.2.2.2
  rw [hx] at this
  exact this
/-- What TableOf holds. -/
structure QA (w : World) (bs fb : Nat) (m : Mt) (xs : List Fr) (bad : Bool) (W : World) : Prop where
  B : Below w.heap.size w W
  s : OkIs W bs bad
  a : Blk W w.heap.size (mtc m) 36
  r : Blk W (w.heap.size + 1) (tbc zs16) 44
  o : Blk W fb (tbc xs) 44
  d : w.heap.size + 1 < bs ∧ bs < fb
section
variable {w W W' : World} {bs fb : Nat} {m : Mt} {xs : List Fr} {bad c : Bool}
theorem QA.call (h : QA w bs fb m xs bad W) (X : BelX W.heap.size bs W W') (s : OkIs W' bs c) : QA w bs fb m xs c W' := by
  obtain ⟨d1, d2⟩ := h.d
  have hz := h.B.size
  exact ⟨((BelX.of h.B).trans (X.mono hz)).below (by omega), s, (X.block _ (blk_lt h.a) (by omega)).trans h.a, (X.block _ (blk_lt h.r) (by omega)).trans h.r, (X.block _ (blk_lt h.o) (by omega)).trans h.o, h.d⟩
theorem QA.put (h : QA w bs fb m xs bad W) {i : Nat} (hi : i < xs.length) (s : Fr) : QA w bs fb m (xs.set i s) bad (((W.setCell ⟨fb, i * 3, none⟩ (.int .i64 s.re)).setCell ⟨fb, i * 3 + 1, none⟩ (.int .i64 s.im)).setCell ⟨fb, i * 3 + 2, none⟩ (.int .i64 s.den)) := by
  obtain ⟨d1, d2⟩ := h.d
  have key : ∀ b, b ≠ fb → (((W.setCell ⟨fb, i * 3, none⟩ (.int .i64 s.re)).setCell ⟨fb, i * 3 + 1, none⟩ (.int .i64 s.im)).setCell ⟨fb, i * 3 + 2, none⟩ (.int .i64 s.den)).heap[b]? = W.heap[b]? := fun b hb =>
    (Below.heap_setCell _ _ _ b hb).trans ((Below.heap_setCell _ _ _ b hb).trans (Below.heap_setCell _ _ _ b hb))
  exact ⟨((h.B.setCell (by show w.heap.size ≤ fb; omega) _).setCell (by show w.heap.size ≤ fb; omega) _).setCell (by show w.heap.size ≤ fb; omega) _, (key _ (by omega)).trans h.s, (key _ (by omega)).trans h.a, (key _ (by omega)).trans h.r, blk_put h.o hi s, h.d⟩
end
set_option maxRecDepth 100000 in
set_option maxHeartbeats 4000000 in
theorem y_tabF (m : Mt) (w : World) (hv : mvalid m = false) : Calls Tryz.prog 68 #[.agg (mtc m)] w fun e w' => e = .returned (tbb none) ∧ Below w.heap.size w w' := by
  have hr0 : ((w.alloc (.cells (mtc m) 36)).alloc (.cells (tbc zs16) 44)).heap[w.heap.size]? = some (.cells (mtc m) 36 (0, 0)) := (Below.heap_alloc _ _ _ (by simp)).trans (heap_alloc_last w _)
  have hr1 : ((w.alloc (.cells (mtc m) 36)).alloc (.cells (tbc zs16) 44)).heap[w.heap.size + 1]? = some (.cells (tbc zs16) 44 (0, 0)) := by
    have := heap_alloc_last (w.alloc (.cells (mtc m) 36)) (.cells (tbc zs16) 44)
    rwa [World.size_alloc] at this
  go_enter Tryz.func68, Tryz.ntmps68
  go_upto_region 3 with (first | (refine wpList_load_row rfl 36 _ rfl w.heap.size rfl 36 (mtc m) (0, 0) _ hr0 Tryz.underlying36 rfl (szMat m) ?_) | (go_at_call 109; (with_reducible refine (smvalid_fc m _ hv).mono ?_); rintro e w1 ⟨rfl, hb⟩; have hB : Below w.heap.size w w1 := bstep (by exact below_) hb (by simp; omega); have hR : Blk w1 (w.heap.size + 1) (tbc zs16) 44 := (hb.block _ (by simp)).trans hr1; have hz := hb.size; simp only [World.size_alloc] at hz; clear hb))
  have hR2 : Blk (w1.alloc (.cells #[.bool false] 69)) (w.heap.size + 1) (tbc zs16) 44 := (Below.heap_alloc _ _ _ (blk_lt hR)).trans hR
  clear hr0 hr1 hR
  go_wp2_with (refine wpList_store_row rfl 44 _ _ rfl (w.heap.size + 1) (tbc zs16) rfl rfl 44 (tbc zs16) hR2 (szTab _ rfl) rfl (tbc_one _) ?_)
  exact bodyPost_ret (v := tbb none) ((results_row_slot Tryz.results68 _ _ (w.heap.size + 1) 44 (tbc zs16) (0, 0) _ rfl (setRow_heap _ _ (tbc zs16) _ _ _ hR2) Tryz.underlying44 rfl (szTab _ rfl)).trans (by rfl)) rfl ⟨rfl, below_setRow (hB.alloc hB.size _) (by omega) _⟩
set_option maxRecDepth 100000 in
set_option maxHeartbeats 4000000 in
theorem y_tabT (m : Mt) (w : World) (hv : mvalid m = true) : Calls Tryz.prog 68 #[.agg (mtc m)] w fun e w' => e = .returned (tbb (tabS4 true m.a m.b m.c m.d)) ∧ Below w.heap.size w w' := by
  obtain ⟨x0, n0, h0⟩ : ∃ x n, powS true true true m.a m.b m.c m.d = (x, n) := ⟨_, _, rfl⟩
  obtain ⟨x1, n1, h1⟩ : ∃ x n, powS false true false m.a m.b m.c m.d = (x, n) := ⟨_, _, rfl⟩
  obtain ⟨x2, n2, h2⟩ : ∃ x n, twoS false true (mfr m 0) (mfr m 1) (mfr m 2) (mfr m 3) = (x, n) := ⟨_, _, rfl⟩
  obtain ⟨x3, n3, h3⟩ : ∃ x n, twoS true true (mfr m 1) (mfr m 0) (mfr m 3) (mfr m 2) = (x, n) := ⟨_, _, rfl⟩
  obtain ⟨x4, n4, h4⟩ : ∃ x n, powS true false false m.a m.b m.c m.d = (x, n) := ⟨_, _, rfl⟩
  obtain ⟨x5, n5, h5⟩ : ∃ x n, powS false false true m.a m.b m.c m.d = (x, n) := ⟨_, _, rfl⟩
  obtain ⟨x6, n6, h6⟩ : ∃ x n, twoS false false (mfr m 0) (mfr m 1) (mfr m 2) (mfr m 3) = (x, n) := ⟨_, _, rfl⟩
  obtain ⟨x7, n7, h7⟩ : ∃ x n, twoS true false (mfr m 1) (mfr m 0) (mfr m 3) (mfr m 2) = (x, n) := ⟨_, _, rfl⟩
  obtain ⟨x8, n8, h8⟩ : ∃ x n, twoS false true (mfr m 0) (mfr m 2) (mfr m 1) (mfr m 3) = (x, n) := ⟨_, _, rfl⟩
  obtain ⟨x9, n9, h9⟩ : ∃ x n, twoS false false (mfr m 0) (mfr m 2) (mfr m 1) (mfr m 3) = (x, n) := ⟨_, _, rfl⟩
  obtain ⟨x10, n10, h10⟩ : ∃ x n, twoS false true (mfr m 0) (mfr m 3) (mfr m 1) (mfr m 2) = (x, n) := ⟨_, _, rfl⟩
  obtain ⟨x11, n11, h11⟩ : ∃ x n, twoS true false (mfr m 1) (mfr m 2) (mfr m 0) (mfr m 3) = (x, n) := ⟨_, _, rfl⟩
  obtain ⟨x12, n12, h12⟩ : ∃ x n, twoS true true (mfr m 0) (mfr m 2) (mfr m 1) (mfr m 3) = (x, n) := ⟨_, _, rfl⟩
  obtain ⟨x13, n13, h13⟩ : ∃ x n, twoS true false (mfr m 0) (mfr m 2) (mfr m 1) (mfr m 3) = (x, n) := ⟨_, _, rfl⟩
  obtain ⟨x14, n14, h14⟩ : ∃ x n, twoS true true (mfr m 0) (mfr m 3) (mfr m 1) (mfr m 2) = (x, n) := ⟨_, _, rfl⟩
  obtain ⟨x15, n15, h15⟩ : ∃ x n, twoS false false (mfr m 0) (mfr m 3) (mfr m 1) (mfr m 2) = (x, n) := ⟨_, _, rfl⟩
  have hE : entsS m.a m.b m.c m.d = [(x0, n0), (x1, n1), (x2, n2), (x3, n3), (x4, n4), (x5, n5), (x6, n6), (x7, n7), (x8, n8), (x9, n9), (x10, n10), (x11, n11), (x12, n12), (x13, n13), (x14, n14), (x15, n15)] := by
    unfold entsS
    rw [show powS true true true m.a m.b m.c m.d = (x0, n0) from h0, show powS false true false m.a m.b m.c m.d = (x1, n1) from h1, show twoS false true m.a m.b m.c m.d = (x2, n2) from h2, show twoS true true m.b m.a m.d m.c = (x3, n3) from h3, show powS true false false m.a m.b m.c m.d = (x4, n4) from h4, show powS false false true m.a m.b m.c m.d = (x5, n5) from h5, show twoS false false m.a m.b m.c m.d = (x6, n6) from h6, show twoS true false m.b m.a m.d m.c = (x7, n7) from h7, show twoS false true m.a m.c m.b m.d = (x8, n8) from h8, show twoS false false m.a m.c m.b m.d = (x9, n9) from h9, show twoS false true m.a m.d m.b m.c = (x10, n10) from h10, show twoS true false m.b m.c m.a m.d = (x11, n11) from h11, show twoS true true m.a m.c m.b m.d = (x12, n12) from h12, show twoS true false m.a m.c m.b m.d = (x13, n13) from h13, show twoS true true m.a m.d m.b m.c = (x14, n14) from h14, show twoS false false m.a m.d m.b m.c = (x15, n15) from h15]
  have HE := Lib.hid hE
  have H0 := Lib.hid h0
  have H1 := Lib.hid h1
  have H2 := Lib.hid h2
  have H3 := Lib.hid h3
  have H4 := Lib.hid h4
  have H5 := Lib.hid h5
  have H6 := Lib.hid h6
  have H7 := Lib.hid h7
  have H8 := Lib.hid h8
  have H9 := Lib.hid h9
  have H10 := Lib.hid h10
  have H11 := Lib.hid h11
  have H12 := Lib.hid h12
  have H13 := Lib.hid h13
  have H14 := Lib.hid h14
  have H15 := Lib.hid h15
  clear hE h0 h1 h2 h3 h4 h5 h6 h7 h8 h9 h10 h11 h12 h13 h14 h15
  have hr0 : ((w.alloc (.cells (mtc m) 36)).alloc (.cells (tbc zs16) 44)).heap[w.heap.size]? = some (.cells (mtc m) 36 (0, 0)) := (Below.heap_alloc _ _ _ (by simp)).trans (heap_alloc_last w _)
  have hr1 : ((w.alloc (.cells (mtc m) 36)).alloc (.cells (tbc zs16) 44)).heap[w.heap.size + 1]? = some (.cells (tbc zs16) 44 (0, 0)) := by
    have := heap_alloc_last (w.alloc (.cells (mtc m) 36)) (.cells (tbc zs16) 44)
    rwa [World.size_alloc] at this
  go_enter Tryz.func68, Tryz.ntmps68
  go_upto_region 4 with (first | (refine wpList_load_row rfl 36 _ rfl w.heap.size rfl 36 (mtc m) (0, 0) _ hr0 Tryz.underlying36 rfl (szMat m) ?_) | (go_at_call 109; (with_reducible refine (smvalid_tc m _ hv).mono ?_); rintro e w1 ⟨rfl, hb⟩; have hB : Below w.heap.size w w1 := bstep (by exact below_) hb (by simp; omega); have hA : Blk w1 w.heap.size (mtc m) 36 := (hb.block _ (by simp; omega)).trans hr0; have hR : Blk w1 (w.heap.size + 1) (tbc zs16) 44 := (hb.block _ (by simp)).trans hr1; have hz := hb.size; simp only [World.size_alloc] at hz; clear hb))
  clear hr0 hr1
  go_cut [5] from 16 to 16 (fun s5 W => s5 = .pointer (some ⟨w1.heap.size + 1, 0, none⟩) ∧ QA w w1.heap.size (w1.heap.size + 1) m [zK, zK, zK, zK, zK, zK, zK, zK, zK, zK, zK, zK, zK, zK, zK, zK] false W)
  case first =>
    have hnew : ((w1.alloc (.cells #[.bool true] 69)).alloc (.cells (tbc zs16) 44)).heap[w1.heap.size + 1]? = some (.cells (tbc zs16) 44 (0, 0)) := by
      have := heap_alloc_last (w1.alloc (.cells #[.bool true] 69)) (.cells (tbc zs16) 44)
      rwa [World.size_alloc] at this
    have hQ0 : QA w w1.heap.size (w1.heap.size + 1) m [zK, zK, zK, zK, zK, zK, zK, zK, zK, zK, zK, zK, zK, zK, zK, zK] false (((w1.alloc (.cells #[.bool true] 69)).alloc (.cells (tbc zs16) 44)).setRow (w1.heap.size + 1) (tbc zs16)) := by
      have fr : ∀ b, b < w1.heap.size → (((w1.alloc (.cells #[.bool true] 69)).alloc (.cells (tbc zs16) 44)).setRow (w1.heap.size + 1) (tbc zs16)).heap[b]? = w1.heap[b]? := fun b hb =>
        (setRow_far _ _ _ _ (by omega)).trans ((Below.heap_alloc _ _ _ (by simp; omega)).trans (Below.heap_alloc _ _ _ hb))
      refine ⟨below_setRow ((hB.alloc hB.size _).alloc (by simp; omega) _) (by omega) _, ?_, (fr _ (by omega)).trans hA, (fr _ (by omega)).trans hR, setRow_heap _ _ (tbc zs16) _ _ (0, 0) hnew, by omega, by omega⟩
      exact (setRow_far _ _ _ _ (by omega)).trans ((OkIs.new w1 false).alloc _)
    go_wp2_with (refine wpList_store_row rfl 44 _ _ rfl (w1.heap.size + 1) (tbc zs16) rfl rfl 44 (tbc zs16) hnew (szTab _ rfl) rfl (tbc_one _) ?_)
    go_meet
    case rel => exact ⟨rfl, hQ0⟩
  clear hB hA hR
  rename World => x0w
  obtain ⟨q5, hQ⟩ := hcut
  subst q5
  have hM := hQ.a
  go_upto_region 6 with (first | (refine wpList_load_row rfl 36 _ rfl w.heap.size rfl 36 (mtc m) (0, 0) _ hM Tryz.underlying36 rfl (szMat m) ?_) | (go_at_call 110; (with_reducible refine (y_powC m true true true 1 1 1 ⟨rfl, rfl, rfl⟩ x0 n0 H0.out w1.heap.size false _ hQ.s).mono ?_); rintro e wc ⟨rfl, hs, hx⟩; have hQc := hQ.call hx hs; obtain ⟨c0, c1, c2⟩ := blk_get hQc.o (i := 0) (show 0 < 16 by decide); simp only [Nat.reduceMul, Nat.reduceAdd, Nat.zero_add, Nat.zero_mul] at c0 c1 c2; have hfr := blk_free hQc.o; clear hs hx))
  obtain ⟨wn0, hWn, hQn⟩ : ∃ W, W = (((wc.setCell ⟨w1.heap.size + 1, 0, none⟩ (.int .i64 x0.re)).setCell ⟨w1.heap.size + 1, 1, none⟩ (.int .i64 x0.im)).setCell ⟨w1.heap.size + 1, 2, none⟩ (.int .i64 x0.den)) ∧ QA w w1.heap.size (w1.heap.size + 1) m [x0, zK, zK, zK, zK, zK, zK, zK, zK, zK, zK, zK, zK, zK, zK, zK] (false || n0) W := ⟨_, rfl, hQc.put (i := 0) (show 0 < 16 by decide) x0⟩
  rw [← hWn]
  clear hWn hQ hM hQc c0 c1 c2 hfr
  have hQ := hQn
  clear hQn
  have hM := hQ.a
  go_upto_region 7 with (first | (refine wpList_load_row rfl 36 _ rfl w.heap.size rfl 36 (mtc m) (0, 0) _ hM Tryz.underlying36 rfl (szMat m) ?_) | (go_at_call 110; (with_reducible refine (y_powC m false true false (-1) 1 (-1) ⟨rfl, rfl, rfl⟩ x1 n1 H1.out w1.heap.size (false || n0) _ hQ.s).mono ?_); rintro e wc ⟨rfl, hs, hx⟩; have hQc := hQ.call hx hs; obtain ⟨c0, c1, c2⟩ := blk_get hQc.o (i := 1) (show 1 < 16 by decide); simp only [Nat.reduceMul, Nat.reduceAdd, Nat.zero_add, Nat.zero_mul] at c0 c1 c2; have hfr := blk_free hQc.o; clear hs hx))
  obtain ⟨wn1, hWn, hQn⟩ : ∃ W, W = (((wc.setCell ⟨w1.heap.size + 1, 3, none⟩ (.int .i64 x1.re)).setCell ⟨w1.heap.size + 1, 4, none⟩ (.int .i64 x1.im)).setCell ⟨w1.heap.size + 1, 5, none⟩ (.int .i64 x1.den)) ∧ QA w w1.heap.size (w1.heap.size + 1) m [x0, x1, zK, zK, zK, zK, zK, zK, zK, zK, zK, zK, zK, zK, zK, zK] ((false || n0) || n1) W := ⟨_, rfl, hQc.put (i := 1) (show 1 < 16 by decide) x1⟩
  rw [← hWn]
  clear hWn hQ hM hQc c0 c1 c2 hfr
  have hQ := hQn
  clear hQn
  have hM := hQ.a
  go_upto_region 8 with (first | (refine wpList_load_row rfl 36 _ rfl w.heap.size rfl 36 (mtc m) (0, 0) _ hM Tryz.underlying36 rfl (szMat m) ?_) | (go_at_call 111; (with_reducible refine (y_twoC m 0 1 2 3 true false 0 1 1 2 3 ⟨rfl, rfl, rfl, rfl, rfl⟩ ⟨by decide, by decide, by decide, by decide⟩ x2 n2 H2.out w1.heap.size ((false || n0) || n1) _ hQ.s).mono ?_); rintro e wc ⟨rfl, hs, hx⟩; have hQc := hQ.call hx hs; obtain ⟨c0, c1, c2⟩ := blk_get hQc.o (i := 2) (show 2 < 16 by decide); simp only [Nat.reduceMul, Nat.reduceAdd, Nat.zero_add, Nat.zero_mul] at c0 c1 c2; have hfr := blk_free hQc.o; clear hs hx))
  obtain ⟨wn2, hWn, hQn⟩ : ∃ W, W = (((wc.setCell ⟨w1.heap.size + 1, 6, none⟩ (.int .i64 x2.re)).setCell ⟨w1.heap.size + 1, 7, none⟩ (.int .i64 x2.im)).setCell ⟨w1.heap.size + 1, 8, none⟩ (.int .i64 x2.den)) ∧ QA w w1.heap.size (w1.heap.size + 1) m [x0, x1, x2, zK, zK, zK, zK, zK, zK, zK, zK, zK, zK, zK, zK, zK] (((false || n0) || n1) || n2) W := ⟨_, rfl, hQc.put (i := 2) (show 2 < 16 by decide) x2⟩
  rw [← hWn]
  clear hWn hQ hM hQc c0 c1 c2 hfr
  have hQ := hQn
  clear hQn
  have hM := hQ.a
  go_upto_region 9 with (first | (refine wpList_load_row rfl 36 _ rfl w.heap.size rfl 36 (mtc m) (0, 0) _ hM Tryz.underlying36 rfl (szMat m) ?_) | (go_at_call 111; (with_reducible refine (y_twoC m 1 0 3 2 true true 1 0 1 3 2 ⟨rfl, rfl, rfl, rfl, rfl⟩ ⟨by decide, by decide, by decide, by decide⟩ x3 n3 H3.out w1.heap.size (((false || n0) || n1) || n2) _ hQ.s).mono ?_); rintro e wc ⟨rfl, hs, hx⟩; have hQc := hQ.call hx hs; obtain ⟨c0, c1, c2⟩ := blk_get hQc.o (i := 3) (show 3 < 16 by decide); simp only [Nat.reduceMul, Nat.reduceAdd, Nat.zero_add, Nat.zero_mul] at c0 c1 c2; have hfr := blk_free hQc.o; clear hs hx))
  obtain ⟨wn3, hWn, hQn⟩ : ∃ W, W = (((wc.setCell ⟨w1.heap.size + 1, 9, none⟩ (.int .i64 x3.re)).setCell ⟨w1.heap.size + 1, 10, none⟩ (.int .i64 x3.im)).setCell ⟨w1.heap.size + 1, 11, none⟩ (.int .i64 x3.den)) ∧ QA w w1.heap.size (w1.heap.size + 1) m [x0, x1, x2, x3, zK, zK, zK, zK, zK, zK, zK, zK, zK, zK, zK, zK] ((((false || n0) || n1) || n2) || n3) W := ⟨_, rfl, hQc.put (i := 3) (show 3 < 16 by decide) x3⟩
  rw [← hWn]
  clear hWn hQ hM hQc c0 c1 c2 hfr
  have hQ := hQn
  clear hQn
  have hM := hQ.a
  go_upto_region 10 with (first | (refine wpList_load_row rfl 36 _ rfl w.heap.size rfl 36 (mtc m) (0, 0) _ hM Tryz.underlying36 rfl (szMat m) ?_) | (go_at_call 110; (with_reducible refine (y_powC m true false false 1 (-1) (-1) ⟨rfl, rfl, rfl⟩ x4 n4 H4.out w1.heap.size ((((false || n0) || n1) || n2) || n3) _ hQ.s).mono ?_); rintro e wc ⟨rfl, hs, hx⟩; have hQc := hQ.call hx hs; obtain ⟨c0, c1, c2⟩ := blk_get hQc.o (i := 4) (show 4 < 16 by decide); simp only [Nat.reduceMul, Nat.reduceAdd, Nat.zero_add, Nat.zero_mul] at c0 c1 c2; have hfr := blk_free hQc.o; clear hs hx))
  obtain ⟨wn4, hWn, hQn⟩ : ∃ W, W = (((wc.setCell ⟨w1.heap.size + 1, 12, none⟩ (.int .i64 x4.re)).setCell ⟨w1.heap.size + 1, 13, none⟩ (.int .i64 x4.im)).setCell ⟨w1.heap.size + 1, 14, none⟩ (.int .i64 x4.den)) ∧ QA w w1.heap.size (w1.heap.size + 1) m [x0, x1, x2, x3, x4, zK, zK, zK, zK, zK, zK, zK, zK, zK, zK, zK] (((((false || n0) || n1) || n2) || n3) || n4) W := ⟨_, rfl, hQc.put (i := 4) (show 4 < 16 by decide) x4⟩
  rw [← hWn]
  clear hWn hQ hM hQc c0 c1 c2 hfr
  have hQ := hQn
  clear hQn
  have hM := hQ.a
  go_upto_region 11 with (first | (refine wpList_load_row rfl 36 _ rfl w.heap.size rfl 36 (mtc m) (0, 0) _ hM Tryz.underlying36 rfl (szMat m) ?_) | (go_at_call 110; (with_reducible refine (y_powC m false false true (-1) (-1) 1 ⟨rfl, rfl, rfl⟩ x5 n5 H5.out w1.heap.size (((((false || n0) || n1) || n2) || n3) || n4) _ hQ.s).mono ?_); rintro e wc ⟨rfl, hs, hx⟩; have hQc := hQ.call hx hs; obtain ⟨c0, c1, c2⟩ := blk_get hQc.o (i := 5) (show 5 < 16 by decide); simp only [Nat.reduceMul, Nat.reduceAdd, Nat.zero_add, Nat.zero_mul] at c0 c1 c2; have hfr := blk_free hQc.o; clear hs hx))
  obtain ⟨wn5, hWn, hQn⟩ : ∃ W, W = (((wc.setCell ⟨w1.heap.size + 1, 15, none⟩ (.int .i64 x5.re)).setCell ⟨w1.heap.size + 1, 16, none⟩ (.int .i64 x5.im)).setCell ⟨w1.heap.size + 1, 17, none⟩ (.int .i64 x5.den)) ∧ QA w w1.heap.size (w1.heap.size + 1) m [x0, x1, x2, x3, x4, x5, zK, zK, zK, zK, zK, zK, zK, zK, zK, zK] ((((((false || n0) || n1) || n2) || n3) || n4) || n5) W := ⟨_, rfl, hQc.put (i := 5) (show 5 < 16 by decide) x5⟩
  rw [← hWn]
  clear hWn hQ hM hQc c0 c1 c2 hfr
  have hQ := hQn
  clear hQn
  have hM := hQ.a
  go_upto_region 12 with (first | (refine wpList_load_row rfl 36 _ rfl w.heap.size rfl 36 (mtc m) (0, 0) _ hM Tryz.underlying36 rfl (szMat m) ?_) | (go_at_call 111; (with_reducible refine (y_twoC m 0 1 2 3 false false 0 1 (-1) 2 3 ⟨rfl, rfl, rfl, rfl, rfl⟩ ⟨by decide, by decide, by decide, by decide⟩ x6 n6 H6.out w1.heap.size ((((((false || n0) || n1) || n2) || n3) || n4) || n5) _ hQ.s).mono ?_); rintro e wc ⟨rfl, hs, hx⟩; have hQc := hQ.call hx hs; obtain ⟨c0, c1, c2⟩ := blk_get hQc.o (i := 6) (show 6 < 16 by decide); simp only [Nat.reduceMul, Nat.reduceAdd, Nat.zero_add, Nat.zero_mul] at c0 c1 c2; have hfr := blk_free hQc.o; clear hs hx))
  obtain ⟨wn6, hWn, hQn⟩ : ∃ W, W = (((wc.setCell ⟨w1.heap.size + 1, 18, none⟩ (.int .i64 x6.re)).setCell ⟨w1.heap.size + 1, 19, none⟩ (.int .i64 x6.im)).setCell ⟨w1.heap.size + 1, 20, none⟩ (.int .i64 x6.den)) ∧ QA w w1.heap.size (w1.heap.size + 1) m [x0, x1, x2, x3, x4, x5, x6, zK, zK, zK, zK, zK, zK, zK, zK, zK] (((((((false || n0) || n1) || n2) || n3) || n4) || n5) || n6) W := ⟨_, rfl, hQc.put (i := 6) (show 6 < 16 by decide) x6⟩
  rw [← hWn]
  clear hWn hQ hM hQc c0 c1 c2 hfr
  have hQ := hQn
  clear hQn
  have hM := hQ.a
  go_upto_region 13 with (first | (refine wpList_load_row rfl 36 _ rfl w.heap.size rfl 36 (mtc m) (0, 0) _ hM Tryz.underlying36 rfl (szMat m) ?_) | (go_at_call 111; (with_reducible refine (y_twoC m 1 0 3 2 false true 1 0 (-1) 3 2 ⟨rfl, rfl, rfl, rfl, rfl⟩ ⟨by decide, by decide, by decide, by decide⟩ x7 n7 H7.out w1.heap.size (((((((false || n0) || n1) || n2) || n3) || n4) || n5) || n6) _ hQ.s).mono ?_); rintro e wc ⟨rfl, hs, hx⟩; have hQc := hQ.call hx hs; obtain ⟨c0, c1, c2⟩ := blk_get hQc.o (i := 7) (show 7 < 16 by decide); simp only [Nat.reduceMul, Nat.reduceAdd, Nat.zero_add, Nat.zero_mul] at c0 c1 c2; have hfr := blk_free hQc.o; clear hs hx))
  obtain ⟨wn7, hWn, hQn⟩ : ∃ W, W = (((wc.setCell ⟨w1.heap.size + 1, 21, none⟩ (.int .i64 x7.re)).setCell ⟨w1.heap.size + 1, 22, none⟩ (.int .i64 x7.im)).setCell ⟨w1.heap.size + 1, 23, none⟩ (.int .i64 x7.den)) ∧ QA w w1.heap.size (w1.heap.size + 1) m [x0, x1, x2, x3, x4, x5, x6, x7, zK, zK, zK, zK, zK, zK, zK, zK] ((((((((false || n0) || n1) || n2) || n3) || n4) || n5) || n6) || n7) W := ⟨_, rfl, hQc.put (i := 7) (show 7 < 16 by decide) x7⟩
  rw [← hWn]
  clear hWn hQ hM hQc c0 c1 c2 hfr
  have hQ := hQn
  clear hQn
  have hM := hQ.a
  go_upto_region 14 with (first | (refine wpList_load_row rfl 36 _ rfl w.heap.size rfl 36 (mtc m) (0, 0) _ hM Tryz.underlying36 rfl (szMat m) ?_) | (go_at_call 111; (with_reducible refine (y_twoC m 0 2 1 3 true false 0 2 1 1 3 ⟨rfl, rfl, rfl, rfl, rfl⟩ ⟨by decide, by decide, by decide, by decide⟩ x8 n8 H8.out w1.heap.size ((((((((false || n0) || n1) || n2) || n3) || n4) || n5) || n6) || n7) _ hQ.s).mono ?_); rintro e wc ⟨rfl, hs, hx⟩; have hQc := hQ.call hx hs; obtain ⟨c0, c1, c2⟩ := blk_get hQc.o (i := 8) (show 8 < 16 by decide); simp only [Nat.reduceMul, Nat.reduceAdd, Nat.zero_add, Nat.zero_mul] at c0 c1 c2; have hfr := blk_free hQc.o; clear hs hx))
  obtain ⟨wn8, hWn, hQn⟩ : ∃ W, W = (((wc.setCell ⟨w1.heap.size + 1, 24, none⟩ (.int .i64 x8.re)).setCell ⟨w1.heap.size + 1, 25, none⟩ (.int .i64 x8.im)).setCell ⟨w1.heap.size + 1, 26, none⟩ (.int .i64 x8.den)) ∧ QA w w1.heap.size (w1.heap.size + 1) m [x0, x1, x2, x3, x4, x5, x6, x7, x8, zK, zK, zK, zK, zK, zK, zK] (((((((((false || n0) || n1) || n2) || n3) || n4) || n5) || n6) || n7) || n8) W := ⟨_, rfl, hQc.put (i := 8) (show 8 < 16 by decide) x8⟩
  rw [← hWn]
  clear hWn hQ hM hQc c0 c1 c2 hfr
  have hQ := hQn
  clear hQn
  have hM := hQ.a
  go_upto_region 15 with (first | (refine wpList_load_row rfl 36 _ rfl w.heap.size rfl 36 (mtc m) (0, 0) _ hM Tryz.underlying36 rfl (szMat m) ?_) | (go_at_call 111; (with_reducible refine (y_twoC m 0 2 1 3 false false 0 2 (-1) 1 3 ⟨rfl, rfl, rfl, rfl, rfl⟩ ⟨by decide, by decide, by decide, by decide⟩ x9 n9 H9.out w1.heap.size (((((((((false || n0) || n1) || n2) || n3) || n4) || n5) || n6) || n7) || n8) _ hQ.s).mono ?_); rintro e wc ⟨rfl, hs, hx⟩; have hQc := hQ.call hx hs; obtain ⟨c0, c1, c2⟩ := blk_get hQc.o (i := 9) (show 9 < 16 by decide); simp only [Nat.reduceMul, Nat.reduceAdd, Nat.zero_add, Nat.zero_mul] at c0 c1 c2; have hfr := blk_free hQc.o; clear hs hx))
  obtain ⟨wn9, hWn, hQn⟩ : ∃ W, W = (((wc.setCell ⟨w1.heap.size + 1, 27, none⟩ (.int .i64 x9.re)).setCell ⟨w1.heap.size + 1, 28, none⟩ (.int .i64 x9.im)).setCell ⟨w1.heap.size + 1, 29, none⟩ (.int .i64 x9.den)) ∧ QA w w1.heap.size (w1.heap.size + 1) m [x0, x1, x2, x3, x4, x5, x6, x7, x8, x9, zK, zK, zK, zK, zK, zK] ((((((((((false || n0) || n1) || n2) || n3) || n4) || n5) || n6) || n7) || n8) || n9) W := ⟨_, rfl, hQc.put (i := 9) (show 9 < 16 by decide) x9⟩
  rw [← hWn]
  clear hWn hQ hM hQc c0 c1 c2 hfr
  have hQ := hQn
  clear hQn
  have hM := hQ.a
  go_upto_region 16 with (first | (refine wpList_load_row rfl 36 _ rfl w.heap.size rfl 36 (mtc m) (0, 0) _ hM Tryz.underlying36 rfl (szMat m) ?_) | (go_at_call 111; (with_reducible refine (y_twoC m 0 3 1 2 true false 0 3 1 1 2 ⟨rfl, rfl, rfl, rfl, rfl⟩ ⟨by decide, by decide, by decide, by decide⟩ x10 n10 H10.out w1.heap.size ((((((((((false || n0) || n1) || n2) || n3) || n4) || n5) || n6) || n7) || n8) || n9) _ hQ.s).mono ?_); rintro e wc ⟨rfl, hs, hx⟩; have hQc := hQ.call hx hs; obtain ⟨c0, c1, c2⟩ := blk_get hQc.o (i := 10) (show 10 < 16 by decide); simp only [Nat.reduceMul, Nat.reduceAdd, Nat.zero_add, Nat.zero_mul] at c0 c1 c2; have hfr := blk_free hQc.o; clear hs hx))
  obtain ⟨wn10, hWn, hQn⟩ : ∃ W, W = (((wc.setCell ⟨w1.heap.size + 1, 30, none⟩ (.int .i64 x10.re)).setCell ⟨w1.heap.size + 1, 31, none⟩ (.int .i64 x10.im)).setCell ⟨w1.heap.size + 1, 32, none⟩ (.int .i64 x10.den)) ∧ QA w w1.heap.size (w1.heap.size + 1) m [x0, x1, x2, x3, x4, x5, x6, x7, x8, x9, x10, zK, zK, zK, zK, zK] (((((((((((false || n0) || n1) || n2) || n3) || n4) || n5) || n6) || n7) || n8) || n9) || n10) W := ⟨_, rfl, hQc.put (i := 10) (show 10 < 16 by decide) x10⟩
  rw [← hWn]
  clear hWn hQ hM hQc c0 c1 c2 hfr
  have hQ := hQn
  clear hQn
  have hM := hQ.a
  go_upto_region 17 with (first | (refine wpList_load_row rfl 36 _ rfl w.heap.size rfl 36 (mtc m) (0, 0) _ hM Tryz.underlying36 rfl (szMat m) ?_) | (go_at_call 111; (with_reducible refine (y_twoC m 1 2 0 3 false true 1 2 (-1) 0 3 ⟨rfl, rfl, rfl, rfl, rfl⟩ ⟨by decide, by decide, by decide, by decide⟩ x11 n11 H11.out w1.heap.size (((((((((((false || n0) || n1) || n2) || n3) || n4) || n5) || n6) || n7) || n8) || n9) || n10) _ hQ.s).mono ?_); rintro e wc ⟨rfl, hs, hx⟩; have hQc := hQ.call hx hs; obtain ⟨c0, c1, c2⟩ := blk_get hQc.o (i := 11) (show 11 < 16 by decide); simp only [Nat.reduceMul, Nat.reduceAdd, Nat.zero_add, Nat.zero_mul] at c0 c1 c2; have hfr := blk_free hQc.o; clear hs hx))
  obtain ⟨wn11, hWn, hQn⟩ : ∃ W, W = (((wc.setCell ⟨w1.heap.size + 1, 33, none⟩ (.int .i64 x11.re)).setCell ⟨w1.heap.size + 1, 34, none⟩ (.int .i64 x11.im)).setCell ⟨w1.heap.size + 1, 35, none⟩ (.int .i64 x11.den)) ∧ QA w w1.heap.size (w1.heap.size + 1) m [x0, x1, x2, x3, x4, x5, x6, x7, x8, x9, x10, x11, zK, zK, zK, zK] ((((((((((((false || n0) || n1) || n2) || n3) || n4) || n5) || n6) || n7) || n8) || n9) || n10) || n11) W := ⟨_, rfl, hQc.put (i := 11) (show 11 < 16 by decide) x11⟩
  rw [← hWn]
  clear hWn hQ hM hQc c0 c1 c2 hfr
  have hQ := hQn
  clear hQn
  have hM := hQ.a
  go_upto_region 18 with (first | (refine wpList_load_row rfl 36 _ rfl w.heap.size rfl 36 (mtc m) (0, 0) _ hM Tryz.underlying36 rfl (szMat m) ?_) | (go_at_call 111; (with_reducible refine (y_twoC m 0 2 1 3 true true 0 2 1 1 3 ⟨rfl, rfl, rfl, rfl, rfl⟩ ⟨by decide, by decide, by decide, by decide⟩ x12 n12 H12.out w1.heap.size ((((((((((((false || n0) || n1) || n2) || n3) || n4) || n5) || n6) || n7) || n8) || n9) || n10) || n11) _ hQ.s).mono ?_); rintro e wc ⟨rfl, hs, hx⟩; have hQc := hQ.call hx hs; obtain ⟨c0, c1, c2⟩ := blk_get hQc.o (i := 12) (show 12 < 16 by decide); simp only [Nat.reduceMul, Nat.reduceAdd, Nat.zero_add, Nat.zero_mul] at c0 c1 c2; have hfr := blk_free hQc.o; clear hs hx))
  obtain ⟨wn12, hWn, hQn⟩ : ∃ W, W = (((wc.setCell ⟨w1.heap.size + 1, 36, none⟩ (.int .i64 x12.re)).setCell ⟨w1.heap.size + 1, 37, none⟩ (.int .i64 x12.im)).setCell ⟨w1.heap.size + 1, 38, none⟩ (.int .i64 x12.den)) ∧ QA w w1.heap.size (w1.heap.size + 1) m [x0, x1, x2, x3, x4, x5, x6, x7, x8, x9, x10, x11, x12, zK, zK, zK] (((((((((((((false || n0) || n1) || n2) || n3) || n4) || n5) || n6) || n7) || n8) || n9) || n10) || n11) || n12) W := ⟨_, rfl, hQc.put (i := 12) (show 12 < 16 by decide) x12⟩
  rw [← hWn]
  clear hWn hQ hM hQc c0 c1 c2 hfr
  have hQ := hQn
  clear hQn
  have hM := hQ.a
  go_upto_region 19 with (first | (refine wpList_load_row rfl 36 _ rfl w.heap.size rfl 36 (mtc m) (0, 0) _ hM Tryz.underlying36 rfl (szMat m) ?_) | (go_at_call 111; (with_reducible refine (y_twoC m 0 2 1 3 false true 0 2 (-1) 1 3 ⟨rfl, rfl, rfl, rfl, rfl⟩ ⟨by decide, by decide, by decide, by decide⟩ x13 n13 H13.out w1.heap.size (((((((((((((false || n0) || n1) || n2) || n3) || n4) || n5) || n6) || n7) || n8) || n9) || n10) || n11) || n12) _ hQ.s).mono ?_); rintro e wc ⟨rfl, hs, hx⟩; have hQc := hQ.call hx hs; obtain ⟨c0, c1, c2⟩ := blk_get hQc.o (i := 13) (show 13 < 16 by decide); simp only [Nat.reduceMul, Nat.reduceAdd, Nat.zero_add, Nat.zero_mul] at c0 c1 c2; have hfr := blk_free hQc.o; clear hs hx))
  obtain ⟨wn13, hWn, hQn⟩ : ∃ W, W = (((wc.setCell ⟨w1.heap.size + 1, 39, none⟩ (.int .i64 x13.re)).setCell ⟨w1.heap.size + 1, 40, none⟩ (.int .i64 x13.im)).setCell ⟨w1.heap.size + 1, 41, none⟩ (.int .i64 x13.den)) ∧ QA w w1.heap.size (w1.heap.size + 1) m [x0, x1, x2, x3, x4, x5, x6, x7, x8, x9, x10, x11, x12, x13, zK, zK] ((((((((((((((false || n0) || n1) || n2) || n3) || n4) || n5) || n6) || n7) || n8) || n9) || n10) || n11) || n12) || n13) W := ⟨_, rfl, hQc.put (i := 13) (show 13 < 16 by decide) x13⟩
  rw [← hWn]
  clear hWn hQ hM hQc c0 c1 c2 hfr
  have hQ := hQn
  clear hQn
  have hM := hQ.a
  go_upto_region 20 with (first | (refine wpList_load_row rfl 36 _ rfl w.heap.size rfl 36 (mtc m) (0, 0) _ hM Tryz.underlying36 rfl (szMat m) ?_) | (go_at_call 111; (with_reducible refine (y_twoC m 0 3 1 2 true true 0 3 1 1 2 ⟨rfl, rfl, rfl, rfl, rfl⟩ ⟨by decide, by decide, by decide, by decide⟩ x14 n14 H14.out w1.heap.size ((((((((((((((false || n0) || n1) || n2) || n3) || n4) || n5) || n6) || n7) || n8) || n9) || n10) || n11) || n12) || n13) _ hQ.s).mono ?_); rintro e wc ⟨rfl, hs, hx⟩; have hQc := hQ.call hx hs; obtain ⟨c0, c1, c2⟩ := blk_get hQc.o (i := 14) (show 14 < 16 by decide); simp only [Nat.reduceMul, Nat.reduceAdd, Nat.zero_add, Nat.zero_mul] at c0 c1 c2; have hfr := blk_free hQc.o; clear hs hx))
  obtain ⟨wn14, hWn, hQn⟩ : ∃ W, W = (((wc.setCell ⟨w1.heap.size + 1, 42, none⟩ (.int .i64 x14.re)).setCell ⟨w1.heap.size + 1, 43, none⟩ (.int .i64 x14.im)).setCell ⟨w1.heap.size + 1, 44, none⟩ (.int .i64 x14.den)) ∧ QA w w1.heap.size (w1.heap.size + 1) m [x0, x1, x2, x3, x4, x5, x6, x7, x8, x9, x10, x11, x12, x13, x14, zK] (((((((((((((((false || n0) || n1) || n2) || n3) || n4) || n5) || n6) || n7) || n8) || n9) || n10) || n11) || n12) || n13) || n14) W := ⟨_, rfl, hQc.put (i := 14) (show 14 < 16 by decide) x14⟩
  rw [← hWn]
  clear hWn hQ hM hQc c0 c1 c2 hfr
  have hQ := hQn
  clear hQn
  have hM := hQ.a
  go_upto_region 21 with (first | (refine wpList_load_row rfl 36 _ rfl w.heap.size rfl 36 (mtc m) (0, 0) _ hM Tryz.underlying36 rfl (szMat m) ?_) | (go_at_call 111; (with_reducible refine (y_twoC m 0 3 1 2 false false 0 3 (-1) 1 2 ⟨rfl, rfl, rfl, rfl, rfl⟩ ⟨by decide, by decide, by decide, by decide⟩ x15 n15 H15.out w1.heap.size (((((((((((((((false || n0) || n1) || n2) || n3) || n4) || n5) || n6) || n7) || n8) || n9) || n10) || n11) || n12) || n13) || n14) _ hQ.s).mono ?_); rintro e wc ⟨rfl, hs, hx⟩; have hQc := hQ.call hx hs; obtain ⟨c0, c1, c2⟩ := blk_get hQc.o (i := 15) (show 15 < 16 by decide); simp only [Nat.reduceMul, Nat.reduceAdd, Nat.zero_add, Nat.zero_mul] at c0 c1 c2; have hfr := blk_free hQc.o; clear hs hx))
  obtain ⟨wn15, hWn, hQn⟩ : ∃ W, W = (((wc.setCell ⟨w1.heap.size + 1, 45, none⟩ (.int .i64 x15.re)).setCell ⟨w1.heap.size + 1, 46, none⟩ (.int .i64 x15.im)).setCell ⟨w1.heap.size + 1, 47, none⟩ (.int .i64 x15.den)) ∧ QA w w1.heap.size (w1.heap.size + 1) m [x0, x1, x2, x3, x4, x5, x6, x7, x8, x9, x10, x11, x12, x13, x14, x15] ((((((((((((((((false || n0) || n1) || n2) || n3) || n4) || n5) || n6) || n7) || n8) || n9) || n10) || n11) || n12) || n13) || n14) || n15) W := ⟨_, rfl, hQc.put (i := 15) (show 15 < 16 by decide) x15⟩
  rw [← hWn]
  clear hWn hQ hM hQc c0 c1 c2 hfr
  have hQ := hQn
  clear hQn
  have hcs := hQ.s.cell
  have hOut := hQ.o
  have hR := hQ.r
  have hB := hQ.B
  have hd := hQ.d
  have hE2 : tabS4 true m.a m.b m.c m.d = if ((((((((((((((((false || n0) || n1) || n2) || n3) || n4) || n5) || n6) || n7) || n8) || n9) || n10) || n11) || n12) || n13) || n14) || n15) then none else some [x0, x1, x2, x3, x4, x5, x6, x7, x8, x9, x10, x11, x12, x13, x14, x15] := by
    unfold tabS4
    rw [HE.out]
    simp only [List.any_cons, List.any_nil, List.map_cons, List.map_nil, Bool.not_true, Bool.false_or, Bool.or_false, Bool.or_assoc]
  clear hQ H0 H1 H2 H3 H4 H5 H6 H7 H8 H9 H10 H11 H12 H13 H14 H15 HE
  obtain ⟨bb, hbb⟩ : ∃ x, x = ((((((((((((((((false || n0) || n1) || n2) || n3) || n4) || n5) || n6) || n7) || n8) || n9) || n10) || n11) || n12) || n13) || n14) || n15) := ⟨_, rfl⟩
  rw [← hbb] at hcs hE2
  clear hbb
  have HE2 := Lib.hid hE2
  clear hE2
  cases bb
  · go_wp2_with (first | (refine wpList_load_row rfl 44 _ rfl (w1.heap.size + 1) rfl 44 (tbc [x0, x1, x2, x3, x4, x5, x6, x7, x8, x9, x10, x11, x12, x13, x14, x15]) (0, 0) _ hOut Tryz.underlying44 rfl (szTab _ rfl) ?_) | (refine wpList_store_row rfl 44 _ _ rfl (w.heap.size + 1) (tbc [x0, x1, x2, x3, x4, x5, x6, x7, x8, x9, x10, x11, x12, x13, x14, x15]) rfl rfl 44 (tbc zs16) hR (szTab _ rfl) rfl (tbc_one _) ?_))
    refine bodyPost_ret (v := tbb (tabS4 true m.a m.b m.c m.d)) ((results_row_slot Tryz.results68 _ _ (w.heap.size + 1) 44 (tbc [x0, x1, x2, x3, x4, x5, x6, x7, x8, x9, x10, x11, x12, x13, x14, x15]) (0, 0) _ rfl (setRow_heap _ _ (tbc zs16) _ _ _ hR) Tryz.underlying44 rfl (szTab _ rfl)).trans ?_) rfl ⟨rfl, below_setRow hB (by omega) _⟩
    rw [HE2.out]
    rfl
  · go_wp2_with (first | (refine wpList_store_row rfl 44 _ _ rfl (w.heap.size + 1) (tbc zs16) rfl rfl 44 (tbc zs16) hR (szTab _ rfl) rfl (tbc_one _) ?_))
    refine bodyPost_ret (v := tbb (tabS4 true m.a m.b m.c m.d)) ((results_row_slot Tryz.results68 _ _ (w.heap.size + 1) 44 (tbc zs16) (0, 0) _ rfl (setRow_heap _ _ (tbc zs16) _ _ _ hR) Tryz.underlying44 rfl (szTab _ rfl)).trans ?_) rfl ⟨rfl, below_setRow hB (by omega) _⟩
    rw [HE2.out]
    rfl
theorem y_tab (m : Mt) (w : World) : Calls Tryz.prog 68 #[.agg (mtc m)] w fun e w' => e = .returned (tbb (tabM m)) ∧ Below w.heap.size w w' := by
  have e : tabM m = tabS4 (mvalid m) m.a m.b m.c m.d := tab_eq m.a m.b m.c m.d
  rw [e]
  cases hv : mvalid m
  · have : tabS4 false m.a m.b m.c m.d = none := by simp [tabS4]
    rw [this]
    exact y_tabF m w hv
  · exact y_tabT m w hv
end Go.Proofs.YtodhbkinbcemnaaGreatDoor
