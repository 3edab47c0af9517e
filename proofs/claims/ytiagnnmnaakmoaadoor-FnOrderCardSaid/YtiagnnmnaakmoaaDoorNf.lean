/-
  The walk of the program's plate.
-/
import Derived.Test.YtiagnnmnaakmoaaDoorPs
import Derived.Test.YtiagnnmnaakmoaaDoorMw
namespace Go.Proofs.YtiagnnmnaakmoaaDoor
set_option linter.unusedSimpArgs false
set_option linter.unusedVariables false
open Go.RowKit
attribute [local go_sem ↓] Go.wp_at_zero Go.wp_at_succ
theorem mtimes_rd (p q k : Int) (a : Mt) (w : World) (h : mtimesI (rotM p q) (diagM (phF 0) (phF k)) = some a) :
    Calls Tryd.prog 36 #[mtv (rotM p q), .agg #[.int .i64 1, .int .i64 0, .int .i64 1, .int .i64 0, .int .i64 0, .int .i64 1, .int .i64 0, .int .i64 0, .int .i64 1, .int .i64 (phF k).re, .int .i64 (phF k).im, .int .i64 (phF k).den]] w fun e w' => e = .returned (mtb (some a)) ∧ Below w.heap.size w w' := by
  have := mtimes_any (rotM p q) (diagM (phF 0) (phF k)) w
  rw [h] at this
  exact this
theorem mtimes_o (m n : Mt) (o : Option Mt) (w : World) (h : mtimesI m n = o) : Calls Tryd.prog 36 #[mtv m, mtv n] w fun e w' => e = .returned (mtb o) ∧ Below w.heap.size w w' := by
  rw [← h]; exact mtimes_any m n w
theorem gt_at {w : World} (h : GT w) (k : Nat) (hk : k ≤ 3) : w.cell? ⟨3, k * 3, none⟩ = some (.int .i64 (phF k).re) ∧ w.cell? ⟨3, k * 3 + 1, none⟩ = some (.int .i64 (phF k).im) ∧ w.cell? ⟨3, k * 3 + 2, none⟩ = some (.int .i64 (phF k).den) := by
  obtain ⟨h0, h1, h2, h3⟩ := h.val
  match k, hk with
  | 0, _ => exact h0
  | 1, _ => exact h1
  | 2, _ => exact h2
  | 3, _ => exact h3
set_option maxRecDepth 100000 in
set_option maxHeartbeats 4000000 in
theorem plate_any (p q k : Int) (w : World) (hO : GO w) (hZ : GZ w) (hT : GT w) :
    Calls Tryd.prog 40 #[.int .i64 p, .int .i64 q, .int .i64 k] w fun e w' => e = .returned (mtb (plateI p q k)) ∧ Below w.heap.size w w' := by
  cases h : dirOk p q
  · rw [show plateI p q k = none by simp [plateI, h]]
    go_enter Tryd.func40, Tryd.ntmps40
    go_wp2_with (first | (go_at_call 66; (with_reducible refine (rot_f p q _ h).mono ?_); rintro e w1 ⟨rfl, hb⟩; obtain ⟨hc, hf⟩ := bf hb (w.heap.size + 1) side_; have hs := hb.size; (try simp only [World.size_alloc, World.size_setCell, World.size_drew, World.heap_drewN] at hs); have hl : w.heap.size ≤ w1.heap.size ∧ w.heap.size < w1.heap.size := ⟨by omega, by omega⟩; obtain ⟨B, hBe, hBl, hc2, hf2⟩ := bfA hb; (try simp only [World.size_alloc, World.size_setCell, World.size_drew, World.heap_drewN] at hBe); have hB : Below w.heap.size w w1 := bstep (by exact below_) hb side_; clear hs hb))
    exact bodyPost_ret (v := mtb none) (by simp [results, Tryd.results40, go_sem, *]) rfl ⟨rfl, by exact below_⟩
  cases hk : inB k 0 3
  · rw [show plateI p q k = none by simp [plateI, h, hk]]
    go_enter Tryd.func40, Tryd.ntmps40
    go_wp2_with (first | (go_at_call 66; (with_reducible refine (rot_t p q _ h).mono ?_); rintro e w1 ⟨rfl, hb⟩; obtain ⟨hc, hf⟩ := bf hb (w.heap.size + 1) side_; have hs := hb.size; (try simp only [World.size_alloc, World.size_setCell, World.size_drew, World.heap_drewN] at hs); have hl : w.heap.size ≤ w1.heap.size ∧ w.heap.size < w1.heap.size := ⟨by omega, by omega⟩; obtain ⟨B, hBe, hBl, hc2, hf2⟩ := bfA hb; (try simp only [World.size_alloc, World.size_setCell, World.size_drew, World.heap_drewN] at hBe); have hB : Below w.heap.size w w1 := bstep (by exact below_) hb side_; clear hs hb) | (go_at_call 67; refine (within_f _ _ _ _ (by assumption)).mono ?_; rintro e w1 ⟨rfl, rfl⟩))
    exact bodyPost_ret (v := mtb none) (by simp [results, Tryd.results40, go_sem, *]) rfl ⟨rfl, by exact below_⟩
  obtain ⟨a, b, hMA, hMB⟩ := plate_some h hk
  rw [show plateI p q k = some b by simp [plateI, h, hk, hMA, hMB]]
  have hk2 := hk
  rw [inB_iff] at hk2
  obtain ⟨kn, rfl⟩ := Int.eq_ofNat_of_zero_le hk2.1
  have hk3 : kn ≤ 3 := by omega
  have hk4 : kn < 4 := by omega
  have hk5 : (0 : Int) ≤ (kn : Int) := by omega
  have hk6 : (kn : Int) < 4 := by omega
  have hk7 : (kn : Int) ≤ 3 := by omega
  have hgo := hO.lts; have hgz := hZ.lts; have hgt := hT.lts
  clear hk2
  go_enter Tryd.func40, Tryd.ntmps40
  go_wp2_with ((go_at_call 66; (with_reducible refine (rot_t p q _ h).mono ?_); rintro e wr ⟨rfl, hb⟩; obtain ⟨hc, hf⟩ := bf hb (w.heap.size + 1) side_; have hs := hb.size; (try simp only [World.size_alloc, World.size_setCell, World.size_drew, World.heap_drewN] at hs); have hl : w.heap.size ≤ wr.heap.size ∧ w.heap.size < wr.heap.size := ⟨by omega, by omega⟩; obtain ⟨B, hBe, hBl, hc2, hf2⟩ := bfA hb; (try simp only [World.size_alloc, World.size_setCell, World.size_drew, World.heap_drewN] at hBe); have hB : Below w.heap.size w wr := bstep (by exact below_) hb side_; clear hs hb; refine Hid.out ?_))
  refine Lib.hid ?_
  go_wp2_with (go_at_call 67; refine (within_t _ _ _ _ (by assumption)).mono ?_; rintro e w1 ⟨rfl, rfl⟩)

  go_region_held3 (fun w' => (w'.cell? ⟨wr.heap.size, 0, none⟩ = some (.int .i64 (rotM p q).a.re) ∧ w'.cell? ⟨wr.heap.size, 1, none⟩ = some (.int .i64 (rotM p q).a.im) ∧ w'.cell? ⟨wr.heap.size, 2, none⟩ = some (.int .i64 (rotM p q).a.den) ∧ w'.cell? ⟨wr.heap.size, 3, none⟩ = some (.int .i64 (rotM p q).b.re) ∧ w'.cell? ⟨wr.heap.size, 4, none⟩ = some (.int .i64 (rotM p q).b.im) ∧ w'.cell? ⟨wr.heap.size, 5, none⟩ = some (.int .i64 (rotM p q).b.den) ∧ w'.cell? ⟨wr.heap.size, 6, none⟩ = some (.int .i64 (rotM p q).c.re) ∧ w'.cell? ⟨wr.heap.size, 7, none⟩ = some (.int .i64 (rotM p q).c.im) ∧ w'.cell? ⟨wr.heap.size, 8, none⟩ = some (.int .i64 (rotM p q).c.den) ∧ w'.cell? ⟨wr.heap.size, 9, none⟩ = some (.int .i64 (rotM p q).d.re) ∧ w'.cell? ⟨wr.heap.size, 10, none⟩ = some (.int .i64 (rotM p q).d.im) ∧ w'.cell? ⟨wr.heap.size, 11, none⟩ = some (.int .i64 (rotM p q).d.den)) ∧ (w'.cell? ⟨2, 0, none⟩ = some (.int .i64 1) ∧ w'.cell? ⟨2, 1, none⟩ = some (.int .i64 0) ∧ w'.cell? ⟨2, 2, none⟩ = some (.int .i64 1)) ∧ (w'.cell? ⟨1, 0, none⟩ = some (.int .i64 0) ∧ w'.cell? ⟨1, 1, none⟩ = some (.int .i64 0) ∧ w'.cell? ⟨1, 2, none⟩ = some (.int .i64 1)) ∧ (w'.cell? ⟨3, kn * 3, none⟩ = some (.int .i64 (phF kn).re) ∧ w'.cell? ⟨3, kn * 3 + 1, none⟩ = some (.int .i64 (phF kn).im) ∧ w'.cell? ⟨3, kn * 3 + 2, none⟩ = some (.int .i64 (phF kn).den))) ((refine And.intro ?_ (And.intro ?_ (And.intro ?_ ?_)); (show MtAt _ wr.heap.size (rotM p q); (repeat' (first | (with_reducible assumption) | (with_reducible exact MtAt.new _ _ _) | (with_reducible apply MtAt.alloc) | (with_reducible apply MtAt.drewN) | (with_reducible apply MtAt.drew) | (with_reducible refine MtAt.far ?_ side_ _)))); (refine GO.val (GO.below hO ?_); exact below_); (refine GZ.val (GZ.below hZ ?_); exact below_); (refine gt_at (GT.below hT ?_) kn hk3; exact below_))) (first | (go_at_call 36; (with_reducible refine (mtimes_rd p q kn a _ hMA).mono ?_); rintro e w1 ⟨rfl, hb⟩; obtain ⟨hc, hf⟩ := bf hb (w.heap.size + 1) side_; have hs := hb.size; (try simp only [World.size_alloc, World.size_setCell, World.size_drew, World.heap_drewN] at hs); have hl : w.heap.size ≤ w1.heap.size ∧ w.heap.size < w1.heap.size := ⟨by omega, by omega⟩; obtain ⟨B, hBe, hBl, hc2, hf2⟩ := bfA hb; (try simp only [World.size_alloc, World.size_setCell, World.size_drew, World.heap_drewN] at hBe); have hB : Below w.heap.size w w1 := bstep (by exact below_) hb side_; have hM : MtAt w1 (wr.heap.size) ((rotM p q)) := (by refine MtAt.below (w := _) ?_ hb ?_; (repeat' (first | (with_reducible assumption) | (with_reducible exact MtAt.new _ _ _) | (with_reducible apply MtAt.alloc) | (with_reducible apply MtAt.drewN) | (with_reducible apply MtAt.drew) | (with_reducible refine MtAt.far ?_ side_ _))); first | done | omega | (simp; done) | (simp; omega)); have hzM : wr.heap.size < w1.heap.size := (by refine Nat.lt_of_lt_of_le ?_ hb.size; first | omega | (simp; done) | (simp; omega)); clear hs hb))
  all_goals go_wp2_with (first | (go_at_call 68; (with_reducible refine (madj_r p q _).mono ?_); rintro e w1 ⟨rfl, hb⟩; obtain ⟨hc, hf⟩ := bf hb (w.heap.size + 1) side_; have hs := hb.size; (try simp only [World.size_alloc, World.size_setCell, World.size_drew, World.heap_drewN] at hs); have hl : w.heap.size ≤ w1.heap.size ∧ w.heap.size < w1.heap.size := ⟨by omega, by omega⟩; obtain ⟨B, hBe, hBl, hc2, hf2⟩ := bfA hb; (try simp only [World.size_alloc, World.size_setCell, World.size_drew, World.heap_drewN] at hBe); have hB : Below w.heap.size w w1 := bstep (by exact below_) hb side_; clear hs hb) | (go_at_call 36; (with_reducible refine (mtimes_o a (adjR p q) _ _ hMB).mono ?_); rintro e w1 ⟨rfl, hb⟩; obtain ⟨hc, hf⟩ := bf hb (w.heap.size + 1) side_; have hs := hb.size; (try simp only [World.size_alloc, World.size_setCell, World.size_drew, World.heap_drewN] at hs); have hl : w.heap.size ≤ w1.heap.size ∧ w.heap.size < w1.heap.size := ⟨by omega, by omega⟩; obtain ⟨B, hBe, hBl, hc2, hf2⟩ := bfA hb; (try simp only [World.size_alloc, World.size_setCell, World.size_drew, World.heap_drewN] at hBe); have hB : Below w.heap.size w w1 := bstep (by exact below_) hb side_; clear hs hb))
  all_goals exact bodyPost_ret (v := mtb (some b)) (by simp [results, Tryd.results40, go_sem, *]) rfl ⟨rfl, by exact below_⟩
end Go.Proofs.YtiagnnmnaakmoaaDoor
