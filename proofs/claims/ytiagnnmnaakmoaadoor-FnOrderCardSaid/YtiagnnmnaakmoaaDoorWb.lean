/-
  The walks of the operations on exact fractions, program and reference.
-/
import Derived.Test.YtiagnnmnaakmoaaDoorWs
namespace Go.Proofs.YtiagnnmnaakmoaaDoor
set_option linter.unusedSimpArgs false
set_option linter.unusedVariables false
open Go.RowKit
set_option maxHeartbeats 1000000 in
theorem times_any (a b : Fr) (w : World) :
    Calls Tryd.prog 18 #[frv a, frv b] w fun e w' => e = .returned (frb (timesI a b)) ∧ Below w.heap.size w w' := by
  cases ha : fvalid a
  · have e : timesI a b = none := by simp [timesI, ha]
    rw [e]; clear e
    go_enter Tryd.func18, Tryd.ntmps18
    go_wp2_with (first | (go_at_call 48; (with_reducible refine (fvalid_f _ _ (by assumption)).mono ?_); rintro e w1 ⟨rfl, hb⟩; obtain ⟨hc, hf⟩ := bf hb (w.heap.size + 1 + 1 + 1) side_; have hs := hb.size; (try simp only [World.size_alloc, World.size_setCell, World.size_drew, World.heap_drewN] at hs); have hl : w.heap.size ≤ w1.heap.size ∧ w.heap.size < w1.heap.size ∧ w.heap.size + 1 < w1.heap.size ∧ w.heap.size + 1 + 1 < w1.heap.size := ⟨by omega, by omega, by omega, by omega⟩; have hB : Below w.heap.size w w1 := bstep (by exact below_) hb side_; clear hs hb))
    exact bodyPost_ret (v := frb none) (by simp [results, Tryd.results18, go_sem, *]) rfl ⟨rfl, by exact below_⟩
  cases hb : fvalid b
  · have e : timesI a b = none := by simp [timesI, ha, hb]
    rw [e]; clear e
    go_enter Tryd.func18, Tryd.ntmps18
    go_wp2_with (first | (go_at_call 48; (with_reducible refine (fvalid_t _ _ (by assumption)).mono ?_); rintro e w1 ⟨rfl, hb⟩; obtain ⟨hc, hf⟩ := bf hb (w.heap.size + 1 + 1 + 1) side_; have hs := hb.size; (try simp only [World.size_alloc, World.size_setCell, World.size_drew, World.heap_drewN] at hs); have hl : w.heap.size ≤ w1.heap.size ∧ w.heap.size < w1.heap.size ∧ w.heap.size + 1 < w1.heap.size ∧ w.heap.size + 1 + 1 < w1.heap.size := ⟨by omega, by omega, by omega, by omega⟩; have hB : Below w.heap.size w w1 := bstep (by exact below_) hb side_; clear hs hb) | (go_at_call 48; (with_reducible refine (fvalid_f _ _ (by assumption)).mono ?_); rintro e w1 ⟨rfl, hb⟩; obtain ⟨hc, hf⟩ := bf hb (w.heap.size + 1 + 1 + 1) side_; have hs := hb.size; (try simp only [World.size_alloc, World.size_setCell, World.size_drew, World.heap_drewN] at hs); have hl : w.heap.size ≤ w1.heap.size ∧ w.heap.size < w1.heap.size ∧ w.heap.size + 1 < w1.heap.size ∧ w.heap.size + 1 + 1 < w1.heap.size := ⟨by omega, by omega, by omega, by omega⟩; have hB : Below w.heap.size w w1 := bstep (by exact below_) hb side_; clear hs hb))
    exact bodyPost_ret (v := frb none) (by simp [results, Tryd.results18, go_sem, *]) rfl ⟨rfl, by exact below_⟩
  obtain ⟨⟨a1, a2⟩, ⟨a3, a4⟩, ⟨a5, a6⟩⟩ := fvalid_bd a ha
  obtain ⟨⟨b1, b2⟩, ⟨b3, b4⟩, ⟨b5, b6⟩⟩ := fvalid_bd b hb
  obtain ⟨m1, m2⟩ := mulbd (a.re) (b.re) (by omega) (by omega) (by omega) (by omega)
  obtain ⟨m3, m4⟩ := mulbd (a.im) (b.im) (by omega) (by omega) (by omega) (by omega)
  obtain ⟨m5, m6⟩ := mulbd (a.re) (b.im) (by omega) (by omega) (by omega) (by omega)
  obtain ⟨m7, m8⟩ := mulbd (a.im) (b.re) (by omega) (by omega) (by omega) (by omega)
  obtain ⟨m9, m10⟩ := mulbd1 (a.den) (b.den) (by omega) (by omega) (by omega) (by omega)
  clear a1 a2 a3 a4 a5 a6 b1 b2 b3 b4 b5 b6
  have e : timesI a b = lowI (a.re * b.re - a.im * b.im) (a.re * b.im + a.im * b.re) (a.den * b.den) := by simp [timesI, ha, hb]
  rw [e]; clear e
  go_enter Tryd.func18, Tryd.ntmps18
  go_wp2_with (first | (go_at_call 48; (with_reducible refine (fvalid_t _ _ (by assumption)).mono ?_); rintro e w1 ⟨rfl, hb⟩; obtain ⟨hc, hf⟩ := bf hb (w.heap.size + 1 + 1 + 1) side_; have hs := hb.size; (try simp only [World.size_alloc, World.size_setCell, World.size_drew, World.heap_drewN] at hs); have hl : w.heap.size ≤ w1.heap.size ∧ w.heap.size < w1.heap.size ∧ w.heap.size + 1 < w1.heap.size ∧ w.heap.size + 1 + 1 < w1.heap.size := ⟨by omega, by omega, by omega, by omega⟩; have hB : Below w.heap.size w w1 := bstep (by exact below_) hb side_; clear hs hb) | (go_at_call 49; (with_reducible refine (lowest_any (a.re * b.re - a.im * b.im) (a.re * b.im + a.im * b.re) (a.den * b.den) _ (by omega) (by omega) (by omega) (by omega) (by omega) (by omega)).mono ?_); rintro e w1 ⟨rfl, hb⟩; obtain ⟨hc, hf⟩ := bf hb (w.heap.size + 1 + 1 + 1) side_; have hs := hb.size; (try simp only [World.size_alloc, World.size_setCell, World.size_drew, World.heap_drewN] at hs); have hl : w.heap.size ≤ w1.heap.size ∧ w.heap.size < w1.heap.size ∧ w.heap.size + 1 < w1.heap.size ∧ w.heap.size + 1 + 1 < w1.heap.size := ⟨by omega, by omega, by omega, by omega⟩; have hB : Below w.heap.size w w1 := bstep (by exact below_) hb side_; clear hs hb))
  exact bodyPost_ret (v := frb (lowI (a.re * b.re - a.im * b.im) (a.re * b.im + a.im * b.re) (a.den * b.den))) (by simp [results, Tryd.results18, go_sem, *]) rfl ⟨rfl, by exact below_⟩
set_option maxHeartbeats 1000000 in
theorem add_any (a b : Fr) (w : World) :
    Calls Tryd.prog 70 #[frv a, frv b] w fun e w' => e = .returned (frb (addI a b)) ∧ Below w.heap.size w w' := by
  cases ha : fvalid a
  · have e : addI a b = none := by simp [addI, ha]
    rw [e]; clear e
    go_enter Tryd.func70, Tryd.ntmps70
    go_wp2_with (first | (go_at_call 48; (with_reducible refine (fvalid_f _ _ (by assumption)).mono ?_); rintro e w1 ⟨rfl, hb⟩; obtain ⟨hc, hf⟩ := bf hb (w.heap.size + 1 + 1 + 1) side_; have hs := hb.size; (try simp only [World.size_alloc, World.size_setCell, World.size_drew, World.heap_drewN] at hs); have hl : w.heap.size ≤ w1.heap.size ∧ w.heap.size < w1.heap.size ∧ w.heap.size + 1 < w1.heap.size ∧ w.heap.size + 1 + 1 < w1.heap.size := ⟨by omega, by omega, by omega, by omega⟩; have hB : Below w.heap.size w w1 := bstep (by exact below_) hb side_; clear hs hb))
    exact bodyPost_ret (v := frb none) (by simp [results, Tryd.results70, go_sem, *]) rfl ⟨rfl, by exact below_⟩
  cases hb : fvalid b
  · have e : addI a b = none := by simp [addI, ha, hb]
    rw [e]; clear e
    go_enter Tryd.func70, Tryd.ntmps70
    go_wp2_with (first | (go_at_call 48; (with_reducible refine (fvalid_t _ _ (by assumption)).mono ?_); rintro e w1 ⟨rfl, hb⟩; obtain ⟨hc, hf⟩ := bf hb (w.heap.size + 1 + 1 + 1) side_; have hs := hb.size; (try simp only [World.size_alloc, World.size_setCell, World.size_drew, World.heap_drewN] at hs); have hl : w.heap.size ≤ w1.heap.size ∧ w.heap.size < w1.heap.size ∧ w.heap.size + 1 < w1.heap.size ∧ w.heap.size + 1 + 1 < w1.heap.size := ⟨by omega, by omega, by omega, by omega⟩; have hB : Below w.heap.size w w1 := bstep (by exact below_) hb side_; clear hs hb) | (go_at_call 48; (with_reducible refine (fvalid_f _ _ (by assumption)).mono ?_); rintro e w1 ⟨rfl, hb⟩; obtain ⟨hc, hf⟩ := bf hb (w.heap.size + 1 + 1 + 1) side_; have hs := hb.size; (try simp only [World.size_alloc, World.size_setCell, World.size_drew, World.heap_drewN] at hs); have hl : w.heap.size ≤ w1.heap.size ∧ w.heap.size < w1.heap.size ∧ w.heap.size + 1 < w1.heap.size ∧ w.heap.size + 1 + 1 < w1.heap.size := ⟨by omega, by omega, by omega, by omega⟩; have hB : Below w.heap.size w w1 := bstep (by exact below_) hb side_; clear hs hb))
    exact bodyPost_ret (v := frb none) (by simp [results, Tryd.results70, go_sem, *]) rfl ⟨rfl, by exact below_⟩
  obtain ⟨⟨a1, a2⟩, ⟨a3, a4⟩, ⟨a5, a6⟩⟩ := fvalid_bd a ha
  obtain ⟨⟨b1, b2⟩, ⟨b3, b4⟩, ⟨b5, b6⟩⟩ := fvalid_bd b hb
  obtain ⟨m1, m2⟩ := mulbd (a.re) (b.den) (by omega) (by omega) (by omega) (by omega)
  obtain ⟨m3, m4⟩ := mulbd (b.re) (a.den) (by omega) (by omega) (by omega) (by omega)
  obtain ⟨m5, m6⟩ := mulbd (a.im) (b.den) (by omega) (by omega) (by omega) (by omega)
  obtain ⟨m7, m8⟩ := mulbd (b.im) (a.den) (by omega) (by omega) (by omega) (by omega)
  obtain ⟨m9, m10⟩ := mulbd1 (a.den) (b.den) (by omega) (by omega) (by omega) (by omega)
  clear a1 a2 a3 a4 a5 a6 b1 b2 b3 b4 b5 b6
  have e : addI a b = lowI (a.re * b.den + b.re * a.den) (a.im * b.den + b.im * a.den) (a.den * b.den) := by simp [addI, ha, hb]
  rw [e]; clear e
  go_enter Tryd.func70, Tryd.ntmps70
  go_wp2_with (first | (go_at_call 48; (with_reducible refine (fvalid_t _ _ (by assumption)).mono ?_); rintro e w1 ⟨rfl, hb⟩; obtain ⟨hc, hf⟩ := bf hb (w.heap.size + 1 + 1 + 1) side_; have hs := hb.size; (try simp only [World.size_alloc, World.size_setCell, World.size_drew, World.heap_drewN] at hs); have hl : w.heap.size ≤ w1.heap.size ∧ w.heap.size < w1.heap.size ∧ w.heap.size + 1 < w1.heap.size ∧ w.heap.size + 1 + 1 < w1.heap.size := ⟨by omega, by omega, by omega, by omega⟩; have hB : Below w.heap.size w w1 := bstep (by exact below_) hb side_; clear hs hb) | (go_at_call 49; (with_reducible refine (lowest_any (a.re * b.den + b.re * a.den) (a.im * b.den + b.im * a.den) (a.den * b.den) _ (by omega) (by omega) (by omega) (by omega) (by omega) (by omega)).mono ?_); rintro e w1 ⟨rfl, hb⟩; obtain ⟨hc, hf⟩ := bf hb (w.heap.size + 1 + 1 + 1) side_; have hs := hb.size; (try simp only [World.size_alloc, World.size_setCell, World.size_drew, World.heap_drewN] at hs); have hl : w.heap.size ≤ w1.heap.size ∧ w.heap.size < w1.heap.size ∧ w.heap.size + 1 < w1.heap.size ∧ w.heap.size + 1 + 1 < w1.heap.size := ⟨by omega, by omega, by omega, by omega⟩; have hB : Below w.heap.size w w1 := bstep (by exact below_) hb side_; clear hs hb))
  exact bodyPost_ret (v := frb (lowI (a.re * b.den + b.re * a.den) (a.im * b.den + b.im * a.den) (a.den * b.den))) (by simp [results, Tryd.results70, go_sem, *]) rfl ⟨rfl, by exact below_⟩
set_option maxHeartbeats 1000000 in
theorem stimes_any (a b : Fr) (w : World) :
    Calls Tryd.prog 54 #[frv a, frv b] w fun e w' => e = .returned (frb (timesI a b)) ∧ Below w.heap.size w w' := by
  cases ha : fvalid a
  · have e : timesI a b = none := by simp [timesI, ha]
    rw [e]; clear e
    go_enter Tryd.func54, Tryd.ntmps54
    go_wp2_with (first | (go_at_call 76; (with_reducible refine (sfvalid_f _ _ (by assumption)).mono ?_); rintro e w1 ⟨rfl, hb⟩; obtain ⟨hc, hf⟩ := bf hb (w.heap.size + 1 + 1 + 1) side_; have hs := hb.size; (try simp only [World.size_alloc, World.size_setCell, World.size_drew, World.heap_drewN] at hs); have hl : w.heap.size ≤ w1.heap.size ∧ w.heap.size < w1.heap.size ∧ w.heap.size + 1 < w1.heap.size ∧ w.heap.size + 1 + 1 < w1.heap.size := ⟨by omega, by omega, by omega, by omega⟩; have hB : Below w.heap.size w w1 := bstep (by exact below_) hb side_; clear hs hb))
    exact bodyPost_ret (v := frb none) (by simp [results, Tryd.results54, go_sem, *]) rfl ⟨rfl, by exact below_⟩
  cases hb : fvalid b
  · have e : timesI a b = none := by simp [timesI, ha, hb]
    rw [e]; clear e
    go_enter Tryd.func54, Tryd.ntmps54
    go_wp2_with (first | (go_at_call 76; (with_reducible refine (sfvalid_t _ _ (by assumption)).mono ?_); rintro e w1 ⟨rfl, hb⟩; obtain ⟨hc, hf⟩ := bf hb (w.heap.size + 1 + 1 + 1) side_; have hs := hb.size; (try simp only [World.size_alloc, World.size_setCell, World.size_drew, World.heap_drewN] at hs); have hl : w.heap.size ≤ w1.heap.size ∧ w.heap.size < w1.heap.size ∧ w.heap.size + 1 < w1.heap.size ∧ w.heap.size + 1 + 1 < w1.heap.size := ⟨by omega, by omega, by omega, by omega⟩; have hB : Below w.heap.size w w1 := bstep (by exact below_) hb side_; clear hs hb) | (go_at_call 76; (with_reducible refine (sfvalid_f _ _ (by assumption)).mono ?_); rintro e w1 ⟨rfl, hb⟩; obtain ⟨hc, hf⟩ := bf hb (w.heap.size + 1 + 1 + 1) side_; have hs := hb.size; (try simp only [World.size_alloc, World.size_setCell, World.size_drew, World.heap_drewN] at hs); have hl : w.heap.size ≤ w1.heap.size ∧ w.heap.size < w1.heap.size ∧ w.heap.size + 1 < w1.heap.size ∧ w.heap.size + 1 + 1 < w1.heap.size := ⟨by omega, by omega, by omega, by omega⟩; have hB : Below w.heap.size w w1 := bstep (by exact below_) hb side_; clear hs hb))
    exact bodyPost_ret (v := frb none) (by simp [results, Tryd.results54, go_sem, *]) rfl ⟨rfl, by exact below_⟩
  obtain ⟨⟨a1, a2⟩, ⟨a3, a4⟩, ⟨a5, a6⟩⟩ := fvalid_bd a ha
  obtain ⟨⟨b1, b2⟩, ⟨b3, b4⟩, ⟨b5, b6⟩⟩ := fvalid_bd b hb
  obtain ⟨m1, m2⟩ := mulbd (a.re) (b.re) (by omega) (by omega) (by omega) (by omega)
  obtain ⟨m3, m4⟩ := mulbd (a.im) (b.im) (by omega) (by omega) (by omega) (by omega)
  obtain ⟨m5, m6⟩ := mulbd (a.re) (b.im) (by omega) (by omega) (by omega) (by omega)
  obtain ⟨m7, m8⟩ := mulbd (a.im) (b.re) (by omega) (by omega) (by omega) (by omega)
  obtain ⟨m9, m10⟩ := mulbd1 (a.den) (b.den) (by omega) (by omega) (by omega) (by omega)
  clear a1 a2 a3 a4 a5 a6 b1 b2 b3 b4 b5 b6
  have e : timesI a b = lowI (a.re * b.re - a.im * b.im) (a.re * b.im + a.im * b.re) (a.den * b.den) := by simp [timesI, ha, hb]
  rw [e]; clear e
  go_enter Tryd.func54, Tryd.ntmps54
  go_wp2_with (first | (go_at_call 76; (with_reducible refine (sfvalid_t _ _ (by assumption)).mono ?_); rintro e w1 ⟨rfl, hb⟩; obtain ⟨hc, hf⟩ := bf hb (w.heap.size + 1 + 1 + 1) side_; have hs := hb.size; (try simp only [World.size_alloc, World.size_setCell, World.size_drew, World.heap_drewN] at hs); have hl : w.heap.size ≤ w1.heap.size ∧ w.heap.size < w1.heap.size ∧ w.heap.size + 1 < w1.heap.size ∧ w.heap.size + 1 + 1 < w1.heap.size := ⟨by omega, by omega, by omega, by omega⟩; have hB : Below w.heap.size w w1 := bstep (by exact below_) hb side_; clear hs hb) | (go_at_call 77; (with_reducible refine (slow_any (a.re * b.re - a.im * b.im) (a.re * b.im + a.im * b.re) (a.den * b.den) _ (by omega) (by omega) (by omega) (by omega) (by omega) (by omega)).mono ?_); rintro e w1 ⟨rfl, hb⟩; obtain ⟨hc, hf⟩ := bf hb (w.heap.size + 1 + 1 + 1) side_; have hs := hb.size; (try simp only [World.size_alloc, World.size_setCell, World.size_drew, World.heap_drewN] at hs); have hl : w.heap.size ≤ w1.heap.size ∧ w.heap.size < w1.heap.size ∧ w.heap.size + 1 < w1.heap.size ∧ w.heap.size + 1 + 1 < w1.heap.size := ⟨by omega, by omega, by omega, by omega⟩; have hB : Below w.heap.size w w1 := bstep (by exact below_) hb side_; clear hs hb))
  exact bodyPost_ret (v := frb (lowI (a.re * b.re - a.im * b.im) (a.re * b.im + a.im * b.re) (a.den * b.den))) (by simp [results, Tryd.results54, go_sem, *]) rfl ⟨rfl, by exact below_⟩
end Go.Proofs.YtiagnnmnaakmoaaDoor
