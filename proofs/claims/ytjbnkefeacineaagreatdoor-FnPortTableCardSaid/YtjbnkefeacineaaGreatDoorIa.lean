/-
  The walks of the reference's vectors (times, add, power) and of its comparison.
-/
import Derived.Test.YtjbnkefeacineaaGreatDoorNa
import Derived.Test.YtjbnkefeacineaaGreatDoorBf
namespace Go.Proofs.YtjbnkefeacineaaGreatDoor
set_option linter.unusedSimpArgs false
set_option linter.unusedVariables false
open Go.RowKit
attribute [local go_sem ↓] Go.wp_at_zero Go.wp_at_succ
theorem sadd_o (a b : Fr) (o : Option Fr) (w : World) (h : addI a b = o) : Calls Tryz.prog 64 #[frv a, frv b] w fun e w' => e = .returned (frb o) ∧ Below w.heap.size w w' := by
  rw [← h]; exact sadd_any a b w
theorem spower_o (a : Fr) (o : Option Fr) (w : World) (h : powerI a = o) : Calls Tryz.prog 89 #[frv a] w fun e w' => e = .returned (frb o) ∧ Below w.heap.size w w' := by
  rw [← h]; exact spower_any a w
set_option maxRecDepth 100000 in
set_option maxHeartbeats 2000000 in
theorem sjtimes_any (a : Jn) (c : Fr) (w : World) :
    Calls Tryz.prog 73 #[jnv a, frv c] w fun e w' => e = .returned (jnb (jtimesI a c)) ∧ Below w.heap.size w w' := by
  cases hx : timesI a.x c with
  | none =>
    rw [show jtimesI a c = none by simp [jtimesI, hx]]
    go_enter Tryz.func73, Tryz.ntmps73
    go_wp2_with (first | (go_at_call 91; (with_reducible refine (stimes_o a.x c _ _ hx).mono ?_); rintro e w1 ⟨rfl, hb⟩; obtain ⟨hc, hf⟩ := bf hb (w.heap.size + 1 + 1 + 1) side_; have hs := hb.size; (try simp only [World.size_alloc, World.size_setCell, World.size_drew, World.heap_drewN] at hs); have hl : w.heap.size ≤ w1.heap.size ∧ w.heap.size < w1.heap.size ∧ w.heap.size + 1 < w1.heap.size ∧ w.heap.size + 1 + 1 < w1.heap.size := ⟨by omega, by omega, by omega, by omega⟩; obtain ⟨B, hBe, hBl, hc2, hf2⟩ := bfA hb; (try simp only [World.size_alloc, World.size_setCell, World.size_drew, World.heap_drewN] at hBe); have hB : Below w.heap.size w w1 := bstep (by exact below_) hb side_; clear hs hb) | (go_at_call 91; (with_reducible refine (stimes_any a.y c _).mono ?_); rintro e w1 ⟨rfl, hb⟩; obtain ⟨hc, hf⟩ := bf hb (w.heap.size + 1 + 1 + 1) side_; have hs := hb.size; (try simp only [World.size_alloc, World.size_setCell, World.size_drew, World.heap_drewN] at hs); have hl : w.heap.size ≤ w1.heap.size ∧ w.heap.size < w1.heap.size ∧ w.heap.size + 1 < w1.heap.size ∧ w.heap.size + 1 + 1 < w1.heap.size := ⟨by omega, by omega, by omega, by omega⟩; obtain ⟨B, hBe, hBl, hc2, hf2⟩ := bfA hb; (try simp only [World.size_alloc, World.size_setCell, World.size_drew, World.heap_drewN] at hBe); have hB : Below w.heap.size w w1 := bstep (by exact below_) hb side_; clear hs hb))
    exact bodyPost_ret (v := jnb none) (by simp [results, Tryz.results73, go_sem, *]) rfl ⟨rfl, by exact below_⟩
  | some x =>
    cases hy : timesI a.y c with
    | none =>
      rw [show jtimesI a c = none by simp [jtimesI, hx, hy]]
      go_enter Tryz.func73, Tryz.ntmps73
      go_wp2_with (first | (go_at_call 91; (with_reducible refine (stimes_o a.x c _ _ hx).mono ?_); rintro e w1 ⟨rfl, hb⟩; obtain ⟨hc, hf⟩ := bf hb (w.heap.size + 1 + 1 + 1) side_; have hs := hb.size; (try simp only [World.size_alloc, World.size_setCell, World.size_drew, World.heap_drewN] at hs); have hl : w.heap.size ≤ w1.heap.size ∧ w.heap.size < w1.heap.size ∧ w.heap.size + 1 < w1.heap.size ∧ w.heap.size + 1 + 1 < w1.heap.size := ⟨by omega, by omega, by omega, by omega⟩; obtain ⟨B, hBe, hBl, hc2, hf2⟩ := bfA hb; (try simp only [World.size_alloc, World.size_setCell, World.size_drew, World.heap_drewN] at hBe); have hB : Below w.heap.size w w1 := bstep (by exact below_) hb side_; clear hs hb) | (go_at_call 91; (with_reducible refine (stimes_o a.y c _ _ hy).mono ?_); rintro e w1 ⟨rfl, hb⟩; obtain ⟨hc, hf⟩ := bf hb (w.heap.size + 1 + 1 + 1) side_; have hs := hb.size; (try simp only [World.size_alloc, World.size_setCell, World.size_drew, World.heap_drewN] at hs); have hl : w.heap.size ≤ w1.heap.size ∧ w.heap.size < w1.heap.size ∧ w.heap.size + 1 < w1.heap.size ∧ w.heap.size + 1 + 1 < w1.heap.size := ⟨by omega, by omega, by omega, by omega⟩; obtain ⟨B, hBe, hBl, hc2, hf2⟩ := bfA hb; (try simp only [World.size_alloc, World.size_setCell, World.size_drew, World.heap_drewN] at hBe); have hB : Below w.heap.size w w1 := bstep (by exact below_) hb side_; clear hs hb))
      exact bodyPost_ret (v := jnb none) (by simp [results, Tryz.results73, go_sem, *]) rfl ⟨rfl, by exact below_⟩
    | some y =>
      rw [show jtimesI a c = some ⟨x, y⟩ by simp [jtimesI, hx, hy]]
      go_enter Tryz.func73, Tryz.ntmps73
      go_wp2_with (first | (go_at_call 91; (with_reducible refine (stimes_o a.x c _ _ hx).mono ?_); rintro e w1 ⟨rfl, hb⟩; obtain ⟨hc, hf⟩ := bf hb (w.heap.size + 1 + 1 + 1) side_; have hs := hb.size; (try simp only [World.size_alloc, World.size_setCell, World.size_drew, World.heap_drewN] at hs); have hl : w.heap.size ≤ w1.heap.size ∧ w.heap.size < w1.heap.size ∧ w.heap.size + 1 < w1.heap.size ∧ w.heap.size + 1 + 1 < w1.heap.size := ⟨by omega, by omega, by omega, by omega⟩; obtain ⟨B, hBe, hBl, hc2, hf2⟩ := bfA hb; (try simp only [World.size_alloc, World.size_setCell, World.size_drew, World.heap_drewN] at hBe); have hB : Below w.heap.size w w1 := bstep (by exact below_) hb side_; clear hs hb) | (go_at_call 91; (with_reducible refine (stimes_o a.y c _ _ hy).mono ?_); rintro e w1 ⟨rfl, hb⟩; obtain ⟨hc, hf⟩ := bf hb (w.heap.size + 1 + 1 + 1) side_; have hs := hb.size; (try simp only [World.size_alloc, World.size_setCell, World.size_drew, World.heap_drewN] at hs); have hl : w.heap.size ≤ w1.heap.size ∧ w.heap.size < w1.heap.size ∧ w.heap.size + 1 < w1.heap.size ∧ w.heap.size + 1 + 1 < w1.heap.size := ⟨by omega, by omega, by omega, by omega⟩; obtain ⟨B, hBe, hBl, hc2, hf2⟩ := bfA hb; (try simp only [World.size_alloc, World.size_setCell, World.size_drew, World.heap_drewN] at hBe); have hB : Below w.heap.size w w1 := bstep (by exact below_) hb side_; clear hs hb))
      exact bodyPost_ret (v := jnb (some ⟨x, y⟩)) (by simp [results, Tryz.results73, go_sem, *]) rfl ⟨rfl, by exact below_⟩
set_option maxRecDepth 100000 in
set_option maxHeartbeats 2000000 in
theorem sjadd_any (a b : Jn) (w : World) :
    Calls Tryz.prog 74 #[jnv a, jnv b] w fun e w' => e = .returned (jnb (jaddI a b)) ∧ Below w.heap.size w w' := by
  cases hx : addI a.x b.x with
  | none =>
    rw [show jaddI a b = none by simp [jaddI, hx]]
    go_enter Tryz.func74, Tryz.ntmps74
    go_wp2_with (first | (go_at_call 64; (with_reducible refine (sadd_o a.x b.x _ _ hx).mono ?_); rintro e w1 ⟨rfl, hb⟩; obtain ⟨hc, hf⟩ := bf hb (w.heap.size + 1 + 1 + 1) side_; have hs := hb.size; (try simp only [World.size_alloc, World.size_setCell, World.size_drew, World.heap_drewN] at hs); have hl : w.heap.size ≤ w1.heap.size ∧ w.heap.size < w1.heap.size ∧ w.heap.size + 1 < w1.heap.size ∧ w.heap.size + 1 + 1 < w1.heap.size := ⟨by omega, by omega, by omega, by omega⟩; obtain ⟨B, hBe, hBl, hc2, hf2⟩ := bfA hb; (try simp only [World.size_alloc, World.size_setCell, World.size_drew, World.heap_drewN] at hBe); have hB : Below w.heap.size w w1 := bstep (by exact below_) hb side_; clear hs hb) | (go_at_call 64; (with_reducible refine (sadd_any a.y b.y _).mono ?_); rintro e w1 ⟨rfl, hb⟩; obtain ⟨hc, hf⟩ := bf hb (w.heap.size + 1 + 1 + 1) side_; have hs := hb.size; (try simp only [World.size_alloc, World.size_setCell, World.size_drew, World.heap_drewN] at hs); have hl : w.heap.size ≤ w1.heap.size ∧ w.heap.size < w1.heap.size ∧ w.heap.size + 1 < w1.heap.size ∧ w.heap.size + 1 + 1 < w1.heap.size := ⟨by omega, by omega, by omega, by omega⟩; obtain ⟨B, hBe, hBl, hc2, hf2⟩ := bfA hb; (try simp only [World.size_alloc, World.size_setCell, World.size_drew, World.heap_drewN] at hBe); have hB : Below w.heap.size w w1 := bstep (by exact below_) hb side_; clear hs hb))
    exact bodyPost_ret (v := jnb none) (by simp [results, Tryz.results74, go_sem, *]) rfl ⟨rfl, by exact below_⟩
  | some x =>
    cases hy : addI a.y b.y with
    | none =>
      rw [show jaddI a b = none by simp [jaddI, hx, hy]]
      go_enter Tryz.func74, Tryz.ntmps74
      go_wp2_with (first | (go_at_call 64; (with_reducible refine (sadd_o a.x b.x _ _ hx).mono ?_); rintro e w1 ⟨rfl, hb⟩; obtain ⟨hc, hf⟩ := bf hb (w.heap.size + 1 + 1 + 1) side_; have hs := hb.size; (try simp only [World.size_alloc, World.size_setCell, World.size_drew, World.heap_drewN] at hs); have hl : w.heap.size ≤ w1.heap.size ∧ w.heap.size < w1.heap.size ∧ w.heap.size + 1 < w1.heap.size ∧ w.heap.size + 1 + 1 < w1.heap.size := ⟨by omega, by omega, by omega, by omega⟩; obtain ⟨B, hBe, hBl, hc2, hf2⟩ := bfA hb; (try simp only [World.size_alloc, World.size_setCell, World.size_drew, World.heap_drewN] at hBe); have hB : Below w.heap.size w w1 := bstep (by exact below_) hb side_; clear hs hb) | (go_at_call 64; (with_reducible refine (sadd_o a.y b.y _ _ hy).mono ?_); rintro e w1 ⟨rfl, hb⟩; obtain ⟨hc, hf⟩ := bf hb (w.heap.size + 1 + 1 + 1) side_; have hs := hb.size; (try simp only [World.size_alloc, World.size_setCell, World.size_drew, World.heap_drewN] at hs); have hl : w.heap.size ≤ w1.heap.size ∧ w.heap.size < w1.heap.size ∧ w.heap.size + 1 < w1.heap.size ∧ w.heap.size + 1 + 1 < w1.heap.size := ⟨by omega, by omega, by omega, by omega⟩; obtain ⟨B, hBe, hBl, hc2, hf2⟩ := bfA hb; (try simp only [World.size_alloc, World.size_setCell, World.size_drew, World.heap_drewN] at hBe); have hB : Below w.heap.size w w1 := bstep (by exact below_) hb side_; clear hs hb))
      exact bodyPost_ret (v := jnb none) (by simp [results, Tryz.results74, go_sem, *]) rfl ⟨rfl, by exact below_⟩
    | some y =>
      rw [show jaddI a b = some ⟨x, y⟩ by simp [jaddI, hx, hy]]
      go_enter Tryz.func74, Tryz.ntmps74
      go_wp2_with (first | (go_at_call 64; (with_reducible refine (sadd_o a.x b.x _ _ hx).mono ?_); rintro e w1 ⟨rfl, hb⟩; obtain ⟨hc, hf⟩ := bf hb (w.heap.size + 1 + 1 + 1) side_; have hs := hb.size; (try simp only [World.size_alloc, World.size_setCell, World.size_drew, World.heap_drewN] at hs); have hl : w.heap.size ≤ w1.heap.size ∧ w.heap.size < w1.heap.size ∧ w.heap.size + 1 < w1.heap.size ∧ w.heap.size + 1 + 1 < w1.heap.size := ⟨by omega, by omega, by omega, by omega⟩; obtain ⟨B, hBe, hBl, hc2, hf2⟩ := bfA hb; (try simp only [World.size_alloc, World.size_setCell, World.size_drew, World.heap_drewN] at hBe); have hB : Below w.heap.size w w1 := bstep (by exact below_) hb side_; clear hs hb) | (go_at_call 64; (with_reducible refine (sadd_o a.y b.y _ _ hy).mono ?_); rintro e w1 ⟨rfl, hb⟩; obtain ⟨hc, hf⟩ := bf hb (w.heap.size + 1 + 1 + 1) side_; have hs := hb.size; (try simp only [World.size_alloc, World.size_setCell, World.size_drew, World.heap_drewN] at hs); have hl : w.heap.size ≤ w1.heap.size ∧ w.heap.size < w1.heap.size ∧ w.heap.size + 1 < w1.heap.size ∧ w.heap.size + 1 + 1 < w1.heap.size := ⟨by omega, by omega, by omega, by omega⟩; obtain ⟨B, hBe, hBl, hc2, hf2⟩ := bfA hb; (try simp only [World.size_alloc, World.size_setCell, World.size_drew, World.heap_drewN] at hBe); have hB : Below w.heap.size w w1 := bstep (by exact below_) hb side_; clear hs hb))
      exact bodyPost_ret (v := jnb (some ⟨x, y⟩)) (by simp [results, Tryz.results74, go_sem, *]) rfl ⟨rfl, by exact below_⟩
theorem power_valid {a : Fr} (h : fvalid a = false) : powerI a = none := by simp [powerI, h]
theorem power_some {a x : Fr} (h : powerI a = some x) : fvalid a = true := by
  cases ha : fvalid a
  · rw [power_valid ha] at h; cases h
  · rfl
set_option maxRecDepth 100000 in
set_option maxHeartbeats 2000000 in
theorem sjpower_any (a : Jn) (w : World) :
    Calls Tryz.prog 79 #[jnv a] w fun e w' => e = .returned (frb (jpowerI a)) ∧ Below w.heap.size w w' := by
  cases hx : powerI a.x with
  | none =>
    rw [show jpowerI a = none by simp [jpowerI, hx]]
    go_enter Tryz.func79, Tryz.ntmps79
    go_wp2_with (first | (go_at_call 89; (with_reducible refine (spower_o a.x _ _ hx).mono ?_); rintro e w1 ⟨rfl, hb⟩; obtain ⟨hc, hf⟩ := bf hb (w.heap.size + 1 + 1) side_; have hs := hb.size; (try simp only [World.size_alloc, World.size_setCell, World.size_drew, World.heap_drewN] at hs); have hl : w.heap.size ≤ w1.heap.size ∧ w.heap.size < w1.heap.size ∧ w.heap.size + 1 < w1.heap.size := ⟨by omega, by omega, by omega⟩; obtain ⟨B, hBe, hBl, hc2, hf2⟩ := bfA hb; (try simp only [World.size_alloc, World.size_setCell, World.size_drew, World.heap_drewN] at hBe); have hB : Below w.heap.size w w1 := bstep (by exact below_) hb side_; clear hs hb) | (go_at_call 89; (with_reducible refine (spower_any a.y _).mono ?_); rintro e w1 ⟨rfl, hb⟩; obtain ⟨hc, hf⟩ := bf hb (w.heap.size + 1 + 1) side_; have hs := hb.size; (try simp only [World.size_alloc, World.size_setCell, World.size_drew, World.heap_drewN] at hs); have hl : w.heap.size ≤ w1.heap.size ∧ w.heap.size < w1.heap.size ∧ w.heap.size + 1 < w1.heap.size := ⟨by omega, by omega, by omega⟩; obtain ⟨B, hBe, hBl, hc2, hf2⟩ := bfA hb; (try simp only [World.size_alloc, World.size_setCell, World.size_drew, World.heap_drewN] at hBe); have hB : Below w.heap.size w w1 := bstep (by exact below_) hb side_; clear hs hb))
    exact bodyPost_ret (v := frb none) (by simp [results, Tryz.results79, go_sem, *]) rfl ⟨rfl, by exact below_⟩
  | some x =>
    cases hy : powerI a.y with
    | none =>
      rw [show jpowerI a = none by simp [jpowerI, hx, hy]]
      go_enter Tryz.func79, Tryz.ntmps79
      go_wp2_with (first | (go_at_call 89; (with_reducible refine (spower_o a.x _ _ hx).mono ?_); rintro e w1 ⟨rfl, hb⟩; obtain ⟨hc, hf⟩ := bf hb (w.heap.size + 1 + 1) side_; have hs := hb.size; (try simp only [World.size_alloc, World.size_setCell, World.size_drew, World.heap_drewN] at hs); have hl : w.heap.size ≤ w1.heap.size ∧ w.heap.size < w1.heap.size ∧ w.heap.size + 1 < w1.heap.size := ⟨by omega, by omega, by omega⟩; obtain ⟨B, hBe, hBl, hc2, hf2⟩ := bfA hb; (try simp only [World.size_alloc, World.size_setCell, World.size_drew, World.heap_drewN] at hBe); have hB : Below w.heap.size w w1 := bstep (by exact below_) hb side_; clear hs hb) | (go_at_call 89; (with_reducible refine (spower_o a.y _ _ hy).mono ?_); rintro e w1 ⟨rfl, hb⟩; obtain ⟨hc, hf⟩ := bf hb (w.heap.size + 1 + 1) side_; have hs := hb.size; (try simp only [World.size_alloc, World.size_setCell, World.size_drew, World.heap_drewN] at hs); have hl : w.heap.size ≤ w1.heap.size ∧ w.heap.size < w1.heap.size ∧ w.heap.size + 1 < w1.heap.size := ⟨by omega, by omega, by omega⟩; obtain ⟨B, hBe, hBl, hc2, hf2⟩ := bfA hb; (try simp only [World.size_alloc, World.size_setCell, World.size_drew, World.heap_drewN] at hBe); have hB : Below w.heap.size w w1 := bstep (by exact below_) hb side_; clear hs hb))
      exact bodyPost_ret (v := frb none) (by simp [results, Tryz.results79, go_sem, *]) rfl ⟨rfl, by exact below_⟩
    | some y =>
      rw [show jpowerI a = addI x y by simp [jpowerI, jvalid, power_some hx, power_some hy, hx, hy]]
      go_enter Tryz.func79, Tryz.ntmps79
      go_wp2_with (first | (go_at_call 89; (with_reducible refine (spower_o a.x _ _ hx).mono ?_); rintro e w1 ⟨rfl, hb⟩; obtain ⟨hc, hf⟩ := bf hb (w.heap.size + 1 + 1) side_; have hs := hb.size; (try simp only [World.size_alloc, World.size_setCell, World.size_drew, World.heap_drewN] at hs); have hl : w.heap.size ≤ w1.heap.size ∧ w.heap.size < w1.heap.size ∧ w.heap.size + 1 < w1.heap.size := ⟨by omega, by omega, by omega⟩; obtain ⟨B, hBe, hBl, hc2, hf2⟩ := bfA hb; (try simp only [World.size_alloc, World.size_setCell, World.size_drew, World.heap_drewN] at hBe); have hB : Below w.heap.size w w1 := bstep (by exact below_) hb side_; clear hs hb) | (go_at_call 89; (with_reducible refine (spower_o a.y _ _ hy).mono ?_); rintro e w1 ⟨rfl, hb⟩; obtain ⟨hc, hf⟩ := bf hb (w.heap.size + 1 + 1) side_; have hs := hb.size; (try simp only [World.size_alloc, World.size_setCell, World.size_drew, World.heap_drewN] at hs); have hl : w.heap.size ≤ w1.heap.size ∧ w.heap.size < w1.heap.size ∧ w.heap.size + 1 < w1.heap.size := ⟨by omega, by omega, by omega⟩; obtain ⟨B, hBe, hBl, hc2, hf2⟩ := bfA hb; (try simp only [World.size_alloc, World.size_setCell, World.size_drew, World.heap_drewN] at hBe); have hB : Below w.heap.size w w1 := bstep (by exact below_) hb side_; clear hs hb) | (go_at_call 64; (with_reducible refine (sadd_any x y _).mono ?_); rintro e w1 ⟨rfl, hb⟩; obtain ⟨hc, hf⟩ := bf hb (w.heap.size + 1 + 1) side_; have hs := hb.size; (try simp only [World.size_alloc, World.size_setCell, World.size_drew, World.heap_drewN] at hs); have hl : w.heap.size ≤ w1.heap.size ∧ w.heap.size < w1.heap.size ∧ w.heap.size + 1 < w1.heap.size := ⟨by omega, by omega, by omega⟩; obtain ⟨B, hBe, hBl, hc2, hf2⟩ := bfA hb; (try simp only [World.size_alloc, World.size_setCell, World.size_drew, World.heap_drewN] at hBe); have hB : Below w.heap.size w w1 := bstep (by exact below_) hb side_; clear hs hb))
      exact bodyPost_ret (v := frb (addI x y)) (by simp [results, Tryz.results79, go_sem, *]) rfl ⟨rfl, by exact below_⟩
/-- What a walk keeps: the world below, the blocks made, each above those before it. -/
structure BW (w : World) (bl : List (Nat × Array Value × TypeId)) (W : World) : Prop where
  B : Below w.heap.size w W
  bs : ∀ q ∈ bl, Blk W q.1 q.2.1 q.2.2
  lo : ∀ q ∈ bl, w.heap.size ≤ q.1
  od : bl.Pairwise fun p q => q.1 < p.1
section
variable {w W v : World} {bl : List (Nat × Array Value × TypeId)} {b : Nat} {cs cs' : Array Value} {t : TypeId}
theorem BW.one (w : World) (cs : Array Value) (t : TypeId) : BW w [(w.heap.size, cs, t)] (w.alloc (.cells cs t)) :=
  ⟨(Below.refl _ _).alloc (Nat.le_refl _) _, fun q hq => by obtain rfl := List.mem_singleton.1 hq; exact heap_alloc_last w _, fun q hq => by obtain rfl := List.mem_singleton.1 hq; exact Nat.le_refl _, List.pairwise_singleton _ _⟩
theorem BW.step (h : BW w bl W) (hb : Below W.heap.size W v) : BW w bl v :=
  ⟨bstep h.B hb h.B.size, fun q hq => (hb.block _ (blk_lt (h.bs q hq))).trans (h.bs q hq), h.lo, h.od⟩
theorem BW.push (h : BW w bl W) (hb : Below W.heap.size W v) (cs : Array Value) (t : TypeId) : BW w ((v.heap.size, cs, t) :: bl) (v.alloc (.cells cs t)) := by
  have hC : Below W.heap.size W (v.alloc (.cells cs t)) := hb.alloc hb.size _
  have h2 := h.step hb
  refine ⟨bstep h.B hC h.B.size, fun q hq => ?_, fun q hq => ?_, List.pairwise_cons.2 ⟨fun q hq => blk_lt (h2.bs q hq), h.od⟩⟩
  · rcases List.mem_cons.1 hq with rfl | hq
    · exact heap_alloc_last v _
    · exact (hC.block _ (blk_lt (h.bs q hq))).trans (h.bs q hq)
  · rcases List.mem_cons.1 hq with rfl | hq
    · exact h2.B.size
    · exact h.lo q hq
theorem BW.at (h : BW w bl W) (hm : (b, cs, t) ∈ bl) : Blk W b cs t := h.bs _ hm
theorem BW.top (h : BW w ((b, cs, t) :: bl) W) : Blk W b cs t := h.bs (b, cs, t) (by simp)
theorem BW.set (h : BW w ((b, cs, t) :: bl) W) (hB : Below w.heap.size W v) (hk : ∀ c, c ≠ b → v.heap[c]? = W.heap[c]?) (hn : Blk v b cs' t) : BW w ((b, cs', t) :: bl) v := by
  have hod := List.pairwise_cons.1 h.od
  refine ⟨h.B.trans hB, fun q hq => ?_, fun q hq => ?_, List.pairwise_cons.2 ⟨hod.1, hod.2⟩⟩
  · rcases List.mem_cons.1 hq with rfl | hq
    · exact hn
    · exact (hk _ (by have := hod.1 q hq; omega)).trans (h.bs q (List.mem_cons_of_mem _ hq))
  · rcases List.mem_cons.1 hq with rfl | hq
    · exact h.lo (b, cs, t) (by simp)
    · exact h.lo q (List.mem_cons_of_mem _ hq)
end
set_option maxHeartbeats 400000 in
theorem ssign_any (n : Int) (w : World) :
    Calls Tryz.prog 116 #[.int .i64 n] w fun e w' => e = .returned (.int .i64 (cmpS n)) ∧ Below w.heap.size w w' := by
  go_enter Tryz.func116, Tryz.ntmps116
  go_wp2
  all_goals go_ret
  all_goals exact ⟨by simp [cmpS]; omega, by exact below_⟩
theorem cmpI_im {a b : Fr} (ha : fvalid a = true) (hb : fvalid b = true) : cmpI a b = if (a.im != 0) || (b.im != 0) then none else some (cmpS (a.re * b.den - b.re * a.den)) := by
  unfold cmpI realOk
  rw [ha, hb]
  by_cases h1 : a.im = 0 <;> by_cases h2 : b.im = 0 <;> simp [h1, h2]
set_option maxRecDepth 100000 in
set_option maxHeartbeats 8000000 in
theorem scompare_any (a b : Fr) (w : World) :
    Calls Tryz.prog 81 #[frv a, frv b] w fun e w' => e = .returned (.tuple #[.int .i64 ((cmpI a b).getD 0), .bool (cmpI a b).isSome]) ∧ Below w.heap.size w w' := by
  obtain ⟨W0, hW0, hQ⟩ : ∃ W, W = (w.alloc (.cells #[.int .i64 a.re, .int .i64 a.im, .int .i64 a.den] 24)).alloc (.cells #[.int .i64 b.re, .int .i64 b.im, .int .i64 b.den] 24) ∧ BW w [(w.heap.size + 1, frc b, 24), (w.heap.size, frc a, 24)] W := by
    refine ⟨_, rfl, ?_⟩
    have h2 := (BW.one w (frc a) 24).push (Below.refl _ _) (frc b) 24
    simp only [World.size_alloc] at h2
    exact h2
  obtain ⟨x0, x1, x2⟩ := blk_fr0 (f := a) (hQ.at (b := w.heap.size) (cs := frc a) (t := 24) (by simp))
  cases ha : fvalid a
  · have e : cmpI a b = none := by simp [cmpI, realOk, ha]
    rw [e]
    have HA := Lib.hid ha
    have hB := hQ.B
    clear e ha
    go_enter Tryz.func81, Tryz.ntmps81
    go_upto_region 1 with fail
    rw [← hW0]
    clear hW0
    go_wp2_with (first | (go_at_call 100; (with_reducible refine (sfvalid_f a _ HA.out).mono ?_); rintro e w1 ⟨rfl, hb⟩; have hB := bstep hB hb hB.size; clear hb))
    go_ret2
    exact ⟨rfl, hB⟩
  cases hb : fvalid b
  · have e : cmpI a b = none := by simp [cmpI, realOk, hb]
    rw [e]
    have HA := Lib.hid ha
    have HB := Lib.hid hb
    clear e ha hb
    go_enter Tryz.func81, Tryz.ntmps81
    go_upto_region 1 with fail
    rw [← hW0]
    clear hW0
    go_wp2_with (first | (go_at_call 100; (with_reducible refine (sfvalid_t a _ HA.out).mono ?_); rintro e w1 ⟨rfl, hb⟩; have hQ1 := hQ.step hb; obtain ⟨y0, y1, y2⟩ := blk_fr0 (f := b) (hQ1.at (b := w.heap.size + 1) (cs := frc b) (t := 24) (by simp)); clear hb) | (go_at_call 100; (with_reducible refine (sfvalid_f b _ HB.out).mono ?_); rintro e w2 ⟨rfl, hb⟩; have hB := bstep hQ1.B hb hQ1.B.size; clear hb))
    go_ret2
    exact ⟨rfl, hB⟩
  obtain ⟨u, hu⟩ : ∃ u, (a.im != 0) = u := ⟨_, rfl⟩
  obtain ⟨v, hv⟩ : ∃ u, (b.im != 0) = u := ⟨_, rfl⟩
  have hr := cmpI_im ha hb
  rw [hu, hv] at hr
  have HR := Lib.hid hr
  have a1 := fvalid_bd a ha
  have b1 := fvalid_bd b hb
  have m1 := mul_bdC a1.1 b1.2.2
  have m2 := mul_bdC b1.1 a1.2.2
  have hw1 : IntKind.i64.wrap (a.re * b.den) = a.re * b.den := IntWalk.i64_in _ (by omega)
  have hw2 : IntKind.i64.wrap (b.re * a.den) = b.re * a.den := IntWalk.i64_in _ (by omega)
  have hw3 : IntKind.i64.wrap (a.re * b.den - b.re * a.den) = a.re * b.den - b.re * a.den := IntWalk.i64_in _ (by omega)
  have hw4 : wrap64 (a.re * b.den - b.re * a.den) = a.re * b.den - b.re * a.den := by unfold wrap64; omega
  have HA := Lib.hid ha
  have HB := Lib.hid hb
  clear ha hb a1 b1 m1 m2 hr
  go_enter Tryz.func81, Tryz.ntmps81
  go_upto_region 1 with fail
  rw [← hW0]
  clear hW0
  cases u
  · cases v
    · skip
      go_wp2_with (first | (go_at_call 100; (with_reducible refine (sfvalid_t a _ HA.out).mono ?_); rintro e w1 ⟨rfl, hb⟩; have hQ1 := hQ.step hb; obtain ⟨x0, x1, x2⟩ := blk_fr0 (f := a) (hQ1.at (b := w.heap.size) (cs := frc a) (t := 24) (by simp)); obtain ⟨y0, y1, y2⟩ := blk_fr0 (f := b) (hQ1.at (b := w.heap.size + 1) (cs := frc b) (t := 24) (by simp)); clear hb) | (go_at_call 100; (with_reducible refine (sfvalid_t b _ HB.out).mono ?_); rintro e w2 ⟨rfl, hb⟩; have hQ2 := hQ1.step hb; have hB := hQ2.B; obtain ⟨x0, x1, x2⟩ := blk_fr0 (f := a) (hQ2.at (b := w.heap.size) (cs := frc a) (t := 24) (by simp)); obtain ⟨y0, y1, y2⟩ := blk_fr0 (f := b) (hQ2.at (b := w.heap.size + 1) (cs := frc b) (t := 24) (by simp)); clear hb) | (go_at_call 116; (with_reducible refine (ssign_any _ _).mono ?_); rintro e w3 ⟨rfl, hb⟩; have hB := bstep hB hb hB.size; clear hb))
      go_ret2
      exact ⟨by rw [HR.out]; simp [*], hB⟩
    · skip
      go_wp2_with (first | (go_at_call 100; (with_reducible refine (sfvalid_t a _ HA.out).mono ?_); rintro e w1 ⟨rfl, hb⟩; have hQ1 := hQ.step hb; obtain ⟨x0, x1, x2⟩ := blk_fr0 (f := a) (hQ1.at (b := w.heap.size) (cs := frc a) (t := 24) (by simp)); obtain ⟨y0, y1, y2⟩ := blk_fr0 (f := b) (hQ1.at (b := w.heap.size + 1) (cs := frc b) (t := 24) (by simp)); clear hb) | (go_at_call 100; (with_reducible refine (sfvalid_t b _ HB.out).mono ?_); rintro e w2 ⟨rfl, hb⟩; have hQ2 := hQ1.step hb; have hB := hQ2.B; obtain ⟨x0, x1, x2⟩ := blk_fr0 (f := a) (hQ2.at (b := w.heap.size) (cs := frc a) (t := 24) (by simp)); obtain ⟨y0, y1, y2⟩ := blk_fr0 (f := b) (hQ2.at (b := w.heap.size + 1) (cs := frc b) (t := 24) (by simp)); clear hb) | (go_at_call 116; (with_reducible refine (ssign_any _ _).mono ?_); rintro e w3 ⟨rfl, hb⟩; have hB := bstep hB hb hB.size; clear hb))
      go_ret2
      exact ⟨by rw [HR.out]; rfl, hB⟩
  · skip
    go_wp2_with (first | (go_at_call 100; (with_reducible refine (sfvalid_t a _ HA.out).mono ?_); rintro e w1 ⟨rfl, hb⟩; have hQ1 := hQ.step hb; obtain ⟨x0, x1, x2⟩ := blk_fr0 (f := a) (hQ1.at (b := w.heap.size) (cs := frc a) (t := 24) (by simp)); obtain ⟨y0, y1, y2⟩ := blk_fr0 (f := b) (hQ1.at (b := w.heap.size + 1) (cs := frc b) (t := 24) (by simp)); clear hb) | (go_at_call 100; (with_reducible refine (sfvalid_t b _ HB.out).mono ?_); rintro e w2 ⟨rfl, hb⟩; have hQ2 := hQ1.step hb; have hB := hQ2.B; obtain ⟨x0, x1, x2⟩ := blk_fr0 (f := a) (hQ2.at (b := w.heap.size) (cs := frc a) (t := 24) (by simp)); obtain ⟨y0, y1, y2⟩ := blk_fr0 (f := b) (hQ2.at (b := w.heap.size + 1) (cs := frc b) (t := 24) (by simp)); clear hb) | (go_at_call 116; (with_reducible refine (ssign_any _ _).mono ?_); rintro e w3 ⟨rfl, hb⟩; have hB := bstep hB hb hB.size; clear hb))
    go_ret2
    exact ⟨by rw [HR.out]; rfl, hB⟩
theorem scompare_m (a b : Fr) (n : Int) (ok : Bool) (w : World) (e : Hid ((cmpI a b).getD 0 = n ∧ (cmpI a b).isSome = ok)) :
    Calls Tryz.prog 81 #[frv a, frv b] w fun e w' => e = .returned (.tuple #[.int .i64 n, .bool ok]) ∧ Below w.heap.size w w' := by
  rw [← e.out.1, ← e.out.2]; exact scompare_any a b w
end Go.Proofs.YtjbnkefeacineaaGreatDoor
