/-
  The walks of directions and of single sections.
-/
import Derived.Test.YtiagnnmnaakmoaaDoorWd
import Derived.Test.YtiagnnmnaakmoaaDoorSe
namespace Go.Proofs.YtiagnnmnaakmoaaDoor
set_option linter.unusedSimpArgs false
set_option linter.unusedVariables false
open Go.RowKit
set_option maxHeartbeats 1000000 in
theorem direction_t (p q : Int) (w : World) (h : dirOk p q = true) :
    Calls Tryd.prog 81 #[.int .i64 p, .int .i64 q] w fun e w' => e = .returned (.tuple #[frv (dirC p q), frv (dirS p q), .bool true]) ∧ Below w.heap.size w w' := by
  obtain ⟨⟨b1, b2⟩, ⟨b3, b4⟩, ⟨b5, b6⟩, ⟨b7, b8⟩, ⟨b9, b10⟩, ⟨b11, b12⟩⟩ := dir_bd p q h
  simp only [dirOk, Bool.and_eq_true, Bool.not_eq_true'] at h
  obtain ⟨⟨h1, h2⟩, h3⟩ := h
  unfold dirC dirS
  by_cases hp : p = 0
  · have hq : ¬ q = 0 := by intro e; subst hp; subst e; simp at h3
    clear h3
    subst hp
    simp only [Int.mul_zero, Int.zero_mul, Int.zero_add, Int.zero_sub] at *
    go_enter Tryd.func81, Tryd.ntmps81
    go_wp2_with (first | (go_at_call 67; refine (within_t _ _ _ _ (by assumption)).mono ?_; rintro e w1 ⟨rfl, rfl⟩) | (go_at_call 49; (with_reducible refine (lowest_any _ _ _ _ (by omega) (by omega) (by omega) (by omega) (by omega) (by omega)).mono ?_); rintro e w1 ⟨rfl, hb⟩; obtain ⟨hc, hf⟩ := bf hb (w.heap.size + 1 + 1) side_; have hs := hb.size; (try simp only [World.size_alloc, World.size_setCell, World.size_drew, World.heap_drewN] at hs); have hl : w.heap.size ≤ w1.heap.size ∧ w.heap.size < w1.heap.size ∧ w.heap.size + 1 < w1.heap.size := ⟨by omega, by omega, by omega⟩; obtain ⟨B, hBe, hBl, hc2, hf2⟩ := bfA hb; (try simp only [World.size_alloc, World.size_setCell, World.size_drew, World.heap_drewN] at hBe); have hB : Below w.heap.size w w1 := bstep (by exact below_) hb side_; clear hs hb))
    go_region
    go_wp2
    all_goals exact bodyPost_ret (by simp [results, Tryd.results81, go_sem, *]) rfl ⟨rfl, by exact below_⟩
  · clear h3
    go_enter Tryd.func81, Tryd.ntmps81
    go_wp2_with (first | (go_at_call 67; refine (within_t _ _ _ _ (by assumption)).mono ?_; rintro e w1 ⟨rfl, rfl⟩) | (go_at_call 49; (with_reducible refine (lowest_any _ _ _ _ (by omega) (by omega) (by omega) (by omega) (by omega) (by omega)).mono ?_); rintro e w1 ⟨rfl, hb⟩; obtain ⟨hc, hf⟩ := bf hb (w.heap.size + 1 + 1) side_; have hs := hb.size; (try simp only [World.size_alloc, World.size_setCell, World.size_drew, World.heap_drewN] at hs); have hl : w.heap.size ≤ w1.heap.size ∧ w.heap.size < w1.heap.size ∧ w.heap.size + 1 < w1.heap.size := ⟨by omega, by omega, by omega⟩; obtain ⟨B, hBe, hBl, hc2, hf2⟩ := bfA hb; (try simp only [World.size_alloc, World.size_setCell, World.size_drew, World.heap_drewN] at hBe); have hB : Below w.heap.size w w1 := bstep (by exact below_) hb side_; clear hs hb))
    go_region
    go_wp2
    all_goals exact bodyPost_ret (by simp [results, Tryd.results81, go_sem, *]) rfl ⟨rfl, by exact below_⟩
set_option maxHeartbeats 1000000 in
theorem direction_f (p q : Int) (w : World) (h : dirOk p q = false) :
    Calls Tryd.prog 81 #[.int .i64 p, .int .i64 q] w fun e w' => e = .returned (.tuple #[frv ⟨0, 0, 0⟩, frv ⟨0, 0, 0⟩, .bool false]) ∧ Below w.heap.size w w' := by
  cases h1 : inB p (-100) 100
  · clear h
    go_enter Tryd.func81, Tryd.ntmps81
    go_wp2_with (first | (go_at_call 67; refine (within_t _ _ _ _ (by assumption)).mono ?_; rintro e w1 ⟨rfl, rfl⟩) | (go_at_call 67; refine (within_f _ _ _ _ (by assumption)).mono ?_; rintro e w1 ⟨rfl, rfl⟩))
    exact bodyPost_ret (v := .tuple #[frv ⟨0, 0, 0⟩, frv ⟨0, 0, 0⟩, .bool false]) (by simp [results, Tryd.results81, go_sem, *]) rfl ⟨rfl, by exact below_⟩
  · cases h2 : inB q (-100) 100
    · clear h
      go_enter Tryd.func81, Tryd.ntmps81
      go_wp2_with (first | (go_at_call 67; refine (within_t _ _ _ _ (by assumption)).mono ?_; rintro e w1 ⟨rfl, rfl⟩) | (go_at_call 67; refine (within_f _ _ _ _ (by assumption)).mono ?_; rintro e w1 ⟨rfl, rfl⟩))
      exact bodyPost_ret (v := .tuple #[frv ⟨0, 0, 0⟩, frv ⟨0, 0, 0⟩, .bool false]) (by simp [results, Tryd.results81, go_sem, *]) rfl ⟨rfl, by exact below_⟩
    · have h3 : p = 0 ∧ q = 0 := by simpa [dirOk, h1, h2] using h
      obtain ⟨rfl, rfl⟩ := h3
      clear h
      go_enter Tryd.func81, Tryd.ntmps81
      go_wp2_with (first | (go_at_call 67; refine (within_t _ _ _ _ (by assumption)).mono ?_; rintro e w1 ⟨rfl, rfl⟩) | (go_at_call 67; refine (within_f _ _ _ _ (by assumption)).mono ?_; rintro e w1 ⟨rfl, rfl⟩))
      exact bodyPost_ret (v := .tuple #[frv ⟨0, 0, 0⟩, frv ⟨0, 0, 0⟩, .bool false]) (by simp [results, Tryd.results81, go_sem, *]) rfl ⟨rfl, by exact below_⟩
theorem makeI_low (re im den : Int) (h1 : inB den 1 1000000000000000000 = true) (h2 : inB re (-1000000000000000000) 1000000000000000000 = true) (h3 : inB im (-1000000000000000000) 1000000000000000000 = true) : makeI re im den = lowI re im den := by simp [makeI, h1, h2, h3]
theorem smake_low (re im den : Int) (w : World) (h1 : inB den 1 1000000000000000000 = true) (h2 : inB re (-1000000000000000000) 1000000000000000000 = true) (h3 : inB im (-1000000000000000000) 1000000000000000000 = true) :
    Calls Tryd.prog 74 #[.int .i64 re, .int .i64 im, .int .i64 den] w fun e w' => e = .returned (frb (lowI re im den)) ∧ Below w.heap.size w w' := by
  rw [← makeI_low re im den h1 h2 h3]; exact smake_any re im den w
set_option maxHeartbeats 1000000 in
theorem sdirection_t (p q : Int) (w : World) (h : dirOk p q = true) :
    Calls Tryd.prog 51 #[.int .i64 p, .int .i64 q] w fun e w' => e = .returned (.tuple #[frv (dirC p q), frv (dirS p q), .bool true]) ∧ Below w.heap.size w w' := by
  obtain ⟨⟨b1, b2⟩, ⟨b3, b4⟩, ⟨b5, b6⟩, ⟨b7, b8⟩, ⟨b9, b10⟩, ⟨b11, b12⟩⟩ := dir_bd p q h
  simp only [dirOk, Bool.and_eq_true, Bool.not_eq_true'] at h
  obtain ⟨⟨h1, h2⟩, h3⟩ := h
  unfold dirC dirS
  by_cases hp : p = 0
  · have hq : ¬ q = 0 := by intro e; subst hp; subst e; simp at h3
    clear h3
    subst hp
    simp only [Int.mul_zero, Int.zero_mul, Int.zero_add, Int.zero_sub] at *
    go_enter Tryd.func51, Tryd.ntmps51
    go_wp2_with (first | (go_at_call 73; refine (l6in_t _ _ _ _ (by assumption)).mono ?_; rintro e w1 ⟨rfl, rfl⟩) | (go_at_call 74; (with_reducible refine (smake_low _ _ _ _ (by rw [inB_iff]; omega) (by rw [inB_iff]; omega) (by rw [inB_iff]; omega)).mono ?_); rintro e w1 ⟨rfl, hb⟩; obtain ⟨hc, hf⟩ := bf hb (w.heap.size + 1 + 1) side_; have hs := hb.size; (try simp only [World.size_alloc, World.size_setCell, World.size_drew, World.heap_drewN] at hs); have hl : w.heap.size ≤ w1.heap.size ∧ w.heap.size < w1.heap.size ∧ w.heap.size + 1 < w1.heap.size := ⟨by omega, by omega, by omega⟩; obtain ⟨B, hBe, hBl, hc2, hf2⟩ := bfA hb; (try simp only [World.size_alloc, World.size_setCell, World.size_drew, World.heap_drewN] at hBe); have hB : Below w.heap.size w w1 := bstep (by exact below_) hb side_; clear hs hb))
    go_region
    go_wp2
    all_goals exact bodyPost_ret (by simp [results, Tryd.results51, go_sem, *]) rfl ⟨rfl, by exact below_⟩
  · clear h3
    go_enter Tryd.func51, Tryd.ntmps51
    go_wp2_with (first | (go_at_call 73; refine (l6in_t _ _ _ _ (by assumption)).mono ?_; rintro e w1 ⟨rfl, rfl⟩) | (go_at_call 74; (with_reducible refine (smake_low _ _ _ _ (by rw [inB_iff]; omega) (by rw [inB_iff]; omega) (by rw [inB_iff]; omega)).mono ?_); rintro e w1 ⟨rfl, hb⟩; obtain ⟨hc, hf⟩ := bf hb (w.heap.size + 1 + 1) side_; have hs := hb.size; (try simp only [World.size_alloc, World.size_setCell, World.size_drew, World.heap_drewN] at hs); have hl : w.heap.size ≤ w1.heap.size ∧ w.heap.size < w1.heap.size ∧ w.heap.size + 1 < w1.heap.size := ⟨by omega, by omega, by omega⟩; obtain ⟨B, hBe, hBl, hc2, hf2⟩ := bfA hb; (try simp only [World.size_alloc, World.size_setCell, World.size_drew, World.heap_drewN] at hBe); have hB : Below w.heap.size w w1 := bstep (by exact below_) hb side_; clear hs hb))
    go_region
    go_wp2
    all_goals exact bodyPost_ret (by simp [results, Tryd.results51, go_sem, *]) rfl ⟨rfl, by exact below_⟩
set_option maxHeartbeats 1000000 in
theorem sdirection_f (p q : Int) (w : World) (h : dirOk p q = false) :
    Calls Tryd.prog 51 #[.int .i64 p, .int .i64 q] w fun e w' => e = .returned (.tuple #[frv ⟨0, 0, 0⟩, frv ⟨0, 0, 0⟩, .bool false]) ∧ Below w.heap.size w w' := by
  cases h1 : inB p (-100) 100
  · clear h
    go_enter Tryd.func51, Tryd.ntmps51
    go_wp2_with (first | (go_at_call 73; refine (l6in_t _ _ _ _ (by assumption)).mono ?_; rintro e w1 ⟨rfl, rfl⟩) | (go_at_call 73; refine (l6in_f _ _ _ _ (by assumption)).mono ?_; rintro e w1 ⟨rfl, rfl⟩))
    exact bodyPost_ret (v := .tuple #[frv ⟨0, 0, 0⟩, frv ⟨0, 0, 0⟩, .bool false]) (by simp [results, Tryd.results51, go_sem, *]) rfl ⟨rfl, by exact below_⟩
  · cases h2 : inB q (-100) 100
    · clear h
      go_enter Tryd.func51, Tryd.ntmps51
      go_wp2_with (first | (go_at_call 73; refine (l6in_t _ _ _ _ (by assumption)).mono ?_; rintro e w1 ⟨rfl, rfl⟩) | (go_at_call 73; refine (l6in_f _ _ _ _ (by assumption)).mono ?_; rintro e w1 ⟨rfl, rfl⟩))
      exact bodyPost_ret (v := .tuple #[frv ⟨0, 0, 0⟩, frv ⟨0, 0, 0⟩, .bool false]) (by simp [results, Tryd.results51, go_sem, *]) rfl ⟨rfl, by exact below_⟩
    · have h3 : p = 0 ∧ q = 0 := by simpa [dirOk, h1, h2] using h
      obtain ⟨rfl, rfl⟩ := h3
      clear h
      go_enter Tryd.func51, Tryd.ntmps51
      go_wp2_with (first | (go_at_call 73; refine (l6in_t _ _ _ _ (by assumption)).mono ?_; rintro e w1 ⟨rfl, rfl⟩) | (go_at_call 73; refine (l6in_f _ _ _ _ (by assumption)).mono ?_; rintro e w1 ⟨rfl, rfl⟩))
      exact bodyPost_ret (v := .tuple #[frv ⟨0, 0, 0⟩, frv ⟨0, 0, 0⟩, .bool false]) (by simp [results, Tryd.results51, go_sem, *]) rfl ⟨rfl, by exact below_⟩
end Go.Proofs.YtiagnnmnaakmoaaDoor
