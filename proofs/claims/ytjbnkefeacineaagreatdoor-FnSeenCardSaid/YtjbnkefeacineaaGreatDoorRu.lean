/-
  The walks of quotients in the reference and of ratios, program and reference.
-/
import Derived.Test.YtjbnkefeacineaaGreatDoorRt
import Derived.Test.YtjbnkefeacineaaGreatDoorPa
namespace Go.Proofs.YtjbnkefeacineaaGreatDoor
set_option linter.unusedSimpArgs false
set_option linter.unusedVariables false
open Go.RowKit
set_option maxHeartbeats 1000000 in
theorem sover_any (a b : Fr) (w : World) :
    Calls Tryz.prog 65 #[frv a, frv b] w fun e w' => e = .returned (frb (overI a b)) ∧ Below w.heap.size w w' := by
  cases ha : fvalid a
  · have e : overI a b = none := by simp [overI, ha]
    rw [e]; clear e
    go_enter Tryz.func65, Tryz.ntmps65
    go_wp2_with (first | (go_at_call 100; (with_reducible refine (sfvalid_f _ _ (by assumption)).mono ?_); rintro e w1 ⟨rfl, hb⟩; obtain ⟨hc, hf⟩ := bf hb (w.heap.size + 1 + 1 + 1) side_; have hs := hb.size; (try simp only [World.size_alloc, World.size_setCell, World.size_drew, World.heap_drewN] at hs); have hl : w.heap.size ≤ w1.heap.size ∧ w.heap.size < w1.heap.size ∧ w.heap.size + 1 < w1.heap.size ∧ w.heap.size + 1 + 1 < w1.heap.size := ⟨by omega, by omega, by omega, by omega⟩; have hB : Below w.heap.size w w1 := bstep (by exact below_) hb side_; clear hs hb))
    exact bodyPost_ret (v := frb none) (by simp [results, Tryz.results65, go_sem, *]) rfl ⟨rfl, by exact below_⟩
  cases hb : fvalid b
  · have e : overI a b = none := by simp [overI, ha, hb]
    rw [e]; clear e
    go_enter Tryz.func65, Tryz.ntmps65
    go_wp2_with (first | (go_at_call 100; (with_reducible refine (sfvalid_t _ _ (by assumption)).mono ?_); rintro e w1 ⟨rfl, hb⟩; obtain ⟨hc, hf⟩ := bf hb (w.heap.size + 1 + 1 + 1) side_; have hs := hb.size; (try simp only [World.size_alloc, World.size_setCell, World.size_drew, World.heap_drewN] at hs); have hl : w.heap.size ≤ w1.heap.size ∧ w.heap.size < w1.heap.size ∧ w.heap.size + 1 < w1.heap.size ∧ w.heap.size + 1 + 1 < w1.heap.size := ⟨by omega, by omega, by omega, by omega⟩; have hB : Below w.heap.size w w1 := bstep (by exact below_) hb side_; clear hs hb) | (go_at_call 100; (with_reducible refine (sfvalid_f _ _ (by assumption)).mono ?_); rintro e w1 ⟨rfl, hb⟩; obtain ⟨hc, hf⟩ := bf hb (w.heap.size + 1 + 1 + 1) side_; have hs := hb.size; (try simp only [World.size_alloc, World.size_setCell, World.size_drew, World.heap_drewN] at hs); have hl : w.heap.size ≤ w1.heap.size ∧ w.heap.size < w1.heap.size ∧ w.heap.size + 1 < w1.heap.size ∧ w.heap.size + 1 + 1 < w1.heap.size := ⟨by omega, by omega, by omega, by omega⟩; have hB : Below w.heap.size w w1 := bstep (by exact below_) hb side_; clear hs hb))
    exact bodyPost_ret (v := frb none) (by simp [results, Tryz.results65, go_sem, *]) rfl ⟨rfl, by exact below_⟩
  cases hz : isZero b
  · have e : overI a b = (turnI b).bind (timesI a) := by simp [overI, ha, hb, hz]
    rw [e]
    clear e
    have ht := fun w' => sturn_any b w' hb hz
    have HT := Lib.hid ht
    clear ht
    have hcase : (b.re == 0) = false ∨ ((b.re == 0) = true ∧ (b.im == 0) = false) := by
      unfold isZero at hz
      cases h1 : b.re == 0
      · exact .inl rfl
      · exact .inr ⟨rfl, by simpa [h1] using hz⟩
    clear hz
    cases hr : turnI b with
    | none =>
      show Calls _ _ _ _ fun e w' => e = .returned (frb none) ∧ _
      rcases hcase with hne | ⟨hn0, hne⟩
      all_goals
        go_enter Tryz.func65, Tryz.ntmps65
        go_wp2_with (first | (go_at_call 100; (with_reducible refine (sfvalid_t _ _ (by assumption)).mono ?_); rintro e w1 ⟨rfl, hb⟩; obtain ⟨hc, hf⟩ := bf hb (w.heap.size + 1 + 1 + 1) side_; have hs := hb.size; (try simp only [World.size_alloc, World.size_setCell, World.size_drew, World.heap_drewN] at hs); have hl : w.heap.size ≤ w1.heap.size ∧ w.heap.size < w1.heap.size ∧ w.heap.size + 1 < w1.heap.size ∧ w.heap.size + 1 + 1 < w1.heap.size := ⟨by omega, by omega, by omega, by omega⟩; have hB : Below w.heap.size w w1 := bstep (by exact below_) hb side_; clear hs hb) | (go_at_call 101; (with_reducible refine (HT.out _).mono ?_); rintro e w1 ⟨rfl, hb⟩; obtain ⟨hc, hf⟩ := bf hb (w.heap.size + 1 + 1 + 1) side_; have hs := hb.size; (try simp only [World.size_alloc, World.size_setCell, World.size_drew, World.heap_drewN] at hs); have hl : w.heap.size ≤ w1.heap.size ∧ w.heap.size < w1.heap.size ∧ w.heap.size + 1 < w1.heap.size ∧ w.heap.size + 1 + 1 < w1.heap.size := ⟨by omega, by omega, by omega, by omega⟩; obtain ⟨B, hBe, hBl, hc2, hf2⟩ := bfA hb; (try simp only [World.size_alloc, World.size_setCell, World.size_drew, World.heap_drewN] at hBe); have hB : Below w.heap.size w w1 := bstep (by exact below_) hb side_; clear hs hb))
        exact bodyPost_ret (v := frb none) (by simp [results, Tryz.results65, go_sem, *]) rfl ⟨rfl, by exact below_⟩
    | some c =>
      show Calls _ _ _ _ fun e w' => e = .returned (frb (timesI a c)) ∧ _
      rcases hcase with hne | ⟨hn0, hne⟩
      all_goals
        go_enter Tryz.func65, Tryz.ntmps65
        go_wp2_with (first | (go_at_call 100; (with_reducible refine (sfvalid_t _ _ (by assumption)).mono ?_); rintro e w1 ⟨rfl, hb⟩; obtain ⟨hc, hf⟩ := bf hb (w.heap.size + 1 + 1 + 1) side_; have hs := hb.size; (try simp only [World.size_alloc, World.size_setCell, World.size_drew, World.heap_drewN] at hs); have hl : w.heap.size ≤ w1.heap.size ∧ w.heap.size < w1.heap.size ∧ w.heap.size + 1 < w1.heap.size ∧ w.heap.size + 1 + 1 < w1.heap.size := ⟨by omega, by omega, by omega, by omega⟩; have hB : Below w.heap.size w w1 := bstep (by exact below_) hb side_; clear hs hb) | (go_at_call 101; (with_reducible refine (HT.out _).mono ?_); rintro e w1 ⟨rfl, hb⟩; obtain ⟨hc, hf⟩ := bf hb (w.heap.size + 1 + 1 + 1) side_; have hs := hb.size; (try simp only [World.size_alloc, World.size_setCell, World.size_drew, World.heap_drewN] at hs); have hl : w.heap.size ≤ w1.heap.size ∧ w.heap.size < w1.heap.size ∧ w.heap.size + 1 < w1.heap.size ∧ w.heap.size + 1 + 1 < w1.heap.size := ⟨by omega, by omega, by omega, by omega⟩; obtain ⟨B, hBe, hBl, hc2, hf2⟩ := bfA hb; (try simp only [World.size_alloc, World.size_setCell, World.size_drew, World.heap_drewN] at hBe); have hB : Below w.heap.size w w1 := bstep (by exact below_) hb side_; clear hs hb) | (go_at_call 91; (with_reducible refine (stimes_any a c _).mono ?_); rintro e w1 ⟨rfl, hb⟩; obtain ⟨hc, hf⟩ := bf hb (w.heap.size + 1 + 1 + 1) side_; have hs := hb.size; (try simp only [World.size_alloc, World.size_setCell, World.size_drew, World.heap_drewN] at hs); have hl : w.heap.size ≤ w1.heap.size ∧ w.heap.size < w1.heap.size ∧ w.heap.size + 1 < w1.heap.size ∧ w.heap.size + 1 + 1 < w1.heap.size := ⟨by omega, by omega, by omega, by omega⟩; obtain ⟨B, hBe, hBl, hc2, hf2⟩ := bfA hb; (try simp only [World.size_alloc, World.size_setCell, World.size_drew, World.heap_drewN] at hBe); have hB : Below w.heap.size w w1 := bstep (by exact below_) hb side_; clear hs hb))
        exact bodyPost_ret (v := frb (timesI a c)) (by simp [results, Tryz.results65, go_sem, *]) rfl ⟨rfl, by exact below_⟩
  · have e : overI a b = none := by simp [overI, hz]
    rw [e]; clear e
    have h1 : (b.re == 0) = true := by unfold isZero at hz; simp at hz; simp [hz.1]
    have h2 : (b.im == 0) = true := by unfold isZero at hz; simp at hz; simp [hz.2]
    clear hz
    go_enter Tryz.func65, Tryz.ntmps65
    go_wp2_with (first | (go_at_call 100; (with_reducible refine (sfvalid_t _ _ (by assumption)).mono ?_); rintro e w1 ⟨rfl, hb⟩; obtain ⟨hc, hf⟩ := bf hb (w.heap.size + 1 + 1 + 1) side_; have hs := hb.size; (try simp only [World.size_alloc, World.size_setCell, World.size_drew, World.heap_drewN] at hs); have hl : w.heap.size ≤ w1.heap.size ∧ w.heap.size < w1.heap.size ∧ w.heap.size + 1 < w1.heap.size ∧ w.heap.size + 1 + 1 < w1.heap.size := ⟨by omega, by omega, by omega, by omega⟩; have hB : Below w.heap.size w w1 := bstep (by exact below_) hb side_; clear hs hb))
    exact bodyPost_ret (v := frb none) (by simp [results, Tryz.results65, go_sem, *]) rfl ⟨rfl, by exact below_⟩
end Go.Proofs.YtjbnkefeacineaaGreatDoor
