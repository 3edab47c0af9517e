/-
  The walks of rotators and plates, program and reference.
-/
import Derived.Test.YtiagnnmnaakmoaaDoorNa
import Derived.Test.YtiagnnmnaakmoaaDoorDi
import Derived.Test.YtiagnnmnaakmoaaDoorMu
namespace Go.Proofs.YtiagnnmnaakmoaaDoor
set_option linter.unusedSimpArgs false
set_option linter.unusedVariables false
open Go.RowKit
attribute [local go_sem ↓] Go.wp_at_zero Go.wp_at_succ
/-- The rotator of a direction. -/
def rotM (p q : Int) : Mt := ⟨dirC p q, ⟨-(dirS p q).re, -(dirS p q).im, (dirS p q).den⟩, dirS p q, dirC p q⟩
def rotI (p q : Int) : Option Mt := if dirOk p q then some (rotM p q) else none
theorem dirS_im (p q : Int) : (dirS p q).im = 0 := by
  unfold dirS lowI
  simp only []
  split
  · simp
  · rfl
theorem dirS_bd (p q : Int) : -2000000000 ≤ (dirS p q).re ∧ (dirS p q).re ≤ 2000000000 := by
  unfold dirS lowI
  simp only []
  split
  · rename_i h
    simp only [Bool.and_eq_true, inB_iff] at h
    exact h.1.1
  · exact ⟨by decide, by decide⟩
set_option maxHeartbeats 1000000 in
theorem opposite_any (a : Fr) (w : World) (h1 : -2000000000 ≤ a.re) (h2 : a.re ≤ 2000000000) (h3 : -2000000000 ≤ a.im) (h4 : a.im ≤ 2000000000) :
    Calls Tryd.prog 82 #[frv a] w fun e w' => e = .returned (frv ⟨-a.re, -a.im, a.den⟩) ∧ Below w.heap.size w w' := by
  go_enter Tryd.func82, Tryd.ntmps82
  go_wp2
  exact bodyPost_ret (v := frv ⟨-a.re, -a.im, a.den⟩) (by simp [results, Tryd.results82, go_sem, *]) rfl ⟨rfl, by exact below_⟩
set_option maxRecDepth 100000 in
set_option maxHeartbeats 1000000 in
theorem rot_any (p q : Int) (w : World) :
    Calls Tryd.prog 66 #[.int .i64 p, .int .i64 q] w fun e w' => e = .returned (mtb (rotI p q)) ∧ Below w.heap.size w w' := by
  obtain ⟨b1, b2⟩ := dirS_bd p q
  have b4 : -2000000000 ≤ (dirS p q).im := by rw [dirS_im]; decide
  have b5 : (dirS p q).im ≤ 2000000000 := by rw [dirS_im]; decide
  cases h : dirOk p q
  · rw [show rotI p q = none by simp [rotI, h]]
    go_enter Tryd.func66, Tryd.ntmps66
    go_wp2_with (first | (go_at_call 81; (with_reducible refine (direction_f p q _ h).mono ?_); rintro e w1 ⟨rfl, hb⟩; obtain ⟨hc, hf⟩ := bf hb (w.heap.size + 1) side_; have hs := hb.size; (try simp only [World.size_alloc, World.size_setCell, World.size_drew, World.heap_drewN] at hs); have hl : w.heap.size ≤ w1.heap.size ∧ w.heap.size < w1.heap.size := ⟨by omega, by omega⟩; have hB : Below w.heap.size w w1 := bstep (by exact below_) hb side_; clear hs hb))
    exact bodyPost_ret (v := mtb none) (by simp [results, Tryd.results66, go_sem, *]) rfl ⟨rfl, by exact below_⟩
  · rw [show rotI p q = some (rotM p q) by simp [rotI, h]]
    go_enter Tryd.func66, Tryd.ntmps66
    go_wp2_with (first | (go_at_call 81; (with_reducible refine (direction_t p q _ h).mono ?_); rintro e w1 ⟨rfl, hb⟩; obtain ⟨hc, hf⟩ := bf hb (w.heap.size + 1) side_; have hs := hb.size; (try simp only [World.size_alloc, World.size_setCell, World.size_drew, World.heap_drewN] at hs); have hl : w.heap.size ≤ w1.heap.size ∧ w.heap.size < w1.heap.size := ⟨by omega, by omega⟩; have hB : Below w.heap.size w w1 := bstep (by exact below_) hb side_; clear hs hb))
    go_region_held3 (fun w' => w'.cell? ⟨w1.heap.size, 0, none⟩ = some (.int .i64 ((dirC p q).re)) ∧ w'.cell? ⟨w1.heap.size, 1, none⟩ = some (.int .i64 ((dirC p q).im)) ∧ w'.cell? ⟨w1.heap.size, 2, none⟩ = some (.int .i64 ((dirC p q).den)) ∧ w'.cell? ⟨w1.heap.size + 1, 0, none⟩ = some (.int .i64 ((dirS p q).re)) ∧ w'.cell? ⟨w1.heap.size + 1, 1, none⟩ = some (.int .i64 ((dirS p q).im)) ∧ w'.cell? ⟨w1.heap.size + 1, 2, none⟩ = some (.int .i64 ((dirS p q).den))) ((first | go_keep | (simp [go_sem, *]; done))) (first | (go_at_call 82; (with_reducible refine (opposite_any (dirS p q) _ b1 b2 b4 b5).mono ?_); rintro e w1 ⟨rfl, hb⟩; obtain ⟨hc, hf⟩ := bf hb (w.heap.size + 1) side_; have hs := hb.size; (try simp only [World.size_alloc, World.size_setCell, World.size_drew, World.heap_drewN] at hs); have hl : w.heap.size ≤ w1.heap.size ∧ w.heap.size < w1.heap.size := ⟨by omega, by omega⟩; obtain ⟨B, hBe, hBl, hc2, hf2⟩ := bfA hb; (try simp only [World.size_alloc, World.size_setCell, World.size_drew, World.heap_drewN] at hBe); have hB : Below w.heap.size w w1 := bstep (by exact below_) hb side_; clear hs hb))
    (try go_wp2)
    exact bodyPost_ret (v := mtb (some (rotM p q))) (by simp [results, Tryd.results66, go_sem, rotM, *]) rfl ⟨rfl, by exact below_⟩
set_option maxRecDepth 100000 in
set_option maxHeartbeats 1000000 in
theorem srot_any (p q : Int) (w : World) :
    Calls Tryd.prog 78 #[.int .i64 p, .int .i64 q] w fun e w' => e = .returned (mtb (rotI p q)) ∧ Below w.heap.size w w' := by
  obtain ⟨b1, b2⟩ := dirS_bd p q
  have b3 := Lib.hid (dirS_im p q)
  cases h : dirOk p q
  · rw [show rotI p q = none by simp [rotI, h]]
    go_enter Tryd.func78, Tryd.ntmps78
    go_wp2_with (first | (go_at_call 51; (with_reducible refine (sdirection_f p q _ h).mono ?_); rintro e w1 ⟨rfl, hb⟩; obtain ⟨hc, hf⟩ := bf hb (w.heap.size + 1) side_; have hs := hb.size; (try simp only [World.size_alloc, World.size_setCell, World.size_drew, World.heap_drewN] at hs); have hl : w.heap.size ≤ w1.heap.size ∧ w.heap.size < w1.heap.size := ⟨by omega, by omega⟩; have hB : Below w.heap.size w w1 := bstep (by exact below_) hb side_; clear hs hb) | (go_at_call 61; (with_reducible refine (four_f ⟨_, _, _⟩ ⟨_, _, _⟩ ⟨_, _, _⟩ ⟨_, _, _⟩ _).mono ?_); rintro e w1 ⟨rfl, hb⟩; obtain ⟨hc, hf⟩ := bf hb (w.heap.size + 1) side_; have hs := hb.size; (try simp only [World.size_alloc, World.size_setCell, World.size_drew, World.heap_drewN] at hs); have hl : w.heap.size ≤ w1.heap.size ∧ w.heap.size < w1.heap.size := ⟨by omega, by omega⟩; obtain ⟨B, hBe, hBl, hc2, hf2⟩ := bfA hb; (try simp only [World.size_alloc, World.size_setCell, World.size_drew, World.heap_drewN] at hBe); have hB : Below w.heap.size w w1 := bstep (by exact below_) hb side_; clear hs hb))
    exact bodyPost_ret (v := mtb none) (by simp [results, Tryd.results78, go_sem, *]) rfl ⟨rfl, by exact below_⟩
  · rw [show rotI p q = some (rotM p q) by simp [rotI, h]]
    go_enter Tryd.func78, Tryd.ntmps78
    go_wp2_with (first | (go_at_call 51; (with_reducible refine (sdirection_t p q _ h).mono ?_); rintro e w1 ⟨rfl, hb⟩; obtain ⟨hc, hf⟩ := bf hb (w.heap.size + 1) side_; have hs := hb.size; (try simp only [World.size_alloc, World.size_setCell, World.size_drew, World.heap_drewN] at hs); have hl : w.heap.size ≤ w1.heap.size ∧ w.heap.size < w1.heap.size := ⟨by omega, by omega⟩; have hB : Below w.heap.size w w1 := bstep (by exact below_) hb side_; clear hs hb) | (go_at_call 61; (with_reducible refine (four_t ⟨_, _, _⟩ ⟨_, _, _⟩ ⟨_, _, _⟩ ⟨_, _, _⟩ _).mono ?_); rintro e w1 ⟨rfl, hb⟩; obtain ⟨hc, hf⟩ := bf hb (w.heap.size + 1) side_; have hs := hb.size; (try simp only [World.size_alloc, World.size_setCell, World.size_drew, World.heap_drewN] at hs); have hl : w.heap.size ≤ w1.heap.size ∧ w.heap.size < w1.heap.size := ⟨by omega, by omega⟩; obtain ⟨B, hBe, hBl, hc2, hf2⟩ := bfA hb; (try simp only [World.size_alloc, World.size_setCell, World.size_drew, World.heap_drewN] at hBe); have hB : Below w.heap.size w w1 := bstep (by exact below_) hb side_; clear hs hb))
    have b3 := b3.out
    exact bodyPost_ret (v := mtb (some (rotM p q))) (by simp [results, Tryd.results78, go_sem, rotM, *]) rfl ⟨rfl, by exact below_⟩
end Go.Proofs.YtiagnnmnaakmoaaDoor
