/-
  Texts of this claim, joined: Se; Di; Nc; Ne; Ps. Nothing is claimed here; the other texts of this claim use it.
-/
import Derived.Test.YtjbnkefeacineaaGreatDoorPa
import Derived.Deep.Slices
import Derived.OwnWalk
import Derived.Test.YtjbnkefeacineaaGreatDoorNa
import Derived.Test.YtjbnkefeacineaaGreatDoorMu
import Derived.Test.YtjbnkefeacineaaGreatDoorMv
import Derived.Test.YtjbnkefeacineaaGreatDoorJb
namespace Go.Proofs.YtjbnkefeacineaaGreatDoor
set_option linter.unusedSimpArgs false
set_option linter.unusedVariables false
section
open Go.RowKit
/-- A section of a fibre. -/
structure Sec where
  p : Int
  q : Int
  ph : Int
  t : Int
  deriving DecidableEq
/-- Whether a direction can be told. -/
def dirOk (p q : Int) : Bool := inB p (-100) 100 && inB q (-100) 100 && !(p == 0 && q == 0)
def dirC (p q : Int) : Fr := (lowI (p * p - q * q) 0 (p * p + q * q)).getD ⟨0, 0, 0⟩
def dirS (p q : Int) : Fr := (lowI (2 * p * q) 0 (p * p + q * q)).getD ⟨0, 0, 0⟩
theorem dir_bd (p q : Int) (h : dirOk p q = true) : (1 ≤ p * p + q * q ∧ p * p + q * q ≤ 20000) ∧ (-20000 ≤ p * p - q * q ∧ p * p - q * q ≤ 20000) ∧ (-20000 ≤ 2 * p * q ∧ 2 * p * q ≤ 20000) ∧ (0 ≤ p * p ∧ p * p ≤ 10000) ∧ (0 ≤ q * q ∧ q * q ≤ 10000) ∧ (-200 ≤ 2 * p ∧ 2 * p ≤ 200) := by
  simp only [dirOk, inB, Bool.and_eq_true, decide_eq_true_eq, Bool.not_eq_true', Bool.and_eq_false_iff, beq_eq_false_iff_ne] at h
  obtain ⟨⟨⟨a, b⟩, c, d⟩, e⟩ := h
  have sq : ∀ x : Int, 0 ≤ x * x := fun x => by rw [← Int.natAbs_mul_self]; omega
  have sq1 : ∀ x : Int, x ≠ 0 → 1 ≤ x * x := fun x hx => by
    have h0 := sq x
    have : x * x ≠ 0 := fun e => hx (by simpa using Int.mul_eq_zero.1 e)
    omega
  have up : ∀ x y : Int, -100 ≤ x → x ≤ 100 → -100 ≤ y → y ≤ 100 → -10000 ≤ x * y ∧ x * y ≤ 10000 := fun x y h1 h2 h3 h4 => by
    have h : (x * y).natAbs ≤ 100 * 100 := by
      rw [Int.natAbs_mul]
      exact Nat.mul_le_mul (by omega) (by omega)
    omega
  have p1 := up p p a b a b
  have q1 := up q q c d c d
  have pq := up p q a b c d
  have p0 := sq p
  have q0 := sq q
  have : 1 ≤ p * p + q * q := by
    rcases e with e | e
    · have := sq1 p e; omega
    · have := sq1 q e; omega
  have e2 : 2 * p * q = 2 * (p * q) := by rw [Int.mul_assoc]
  omega
end
section
open Go.RowKit
set_option maxHeartbeats 1000000 in
theorem direction_t (p q : Int) (w : World) (h : dirOk p q = true) :
    Calls Tryz.prog 136 #[.int .i64 p, .int .i64 q] w fun e w' => e = .returned (.tuple #[frv (dirC p q), frv (dirS p q), .bool true]) ∧ Below w.heap.size w w' := by
  obtain ⟨⟨b1, b2⟩, ⟨b3, b4⟩, ⟨b5, b6⟩, ⟨b7, b8⟩, ⟨b9, b10⟩, ⟨b11, b12⟩⟩ := dir_bd p q h
  simp only [dirOk, Bool.and_eq_true, Bool.not_eq_true'] at h
  obtain ⟨⟨h1, h2⟩, h3⟩ := h
  unfold dirC dirS
  by_cases hp : p = 0
  · have hq : ¬ q = 0 := by intro e; subst hp; subst e; simp at h3
    clear h3
    subst hp
    simp only [Int.mul_zero, Int.zero_mul, Int.zero_add, Int.zero_sub] at *
    go_enter Tryz.func136, Tryz.ntmps136
    go_wp2_with (first | (go_at_call 94; refine (within_t _ _ _ _ (by assumption)).mono ?_; rintro e w1 ⟨rfl, rfl⟩) | (go_at_call 59; (with_reducible refine (lowest_any _ _ _ _ (by omega) (by omega) (by omega) (by omega) (by omega) (by omega)).mono ?_); rintro e w1 ⟨rfl, hb⟩; obtain ⟨hc, hf⟩ := bf hb (w.heap.size + 1 + 1) side_; have hs := hb.size; (try simp only [World.size_alloc, World.size_setCell, World.size_drew, World.heap_drewN] at hs); have hl : w.heap.size ≤ w1.heap.size ∧ w.heap.size < w1.heap.size ∧ w.heap.size + 1 < w1.heap.size := ⟨by omega, by omega, by omega⟩; obtain ⟨B, hBe, hBl, hc2, hf2⟩ := bfA hb; (try simp only [World.size_alloc, World.size_setCell, World.size_drew, World.heap_drewN] at hBe); have hB : Below w.heap.size w w1 := bstep (by exact below_) hb side_; clear hs hb))
    go_region
    go_wp2
    all_goals exact bodyPost_ret (by simp [results, Tryz.results136, go_sem, *]) rfl ⟨rfl, by exact below_⟩
  · clear h3
    go_enter Tryz.func136, Tryz.ntmps136
    go_wp2_with (first | (go_at_call 94; refine (within_t _ _ _ _ (by assumption)).mono ?_; rintro e w1 ⟨rfl, rfl⟩) | (go_at_call 59; (with_reducible refine (lowest_any _ _ _ _ (by omega) (by omega) (by omega) (by omega) (by omega) (by omega)).mono ?_); rintro e w1 ⟨rfl, hb⟩; obtain ⟨hc, hf⟩ := bf hb (w.heap.size + 1 + 1) side_; have hs := hb.size; (try simp only [World.size_alloc, World.size_setCell, World.size_drew, World.heap_drewN] at hs); have hl : w.heap.size ≤ w1.heap.size ∧ w.heap.size < w1.heap.size ∧ w.heap.size + 1 < w1.heap.size := ⟨by omega, by omega, by omega⟩; obtain ⟨B, hBe, hBl, hc2, hf2⟩ := bfA hb; (try simp only [World.size_alloc, World.size_setCell, World.size_drew, World.heap_drewN] at hBe); have hB : Below w.heap.size w w1 := bstep (by exact below_) hb side_; clear hs hb))
    go_region
    go_wp2
    all_goals exact bodyPost_ret (by simp [results, Tryz.results136, go_sem, *]) rfl ⟨rfl, by exact below_⟩
set_option maxHeartbeats 1000000 in
theorem direction_f (p q : Int) (w : World) (h : dirOk p q = false) :
    Calls Tryz.prog 136 #[.int .i64 p, .int .i64 q] w fun e w' => e = .returned (.tuple #[frv ⟨0, 0, 0⟩, frv ⟨0, 0, 0⟩, .bool false]) ∧ Below w.heap.size w w' := by
  cases h1 : inB p (-100) 100
  · clear h
    go_enter Tryz.func136, Tryz.ntmps136
    go_wp2_with (first | (go_at_call 94; refine (within_t _ _ _ _ (by assumption)).mono ?_; rintro e w1 ⟨rfl, rfl⟩) | (go_at_call 94; refine (within_f _ _ _ _ (by assumption)).mono ?_; rintro e w1 ⟨rfl, rfl⟩))
    exact bodyPost_ret (v := .tuple #[frv ⟨0, 0, 0⟩, frv ⟨0, 0, 0⟩, .bool false]) (by simp [results, Tryz.results136, go_sem, *]) rfl ⟨rfl, by exact below_⟩
  · cases h2 : inB q (-100) 100
    · clear h
      go_enter Tryz.func136, Tryz.ntmps136
      go_wp2_with (first | (go_at_call 94; refine (within_t _ _ _ _ (by assumption)).mono ?_; rintro e w1 ⟨rfl, rfl⟩) | (go_at_call 94; refine (within_f _ _ _ _ (by assumption)).mono ?_; rintro e w1 ⟨rfl, rfl⟩))
      exact bodyPost_ret (v := .tuple #[frv ⟨0, 0, 0⟩, frv ⟨0, 0, 0⟩, .bool false]) (by simp [results, Tryz.results136, go_sem, *]) rfl ⟨rfl, by exact below_⟩
    · have h3 : p = 0 ∧ q = 0 := by simpa [dirOk, h1, h2] using h
      obtain ⟨rfl, rfl⟩ := h3
      clear h
      go_enter Tryz.func136, Tryz.ntmps136
      go_wp2_with (first | (go_at_call 94; refine (within_t _ _ _ _ (by assumption)).mono ?_; rintro e w1 ⟨rfl, rfl⟩) | (go_at_call 94; refine (within_f _ _ _ _ (by assumption)).mono ?_; rintro e w1 ⟨rfl, rfl⟩))
      exact bodyPost_ret (v := .tuple #[frv ⟨0, 0, 0⟩, frv ⟨0, 0, 0⟩, .bool false]) (by simp [results, Tryz.results136, go_sem, *]) rfl ⟨rfl, by exact below_⟩
theorem makeI_low (re im den : Int) (h1 : inB den 1 1000000000000000000 = true) (h2 : inB re (-1000000000000000000) 1000000000000000000 = true) (h3 : inB im (-1000000000000000000) 1000000000000000000 = true) : makeI re im den = lowI re im den := by simp [makeI, h1, h2, h3]
theorem smake_low (re im den : Int) (w : World) (h1 : inB den 1 1000000000000000000 = true) (h2 : inB re (-1000000000000000000) 1000000000000000000 = true) (h3 : inB im (-1000000000000000000) 1000000000000000000 = true) :
    Calls Tryz.prog 122 #[.int .i64 re, .int .i64 im, .int .i64 den] w fun e w' => e = .returned (frb (lowI re im den)) ∧ Below w.heap.size w w' := by
  rw [← makeI_low re im den h1 h2 h3]; exact smake_any re im den w
set_option maxHeartbeats 1000000 in
theorem sdirection_t (p q : Int) (w : World) (h : dirOk p q = true) :
    Calls Tryz.prog 143 #[.int .i64 p, .int .i64 q] w fun e w' => e = .returned (.tuple #[frv (dirC p q), frv (dirS p q), .bool true]) ∧ Below w.heap.size w w' := by
  obtain ⟨⟨b1, b2⟩, ⟨b3, b4⟩, ⟨b5, b6⟩, ⟨b7, b8⟩, ⟨b9, b10⟩, ⟨b11, b12⟩⟩ := dir_bd p q h
  simp only [dirOk, Bool.and_eq_true, Bool.not_eq_true'] at h
  obtain ⟨⟨h1, h2⟩, h3⟩ := h
  unfold dirC dirS
  by_cases hp : p = 0
  · have hq : ¬ q = 0 := by intro e; subst hp; subst e; simp at h3
    clear h3
    subst hp
    simp only [Int.mul_zero, Int.zero_mul, Int.zero_add, Int.zero_sub] at *
    go_enter Tryz.func143, Tryz.ntmps143
    go_wp2_with (first | (go_at_call 70; refine (l6in_t _ _ _ _ (by assumption)).mono ?_; rintro e w1 ⟨rfl, rfl⟩) | (go_at_call 122; (with_reducible refine (smake_low _ _ _ _ (by rw [inB_iff]; omega) (by rw [inB_iff]; omega) (by rw [inB_iff]; omega)).mono ?_); rintro e w1 ⟨rfl, hb⟩; obtain ⟨hc, hf⟩ := bf hb (w.heap.size + 1 + 1) side_; have hs := hb.size; (try simp only [World.size_alloc, World.size_setCell, World.size_drew, World.heap_drewN] at hs); have hl : w.heap.size ≤ w1.heap.size ∧ w.heap.size < w1.heap.size ∧ w.heap.size + 1 < w1.heap.size := ⟨by omega, by omega, by omega⟩; obtain ⟨B, hBe, hBl, hc2, hf2⟩ := bfA hb; (try simp only [World.size_alloc, World.size_setCell, World.size_drew, World.heap_drewN] at hBe); have hB : Below w.heap.size w w1 := bstep (by exact below_) hb side_; clear hs hb))
    go_region
    go_wp2
    all_goals exact bodyPost_ret (by simp [results, Tryz.results143, go_sem, *]) rfl ⟨rfl, by exact below_⟩
  · clear h3
    go_enter Tryz.func143, Tryz.ntmps143
    go_wp2_with (first | (go_at_call 70; refine (l6in_t _ _ _ _ (by assumption)).mono ?_; rintro e w1 ⟨rfl, rfl⟩) | (go_at_call 122; (with_reducible refine (smake_low _ _ _ _ (by rw [inB_iff]; omega) (by rw [inB_iff]; omega) (by rw [inB_iff]; omega)).mono ?_); rintro e w1 ⟨rfl, hb⟩; obtain ⟨hc, hf⟩ := bf hb (w.heap.size + 1 + 1) side_; have hs := hb.size; (try simp only [World.size_alloc, World.size_setCell, World.size_drew, World.heap_drewN] at hs); have hl : w.heap.size ≤ w1.heap.size ∧ w.heap.size < w1.heap.size ∧ w.heap.size + 1 < w1.heap.size := ⟨by omega, by omega, by omega⟩; obtain ⟨B, hBe, hBl, hc2, hf2⟩ := bfA hb; (try simp only [World.size_alloc, World.size_setCell, World.size_drew, World.heap_drewN] at hBe); have hB : Below w.heap.size w w1 := bstep (by exact below_) hb side_; clear hs hb))
    go_region
    go_wp2
    all_goals exact bodyPost_ret (by simp [results, Tryz.results143, go_sem, *]) rfl ⟨rfl, by exact below_⟩
set_option maxHeartbeats 1000000 in
theorem sdirection_f (p q : Int) (w : World) (h : dirOk p q = false) :
    Calls Tryz.prog 143 #[.int .i64 p, .int .i64 q] w fun e w' => e = .returned (.tuple #[frv ⟨0, 0, 0⟩, frv ⟨0, 0, 0⟩, .bool false]) ∧ Below w.heap.size w w' := by
  cases h1 : inB p (-100) 100
  · clear h
    go_enter Tryz.func143, Tryz.ntmps143
    go_wp2_with (first | (go_at_call 70; refine (l6in_t _ _ _ _ (by assumption)).mono ?_; rintro e w1 ⟨rfl, rfl⟩) | (go_at_call 70; refine (l6in_f _ _ _ _ (by assumption)).mono ?_; rintro e w1 ⟨rfl, rfl⟩))
    exact bodyPost_ret (v := .tuple #[frv ⟨0, 0, 0⟩, frv ⟨0, 0, 0⟩, .bool false]) (by simp [results, Tryz.results143, go_sem, *]) rfl ⟨rfl, by exact below_⟩
  · cases h2 : inB q (-100) 100
    · clear h
      go_enter Tryz.func143, Tryz.ntmps143
      go_wp2_with (first | (go_at_call 70; refine (l6in_t _ _ _ _ (by assumption)).mono ?_; rintro e w1 ⟨rfl, rfl⟩) | (go_at_call 70; refine (l6in_f _ _ _ _ (by assumption)).mono ?_; rintro e w1 ⟨rfl, rfl⟩))
      exact bodyPost_ret (v := .tuple #[frv ⟨0, 0, 0⟩, frv ⟨0, 0, 0⟩, .bool false]) (by simp [results, Tryz.results143, go_sem, *]) rfl ⟨rfl, by exact below_⟩
    · have h3 : p = 0 ∧ q = 0 := by simpa [dirOk, h1, h2] using h
      obtain ⟨rfl, rfl⟩ := h3
      clear h
      go_enter Tryz.func143, Tryz.ntmps143
      go_wp2_with (first | (go_at_call 70; refine (l6in_t _ _ _ _ (by assumption)).mono ?_; rintro e w1 ⟨rfl, rfl⟩) | (go_at_call 70; refine (l6in_f _ _ _ _ (by assumption)).mono ?_; rintro e w1 ⟨rfl, rfl⟩))
      exact bodyPost_ret (v := .tuple #[frv ⟨0, 0, 0⟩, frv ⟨0, 0, 0⟩, .bool false]) (by simp [results, Tryz.results143, go_sem, *]) rfl ⟨rfl, by exact below_⟩
end
section
open Go.RowKit
attribute [local go_sem ↓] Go.wp_at_zero Go.wp_at_succ
/-- The rotator of a direction. -/
def rotM (p q : Int) : Mt := ⟨dirC p q, ⟨-(dirS p q).re, -(dirS p q).im, (dirS p q).den⟩, dirS p q, dirC p q⟩
def rotI (p q : Int) : Option Mt := if dirOk p q then some (rotM p q) else none
theorem dirS_im (p q : Int) : (dirS p q).im = 0 := by
  unfold dirS lowI
  simp only []
  split
  · simp
  · rfl
theorem dirS_bd (p q : Int) : -2000000000 ≤ (dirS p q).re ∧ (dirS p q).re ≤ 2000000000 := by
  unfold dirS lowI
  simp only []
  split
  · rename_i h
    simp only [Bool.and_eq_true, inB_iff] at h
    exact h.1.1
  · exact ⟨by decide, by decide⟩
set_option maxHeartbeats 1000000 in
theorem opposite_any (a : Fr) (w : World) (h1 : -2000000000 ≤ a.re) (h2 : a.re ≤ 2000000000) (h3 : -2000000000 ≤ a.im) (h4 : a.im ≤ 2000000000) :
    Calls Tryz.prog 137 #[frv a] w fun e w' => e = .returned (frv ⟨-a.re, -a.im, a.den⟩) ∧ Below w.heap.size w w' := by
  go_enter Tryz.func137, Tryz.ntmps137
  go_wp2
  exact bodyPost_ret (v := frv ⟨-a.re, -a.im, a.den⟩) (by simp [results, Tryz.results137, go_sem, *]) rfl ⟨rfl, by exact below_⟩
set_option maxRecDepth 100000 in
set_option maxHeartbeats 1000000 in
theorem rot_any (p q : Int) (w : World) :
    Calls Tryz.prog 109 #[.int .i64 p, .int .i64 q] w fun e w' => e = .returned (mtb (rotI p q)) ∧ Below w.heap.size w w' := by
  obtain ⟨b1, b2⟩ := dirS_bd p q
  have b4 : -2000000000 ≤ (dirS p q).im := by rw [dirS_im]; decide
  have b5 : (dirS p q).im ≤ 2000000000 := by rw [dirS_im]; decide
  cases h : dirOk p q
  · rw [show rotI p q = none by simp [rotI, h]]
    go_enter Tryz.func109, Tryz.ntmps109
    go_wp2_with (first | (go_at_call 136; (with_reducible refine (direction_f p q _ h).mono ?_); rintro e w1 ⟨rfl, hb⟩; obtain ⟨hc, hf⟩ := bf hb (w.heap.size + 1) side_; have hs := hb.size; (try simp only [World.size_alloc, World.size_setCell, World.size_drew, World.heap_drewN] at hs); have hl : w.heap.size ≤ w1.heap.size ∧ w.heap.size < w1.heap.size := ⟨by omega, by omega⟩; have hB : Below w.heap.size w w1 := bstep (by exact below_) hb side_; clear hs hb))
    exact bodyPost_ret (v := mtb none) (by simp [results, Tryz.results109, go_sem, *]) rfl ⟨rfl, by exact below_⟩
  · rw [show rotI p q = some (rotM p q) by simp [rotI, h]]
    go_enter Tryz.func109, Tryz.ntmps109
    go_wp2_with (first | (go_at_call 136; (with_reducible refine (direction_t p q _ h).mono ?_); rintro e w1 ⟨rfl, hb⟩; obtain ⟨hc, hf⟩ := bf hb (w.heap.size + 1) side_; have hs := hb.size; (try simp only [World.size_alloc, World.size_setCell, World.size_drew, World.heap_drewN] at hs); have hl : w.heap.size ≤ w1.heap.size ∧ w.heap.size < w1.heap.size := ⟨by omega, by omega⟩; have hB : Below w.heap.size w w1 := bstep (by exact below_) hb side_; clear hs hb))
    go_region_held3 (fun w' => w'.cell? ⟨w1.heap.size, 0, none⟩ = some (.int .i64 ((dirC p q).re)) ∧ w'.cell? ⟨w1.heap.size, 1, none⟩ = some (.int .i64 ((dirC p q).im)) ∧ w'.cell? ⟨w1.heap.size, 2, none⟩ = some (.int .i64 ((dirC p q).den)) ∧ w'.cell? ⟨w1.heap.size + 1, 0, none⟩ = some (.int .i64 ((dirS p q).re)) ∧ w'.cell? ⟨w1.heap.size + 1, 1, none⟩ = some (.int .i64 ((dirS p q).im)) ∧ w'.cell? ⟨w1.heap.size + 1, 2, none⟩ = some (.int .i64 ((dirS p q).den))) ((first | go_keep | (simp [go_sem, *]; done))) (first | (go_at_call 137; (with_reducible refine (opposite_any (dirS p q) _ b1 b2 b4 b5).mono ?_); rintro e w1 ⟨rfl, hb⟩; obtain ⟨hc, hf⟩ := bf hb (w.heap.size + 1) side_; have hs := hb.size; (try simp only [World.size_alloc, World.size_setCell, World.size_drew, World.heap_drewN] at hs); have hl : w.heap.size ≤ w1.heap.size ∧ w.heap.size < w1.heap.size := ⟨by omega, by omega⟩; obtain ⟨B, hBe, hBl, hc2, hf2⟩ := bfA hb; (try simp only [World.size_alloc, World.size_setCell, World.size_drew, World.heap_drewN] at hBe); have hB : Below w.heap.size w w1 := bstep (by exact below_) hb side_; clear hs hb))
    (try go_wp2)
    exact bodyPost_ret (v := mtb (some (rotM p q))) (by simp [results, Tryz.results109, go_sem, rotM, *]) rfl ⟨rfl, by exact below_⟩
set_option maxRecDepth 100000 in
set_option maxHeartbeats 1000000 in
theorem srot_any (p q : Int) (w : World) :
    Calls Tryz.prog 127 #[.int .i64 p, .int .i64 q] w fun e w' => e = .returned (mtb (rotI p q)) ∧ Below w.heap.size w w' := by
  obtain ⟨b1, b2⟩ := dirS_bd p q
  have b3 := Lib.hid (dirS_im p q)
  cases h : dirOk p q
  · rw [show rotI p q = none by simp [rotI, h]]
    go_enter Tryz.func127, Tryz.ntmps127
    go_wp2_with (first | (go_at_call 143; (with_reducible refine (sdirection_f p q _ h).mono ?_); rintro e w1 ⟨rfl, hb⟩; obtain ⟨hc, hf⟩ := bf hb (w.heap.size + 1) side_; have hs := hb.size; (try simp only [World.size_alloc, World.size_setCell, World.size_drew, World.heap_drewN] at hs); have hl : w.heap.size ≤ w1.heap.size ∧ w.heap.size < w1.heap.size := ⟨by omega, by omega⟩; have hB : Below w.heap.size w w1 := bstep (by exact below_) hb side_; clear hs hb) | (go_at_call 144; (with_reducible refine (four_f ⟨_, _, _⟩ ⟨_, _, _⟩ ⟨_, _, _⟩ ⟨_, _, _⟩ _).mono ?_); rintro e w1 ⟨rfl, hb⟩; obtain ⟨hc, hf⟩ := bf hb (w.heap.size + 1) side_; have hs := hb.size; (try simp only [World.size_alloc, World.size_setCell, World.size_drew, World.heap_drewN] at hs); have hl : w.heap.size ≤ w1.heap.size ∧ w.heap.size < w1.heap.size := ⟨by omega, by omega⟩; obtain ⟨B, hBe, hBl, hc2, hf2⟩ := bfA hb; (try simp only [World.size_alloc, World.size_setCell, World.size_drew, World.heap_drewN] at hBe); have hB : Below w.heap.size w w1 := bstep (by exact below_) hb side_; clear hs hb))
    exact bodyPost_ret (v := mtb none) (by simp [results, Tryz.results127, go_sem, *]) rfl ⟨rfl, by exact below_⟩
  · rw [show rotI p q = some (rotM p q) by simp [rotI, h]]
    go_enter Tryz.func127, Tryz.ntmps127
    go_wp2_with (first | (go_at_call 143; (with_reducible refine (sdirection_t p q _ h).mono ?_); rintro e w1 ⟨rfl, hb⟩; obtain ⟨hc, hf⟩ := bf hb (w.heap.size + 1) side_; have hs := hb.size; (try simp only [World.size_alloc, World.size_setCell, World.size_drew, World.heap_drewN] at hs); have hl : w.heap.size ≤ w1.heap.size ∧ w.heap.size < w1.heap.size := ⟨by omega, by omega⟩; have hB : Below w.heap.size w w1 := bstep (by exact below_) hb side_; clear hs hb) | (go_at_call 144; (with_reducible refine (four_t ⟨_, _, _⟩ ⟨_, _, _⟩ ⟨_, _, _⟩ ⟨_, _, _⟩ _).mono ?_); rintro e w1 ⟨rfl, hb⟩; obtain ⟨hc, hf⟩ := bf hb (w.heap.size + 1) side_; have hs := hb.size; (try simp only [World.size_alloc, World.size_setCell, World.size_drew, World.heap_drewN] at hs); have hl : w.heap.size ≤ w1.heap.size ∧ w.heap.size < w1.heap.size := ⟨by omega, by omega⟩; obtain ⟨B, hBe, hBl, hc2, hf2⟩ := bfA hb; (try simp only [World.size_alloc, World.size_setCell, World.size_drew, World.heap_drewN] at hBe); have hB : Below w.heap.size w w1 := bstep (by exact below_) hb side_; clear hs hb))
    have b3 := b3.out
    exact bodyPost_ret (v := mtb (some (rotM p q))) (by simp [results, Tryz.results127, go_sem, rotM, *]) rfl ⟨rfl, by exact below_⟩
end
section
open Go.RowKit
attribute [local go_sem ↓] Go.wp_at_zero Go.wp_at_succ
theorem MtAt.same {w w' : World} {b : Nat} {m : Mt} (h : MtAt w b m) (hc : ∀ o, w'.cell? ⟨b, o, none⟩ = w.cell? ⟨b, o, none⟩) : MtAt w' b m := by
  unfold MtAt at h ⊢
  simp only [hc]
  exact h
theorem MtAt.lt {w : World} {b : Nat} {m : Mt} (h : MtAt w b m) : b < w.heap.size := by
  have := World.block_lt_of_cell? w _ h.1
  exact this
theorem MtAt.below {w w' : World} {b B : Nat} {m : Mt} (h : MtAt w b m) (hb : Below B w w') (hlt : b < B) : MtAt w' b m := h.same fun o => hb.cell (p := ⟨b, o, none⟩) hlt
theorem MtAt.alloc {w : World} {b : Nat} {m : Mt} (h : MtAt w b m) (o : Obj) : MtAt (w.alloc o) b m := h.below ((Below.refl _ _).alloc (Nat.le_refl _) o) h.lt
theorem MtAt.new (w : World) (m : Mt) (t : TypeId) : MtAt (w.alloc (.cells #[.int .i64 m.a.re, .int .i64 m.a.im, .int .i64 m.a.den, .int .i64 m.b.re, .int .i64 m.b.im, .int .i64 m.b.den, .int .i64 m.c.re, .int .i64 m.c.im, .int .i64 m.c.den, .int .i64 m.d.re, .int .i64 m.d.im, .int .i64 m.d.den] t)) w.heap.size m :=
  ⟨World.cell?_alloc_at _ _ _ _ rfl, World.cell?_alloc_at _ _ _ _ rfl, World.cell?_alloc_at _ _ _ _ rfl, World.cell?_alloc_at _ _ _ _ rfl, World.cell?_alloc_at _ _ _ _ rfl, World.cell?_alloc_at _ _ _ _ rfl, World.cell?_alloc_at _ _ _ _ rfl, World.cell?_alloc_at _ _ _ _ rfl, World.cell?_alloc_at _ _ _ _ rfl, World.cell?_alloc_at _ _ _ _ rfl, World.cell?_alloc_at _ _ _ _ rfl, World.cell?_alloc_at _ _ _ _ rfl⟩
theorem MtAt.drew {w : World} {b : Nat} {m : Mt} (h : MtAt w b m) : MtAt w.drew b m := h
theorem MtAt.drewN {w : World} {b : Nat} {m : Mt} (h : MtAt w b m) (n : Nat) : MtAt (w.drewN n) b m := h
theorem MtAt.far {w : World} {b : Nat} {m : Mt} (h : MtAt w b m) {p : Addr} (hp : b < p.block) (u : Value) : MtAt (w.setCell p u) b m := h.below ((Below.refl p.block w).setCell (Nat.le_refl _) u) hp
def adjR (p q : Int) : Mt := (madjI (rotM p q)).getD ⟨⟨0, 0, 0⟩, ⟨0, 0, 0⟩, ⟨0, 0, 0⟩, ⟨0, 0, 0⟩⟩
/-- The plate of a direction and a phase. -/
def plateI (p q k : Int) : Option Mt := if dirOk p q && inB k 0 3 then (mtimesI (rotM p q) (diagM (phF 0) (phF k))).bind fun a => mtimesI a (adjR p q) else none
theorem srot_t (p q : Int) (w : World) (h : dirOk p q = true) : Calls Tryz.prog 127 #[.int .i64 p, .int .i64 q] w fun e w' => e = .returned (mtb (some (rotM p q))) ∧ Below w.heap.size w w' := by
  have := srot_any p q w
  rwa [show rotI p q = some (rotM p q) by simp [rotI, h]] at this
theorem srot_f (p q : Int) (w : World) (h : dirOk p q = false) : Calls Tryz.prog 127 #[.int .i64 p, .int .i64 q] w fun e w' => e = .returned (mtb none) ∧ Below w.heap.size w w' := by
  have := srot_any p q w
  rwa [show rotI p q = none by simp [rotI, h]] at this
theorem rot_t (p q : Int) (w : World) (h : dirOk p q = true) : Calls Tryz.prog 109 #[.int .i64 p, .int .i64 q] w fun e w' => e = .returned (mtb (some (rotM p q))) ∧ Below w.heap.size w w' := by
  have := rot_any p q w
  rwa [show rotI p q = some (rotM p q) by simp [rotI, h]] at this
theorem rot_f (p q : Int) (w : World) (h : dirOk p q = false) : Calls Tryz.prog 109 #[.int .i64 p, .int .i64 q] w fun e w' => e = .returned (mtb none) ∧ Below w.heap.size w w' := by
  have := rot_any p q w
  rwa [show rotI p q = none by simp [rotI, h]] at this
theorem smtimes_o (m n : Mt) (o : Option Mt) (w : World) (h : mtimesI m n = o) : Calls Tryz.prog 146 #[mtv m, mtv n] w fun e w' => e = .returned (mtb o) ∧ Below w.heap.size w w' := by
  rw [← h]; exact smtimes_any m n w
theorem smadj_r (p q : Int) (w : World) : Calls Tryz.prog 145 #[mtv (rotM p q)] w fun e w' => e = .returned (.tuple #[mtv (adjR p q), .bool (madjI (rotM p q)).isSome]) ∧ Below w.heap.size w w' := smadj_any (rotM p q) w
theorem madj_r (p q : Int) (w : World) : Calls Tryz.prog 139 #[mtv (rotM p q)] w fun e w' => e = .returned (.tuple #[mtv (adjR p q), .bool (madjI (rotM p q)).isSome]) ∧ Below w.heap.size w w' := madj_any (rotM p q) w
end
section
open Go.RowKit
theorem rep_c {p q : Int} (h : dirOk p q = true) : Rep (dirC p q) (p * p - q * q) 0 (p * p + q * q) ∧ Rep (dirS p q) (2 * p * q) 0 (p * p + q * q) := by
  have b := dir_bd p q h
  obtain ⟨f, ef, hf⟩ := lowI_small (p * p - q * q) 0 (p * p + q * q) (by omega) (by omega) (by omega) (by omega)
  obtain ⟨g, eg, hg⟩ := lowI_small (2 * p * q) 0 (p * p + q * q) (by omega) (by omega) (by omega) (by omega)
  exact ⟨by simpa [dirC, ef] using hf, by simpa [dirS, eg] using hg⟩
/-- The two parts of a power of i. -/
def phR (k : Int) : Int := if k = 0 then 1 else if k = 2 then -1 else 0
def phJ (k : Int) : Int := if k = 1 then 1 else if k = 3 then -1 else 0
theorem rep_ph {k : Int} (h : inB k 0 3 = true) : Rep (phF k) (phR k) (phJ k) 1 ∧ (few (phR k) ∧ few (phJ k)) := by
  rw [inB_iff] at h
  rcases (show k = 0 ∨ k = 1 ∨ k = 2 ∨ k = 3 by omega) with rfl | rfl | rfl | rfl
  all_goals exact ⟨⟨by decide, by decide, by decide, by decide⟩, ⟨by decide, by decide⟩, ⟨by decide, by decide⟩⟩
theorem rep_zero : Rep ⟨0, 0, 1⟩ 0 0 1 := ⟨by decide, by decide, by decide, by decide⟩
theorem few_of {x : Int} (h1 : -20000 ≤ x) (h2 : x ≤ 20000) : few x := ⟨h1, h2⟩
theorem few_neg {x : Int} (h : few x) : few (-x) := by unfold few at *; omega
theorem few_zero : few 0 := by unfold few; omega
/-- A matrix whose parts stand for numbers over one bottom. -/
structure RepM (m : Mt) (x : Fin 4 → Int) (y : Fin 4 → Int) (d : Int) : Prop where
  a : Rep m.a (x 0) (y 0) d
  b : Rep m.b (x 1) (y 1) d
  c : Rep m.c (x 2) (y 2) d
  d : Rep m.d (x 3) (y 3) d
theorem RepM.valid {m : Mt} {x y : Fin 4 → Int} {d : Int} (h : RepM m x y d) : mvalid m = true := by simp [mvalid, h.a.ok, h.b.ok, h.c.ok, h.d.ok]
theorem repM_times {m n : Mt} {x y u v : Fin 4 → Int} {d e : Int} (hm : RepM m x y d) (hn : RepM n u v e) (fx : ∀ i, few (x i)) (fy : ∀ i, few (y i)) (fu : ∀ i, few (u i)) (fv : ∀ i, few (v i)) (fd : few d) (fe : few e) :
    ∃ r, mtimesI m n = some r ∧
      Rep r.a ((x 0 * u 0 - y 0 * v 0) + (x 1 * u 2 - y 1 * v 2)) ((x 0 * v 0 + y 0 * u 0) + (x 1 * v 2 + y 1 * u 2)) (d * e) ∧
      Rep r.b ((x 0 * u 1 - y 0 * v 1) + (x 1 * u 3 - y 1 * v 3)) ((x 0 * v 1 + y 0 * u 1) + (x 1 * v 3 + y 1 * u 3)) (d * e) ∧
      Rep r.c ((x 2 * u 0 - y 2 * v 0) + (x 3 * u 2 - y 3 * v 2)) ((x 2 * v 0 + y 2 * u 0) + (x 3 * v 2 + y 3 * u 2)) (d * e) ∧
      Rep r.d ((x 2 * u 1 - y 2 * v 1) + (x 3 * u 3 - y 3 * v 3)) ((x 2 * v 1 + y 2 * u 1) + (x 3 * v 3 + y 3 * u 3)) (d * e) := by
  obtain ⟨a, ea, ha⟩ := rep_inner hm.a hn.a hm.b hn.c (fx 0) (fy 0) (fu 0) (fv 0) (fx 1) (fy 1) (fu 2) (fv 2) fd fe
  obtain ⟨b, eb, hb⟩ := rep_inner hm.a hn.b hm.b hn.d (fx 0) (fy 0) (fu 1) (fv 1) (fx 1) (fy 1) (fu 3) (fv 3) fd fe
  obtain ⟨c, ec, hc⟩ := rep_inner hm.c hn.a hm.d hn.c (fx 2) (fy 2) (fu 0) (fv 0) (fx 3) (fy 3) (fu 2) (fv 2) fd fe
  obtain ⟨z, ez, hz⟩ := rep_inner hm.c hn.b hm.d hn.d (fx 2) (fy 2) (fu 1) (fv 1) (fx 3) (fy 3) (fu 3) (fv 3) fd fe
  exact ⟨⟨a, b, c, z⟩, by simp [mtimesI, hm.valid, hn.valid, m4, ea, eb, ec, ez], ha, hb, hc, hz⟩
/-- Four numbers in a row. -/
def f4 (a b c d : Int) : Fin 4 → Int := fun i => if i = 0 then a else if i = 1 then b else if i = 2 then c else d
theorem f4_few {a b c d : Int} (ha : few a) (hb : few b) (hc : few c) (hd : few d) : ∀ i, few (f4 a b c d i) := by
  intro i
  unfold f4
  split
  · exact ha
  · split
    · exact hb
    · split
      · exact hc
      · exact hd
theorem repM_rot {p q : Int} (h : dirOk p q = true) : RepM (rotM p q) (f4 (p * p - q * q) (-(2 * p * q)) (2 * p * q) (p * p - q * q)) (f4 0 (-0) 0 0) (p * p + q * q) :=
  ⟨(rep_c h).1, rep_neg (rep_c h).2, (rep_c h).2, (rep_c h).1⟩
theorem adj_eq {p q : Int} (h : dirOk p q = true) : adjR p q = ⟨⟨(dirC p q).re, -(dirC p q).im, (dirC p q).den⟩, ⟨(dirS p q).re, -(dirS p q).im, (dirS p q).den⟩, ⟨-(dirS p q).re, - -(dirS p q).im, (dirS p q).den⟩, ⟨(dirC p q).re, -(dirC p q).im, (dirC p q).den⟩⟩ := by
  have h1 := (rep_mirror (rep_c h).1).1
  have h2 := (rep_mirror (rep_c h).2).1
  have h3 := (rep_mirror (rep_neg (rep_c h).2)).1
  simp [adjR, madjI, rotM, m4, h1, h2, h3]
theorem repM_adj {p q : Int} (h : dirOk p q = true) : RepM (adjR p q) (f4 (p * p - q * q) (2 * p * q) (-(2 * p * q)) (p * p - q * q)) (f4 (-0) (-0) (- -0) (-0)) (p * p + q * q) := by
  rw [adj_eq h]
  exact ⟨(rep_mirror (rep_c h).1).2, (rep_mirror (rep_c h).2).2, (rep_mirror (rep_neg (rep_c h).2)).2, (rep_mirror (rep_c h).1).2⟩
theorem repM_diag {k : Int} (h : inB k 0 3 = true) : RepM (diagM (phF 0) (phF k)) (f4 (phR 0) 0 0 (phR k)) (f4 (phJ 0) 0 0 (phJ k)) 1 :=
  ⟨(rep_ph (k := 0) (by decide)).1, rep_zero, rep_zero, (rep_ph h).1⟩
theorem ph0 : phR 0 = 1 ∧ phJ 0 = 0 := ⟨by decide, by decide⟩
theorem repM_rd {p q k : Int} (h : dirOk p q = true) (hk : inB k 0 3 = true) : ∃ a, mtimesI (rotM p q) (diagM (phF 0) (phF k)) = some a ∧
    RepM a (f4 (p * p - q * q) (-(2 * p * q) * phR k) (2 * p * q) ((p * p - q * q) * phR k)) (f4 0 (-(2 * p * q) * phJ k) 0 ((p * p - q * q) * phJ k)) (p * p + q * q) := by
  have b := dir_bd p q h
  have fc := few_of b.2.1.1 b.2.1.2
  have fs := few_of b.2.2.1.1 b.2.2.1.2
  have fn := few_of (show -20000 ≤ p * p + q * q by omega) b.1.2
  have fp := (rep_ph hk).2
  have f0 := few_zero
  have f1 : few (phR 0) := by rw [ph0.1]; unfold few; omega
  have f2 : few (phJ 0) := by rw [ph0.2]; exact f0
  obtain ⟨r, er, ha, hb, hc, hd⟩ := repM_times (repM_rot h) (repM_diag hk) (f4_few fc (few_neg fs) fs fc) (f4_few f0 (few_neg f0) f0 f0) (f4_few f1 f0 f0 fp.1) (f4_few f2 f0 f0 fp.2) fn (by unfold few; omega)
  refine ⟨r, er, ?_, ?_, ?_, ?_⟩
  · simpa [f4, ph0.1, ph0.2] using ha
  · simpa [f4, ph0.1, ph0.2] using hb
  · simpa [f4, ph0.1, ph0.2] using hc
  · simpa [f4, ph0.1, ph0.2] using hd
theorem few_ph {x k : Int} (hk : inB k 0 3 = true) (h : few x) : few (x * phR k) ∧ few (x * phJ k) := by
  rw [inB_iff] at hk
  unfold few at *
  rcases (show k = 0 ∨ k = 1 ∨ k = 2 ∨ k = 3 by omega) with rfl | rfl | rfl | rfl <;> simp [phR, phJ] <;> omega
theorem plate_some {p q k : Int} (h : dirOk p q = true) (hk : inB k 0 3 = true) : ∃ a b, mtimesI (rotM p q) (diagM (phF 0) (phF k)) = some a ∧ mtimesI a (adjR p q) = some b := by
  have b := dir_bd p q h
  have fc := few_of b.2.1.1 b.2.1.2
  have fs := few_of b.2.2.1.1 b.2.2.1.2
  have fn := few_of (show -20000 ≤ p * p + q * q by omega) b.1.2
  have f0 := few_zero
  obtain ⟨a, ea, ha⟩ := repM_rd h hk
  obtain ⟨r, er, _⟩ := repM_times ha (repM_adj h) (f4_few fc (few_ph hk (few_neg fs)).1 fs (few_ph hk fc).1) (f4_few f0 (few_ph hk (few_neg fs)).2 f0 (few_ph hk fc).2) (f4_few fc fs (few_neg fs) fc) (f4_few (few_neg f0) (few_neg f0) (few_neg (few_neg f0)) (few_neg f0)) fn fn
  exact ⟨a, r, ea, er⟩
end
end Go.Proofs.YtjbnkefeacineaaGreatDoor
