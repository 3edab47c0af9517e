/-
  Texts of this claim, joined: Rt; Ru. Nothing is claimed here; the other texts of this claim use it.
-/
import Derived.Test.YtodhbkinbcemnaaGreatDoorPa
import Derived.Deep.RegionHeld3
import Derived.Deep.DrawnRows
namespace Go.Proofs.YtodhbkinbcemnaaGreatDoor
set_option linter.unusedSimpArgs false
set_option linter.unusedVariables false
section
open Go.RowKit
attribute [local go_sem ↓] Go.wp_at_zero Go.wp_at_succ
theorem turn_eq (b : Fr) (hb : fvalid b = true) (hz : isZero b = false) :
    lowI (b.re * (b.den / gcdI (b.re * b.re + b.im * b.im) b.den)) (-(b.im * (b.den / gcdI (b.re * b.re + b.im * b.im) b.den))) ((b.re * b.re + b.im * b.im) / gcdI (b.re * b.re + b.im * b.im) b.den) = turnI b := by
  have hn := norm_pos b hz
  obtain ⟨_, _, ⟨h5, h6⟩⟩ := fvalid_bd b hb
  unfold turnI
  generalize hN : b.re * b.re + b.im * b.im = n at *
  have hg : 1 ≤ gcdI n b.den := gcdI_pos n b.den h5
  have d1 : gcdI n b.den ∣ n := by unfold gcdI; exact Int.ofNat_dvd_left.2 (Nat.gcd_dvd_left _ _)
  have d2 : gcdI n b.den ∣ b.den := by unfold gcdI; exact Int.ofNat_dvd_left.2 (Nat.gcd_dvd_right _ _)
  obtain ⟨x, hx⟩ := d1
  obtain ⟨y, hy⟩ := d2
  generalize gcdI n b.den = g at *
  have ex : n / g = x := by rw [hx, Int.mul_ediv_cancel_left _ (by omega)]
  have ey : b.den / g = y := by rw [hy, Int.mul_ediv_cancel_left _ (by omega)]
  rw [ex, ey]
  have hx1 : 1 ≤ x := by
    rcases Int.lt_or_le 0 x with h | h
    · omega
    · have := Int.mul_le_mul_of_nonneg_left h (show 0 ≤ g by omega); omega
  have := lowI_scale g (b.re * y) (-(b.im * y)) x hg hx1
  rw [← this, ← hx, hy]
  congr 1
  · rw [Int.mul_comm (g * y), ← Int.mul_assoc, ← Int.mul_assoc, Int.mul_comm g b.re]
  · rw [Int.mul_neg, Int.neg_mul, ← Int.mul_assoc, Int.mul_comm g, Int.mul_assoc, Int.mul_comm b.im]
theorem turn_small (d x : Int) (h0 : 1 ≤ x) (h1 : x ≤ 2000000000) (h2 : d ≤ 2000000000) : d ≤ 4000000000000000000 / x := by
  refine Int.le_ediv_of_mul_le (by omega) ?_
  rcases Int.lt_or_le d 0 with h | h
  · have := Int.mul_le_mul_of_nonneg_right (show d ≤ 0 by omega) (show 0 ≤ x by omega); omega
  · have := Int.mul_le_mul h2 h1 (by omega) (by omega); omega
set_option maxRecDepth 100000 in
set_option maxHeartbeats 2000000 in
theorem sturn_any (b : Fr) (w : World) (hb : fvalid b = true) (hz : isZero b = false) :
    Calls Tryz.prog 117 #[frv b] w fun e w' => e = .returned (frb (turnI b)) ∧ Below w.heap.size w w' := by
  have E := turn_eq b hb hz
  rw [← E]
  clear E
  obtain ⟨⟨b1, b2⟩, ⟨b3, b4⟩, ⟨b5, b6⟩⟩ := fvalid_bd b hb
  have hn := norm_pos b hz
  obtain ⟨m1, m2⟩ := mulbd b.re b.re b1 b2 b1 b2
  obtain ⟨m3, m4⟩ := mulbd b.im b.im b3 b4 b3 b4
  obtain ⟨x, y, z⟩ := b
  dsimp only at *
  clear hb hz
  have g1 : 1 ≤ gcdI (x * x + y * y) z := gcdI_pos _ _ b5
  have g2 : gcdI (x * x + y * y) z ≤ 8000000000000000000 := gcdI_le _ _ 8000000000000000000 (by omega) (by omega) (by omega) (by omega)
  have dz : gcdI (x * x + y * y) z ∣ z := by unfold gcdI; exact Int.ofNat_dvd_left.2 (Nat.gcd_dvd_right _ _)
  have dn : gcdI (x * x + y * y) z ∣ x * x + y * y := by unfold gcdI; exact Int.ofNat_dvd_left.2 (Nat.gcd_dvd_left _ _)
  have k1 : 1 ≤ z / gcdI (x * x + y * y) z := Int.le_ediv_of_mul_le (by omega) (by have := Int.le_of_dvd (by omega) dz; omega)
  have k2 : z / gcdI (x * x + y * y) z ≤ 2000000000 := Int.le_trans (Int.ediv_le_self _ (by omega)) b6
  have k3 : 1 ≤ (x * x + y * y) / gcdI (x * x + y * y) z := Int.le_ediv_of_mul_le (by omega) (by have := Int.le_of_dvd (by omega) dn; omega)
  have k4 : (x * x + y * y) / gcdI (x * x + y * y) z ≤ 8000000000000000000 := Int.le_trans (Int.ediv_le_self _ (by omega)) (by omega)
  obtain ⟨m5, m6⟩ := mulbd x (z / gcdI (x * x + y * y) z) b1 b2 (by omega) k2
  obtain ⟨m7, m8⟩ := mulbd y (z / gcdI (x * x + y * y) z) b3 b4 (by omega) k2
  have hne : (x * x + y * y == 0) = false := by simp; omega
  clear dz dn
  have q1 : (gcdI (x * x + y * y) z == 0) = false := by simp; omega
  have q2 : ¬ gcdI (x * x + y * y) z = 0 := by omega
  have R : ∀ v : Int, ((v != 0) = false) ∨ (1 ≤ v) ∨ (v ≤ -1) := by intro v; simp; omega
  rcases R x with hx | hx | hx
  · rcases R y with hy | hy | hy
    · have ex : x = 0 := by simpa using hx
      have ey : y = 0 := by simpa using hy
      rw [ex, ey] at hne
      simp at hne
    · have t2 := turn_small (z / gcdI (x * x + y * y) z) y hy b4 k2
      clear R
      go_enter Tryz.func117, Tryz.ntmps117
      go_wp2_with (first | (go_at_call 101; refine (sgcd_any _ _ _ (by omega) (by omega) (by omega) (by omega)).mono ?_; rintro e w1 ⟨rfl, rfl⟩))
      have q3 : IntKind.i64.wrap ((x * x + y * y).tdiv (gcdI (x * x + y * y) z)) = (x * x + y * y) / gcdI (x * x + y * y) z := IntWalk.i64_quo _ _ ⟨by omega, by omega, g1⟩
      have q4 : IntKind.i64.wrap (x * (z / gcdI (x * x + y * y) z)) = x * (z / gcdI (x * x + y * y) z) := IntWalk.i64_in _ (by omega)
      have q5 : IntKind.i64.wrap (y * (z / gcdI (x * x + y * y) z)) = y * (z / gcdI (x * x + y * y) z) := IntWalk.i64_in _ (by omega)
      have q6 : IntKind.i64.wrap (-(y * (z / gcdI (x * x + y * y) z))) = -(y * (z / gcdI (x * x + y * y) z)) := IntWalk.i64_in _ (by omega)
      go_region_held3 (fun w' => w'.cell? ⟨w.heap.size, 0, none⟩ = some (.int .i64 x) ∧ w'.cell? ⟨w.heap.size, 1, none⟩ = some (.int .i64 y)) ((first | go_keep | (simp [go_sem, *]; done))) (first | (go_at_call 90; (with_reducible refine (slow_any _ _ _ _ (by omega) (by omega) (by omega) (by omega) (by omega) (by omega)).mono ?_); rintro e w1 ⟨rfl, hb⟩; obtain ⟨hc, hf⟩ := bf hb (w.heap.size + 1 + 1) side_; have hs := hb.size; (try simp only [World.size_alloc, World.size_setCell, World.size_drew, World.heap_drewN] at hs); have hl : w.heap.size ≤ w1.heap.size ∧ w.heap.size < w1.heap.size ∧ w.heap.size + 1 < w1.heap.size := ⟨by omega, by omega, by omega⟩; have hB : Below w.heap.size w w1 := bstep (by exact below_) hb side_; clear hs hb))
      clear q3 q4 q5 q6
      go_wp2
      exact bodyPost_ret (v := frb (lowI (x * (z / gcdI (x * x + y * y) z)) (-(y * (z / gcdI (x * x + y * y) z))) ((x * x + y * y) / gcdI (x * x + y * y) z))) (by simp [results, Tryz.results117, go_sem, *]) rfl ⟨rfl, by exact below_⟩
    · have t2 := turn_small (z / gcdI (x * x + y * y) z) (-y) (by omega) (by omega) k2
      have t2' := t2
      rw [Int.ediv_neg] at t2'
      clear R
      go_enter Tryz.func117, Tryz.ntmps117
      go_wp2_with (first | (go_at_call 101; refine (sgcd_any _ _ _ (by omega) (by omega) (by omega) (by omega)).mono ?_; rintro e w1 ⟨rfl, rfl⟩))
      have q3 : IntKind.i64.wrap ((x * x + y * y).tdiv (gcdI (x * x + y * y) z)) = (x * x + y * y) / gcdI (x * x + y * y) z := IntWalk.i64_quo _ _ ⟨by omega, by omega, g1⟩
      have q4 : IntKind.i64.wrap (x * (z / gcdI (x * x + y * y) z)) = x * (z / gcdI (x * x + y * y) z) := IntWalk.i64_in _ (by omega)
      have q5 : IntKind.i64.wrap (y * (z / gcdI (x * x + y * y) z)) = y * (z / gcdI (x * x + y * y) z) := IntWalk.i64_in _ (by omega)
      have q6 : IntKind.i64.wrap (-(y * (z / gcdI (x * x + y * y) z))) = -(y * (z / gcdI (x * x + y * y) z)) := IntWalk.i64_in _ (by omega)
      go_region_held3 (fun w' => w'.cell? ⟨w.heap.size, 0, none⟩ = some (.int .i64 x) ∧ w'.cell? ⟨w.heap.size, 1, none⟩ = some (.int .i64 y)) ((first | go_keep | (simp [go_sem, *]; done))) (first | (go_at_call 90; (with_reducible refine (slow_any _ _ _ _ (by omega) (by omega) (by omega) (by omega) (by omega) (by omega)).mono ?_); rintro e w1 ⟨rfl, hb⟩; obtain ⟨hc, hf⟩ := bf hb (w.heap.size + 1 + 1) side_; have hs := hb.size; (try simp only [World.size_alloc, World.size_setCell, World.size_drew, World.heap_drewN] at hs); have hl : w.heap.size ≤ w1.heap.size ∧ w.heap.size < w1.heap.size ∧ w.heap.size + 1 < w1.heap.size := ⟨by omega, by omega, by omega⟩; have hB : Below w.heap.size w w1 := bstep (by exact below_) hb side_; clear hs hb))
      clear q3 q4 q5 q6
      go_wp2
      exact bodyPost_ret (v := frb (lowI (x * (z / gcdI (x * x + y * y) z)) (-(y * (z / gcdI (x * x + y * y) z))) ((x * x + y * y) / gcdI (x * x + y * y) z))) (by simp [results, Tryz.results117, go_sem, *]) rfl ⟨rfl, by exact below_⟩
  · have t1 := turn_small (z / gcdI (x * x + y * y) z) x hx b2 k2
    rcases R y with hy | hy | hy
    · clear R
      go_enter Tryz.func117, Tryz.ntmps117
      go_wp2_with (first | (go_at_call 101; refine (sgcd_any _ _ _ (by omega) (by omega) (by omega) (by omega)).mono ?_; rintro e w1 ⟨rfl, rfl⟩))
      have q3 : IntKind.i64.wrap ((x * x + y * y).tdiv (gcdI (x * x + y * y) z)) = (x * x + y * y) / gcdI (x * x + y * y) z := IntWalk.i64_quo _ _ ⟨by omega, by omega, g1⟩
      have q4 : IntKind.i64.wrap (x * (z / gcdI (x * x + y * y) z)) = x * (z / gcdI (x * x + y * y) z) := IntWalk.i64_in _ (by omega)
      have q5 : IntKind.i64.wrap (y * (z / gcdI (x * x + y * y) z)) = y * (z / gcdI (x * x + y * y) z) := IntWalk.i64_in _ (by omega)
      have q6 : IntKind.i64.wrap (-(y * (z / gcdI (x * x + y * y) z))) = -(y * (z / gcdI (x * x + y * y) z)) := IntWalk.i64_in _ (by omega)
      go_region_held3 (fun w' => w'.cell? ⟨w.heap.size, 0, none⟩ = some (.int .i64 x) ∧ w'.cell? ⟨w.heap.size, 1, none⟩ = some (.int .i64 y)) ((first | go_keep | (simp [go_sem, *]; done))) (first | (go_at_call 90; (with_reducible refine (slow_any _ _ _ _ (by omega) (by omega) (by omega) (by omega) (by omega) (by omega)).mono ?_); rintro e w1 ⟨rfl, hb⟩; obtain ⟨hc, hf⟩ := bf hb (w.heap.size + 1 + 1) side_; have hs := hb.size; (try simp only [World.size_alloc, World.size_setCell, World.size_drew, World.heap_drewN] at hs); have hl : w.heap.size ≤ w1.heap.size ∧ w.heap.size < w1.heap.size ∧ w.heap.size + 1 < w1.heap.size := ⟨by omega, by omega, by omega⟩; have hB : Below w.heap.size w w1 := bstep (by exact below_) hb side_; clear hs hb))
      clear q3 q4 q5 q6
      go_wp2
      exact bodyPost_ret (v := frb (lowI (x * (z / gcdI (x * x + y * y) z)) (-(y * (z / gcdI (x * x + y * y) z))) ((x * x + y * y) / gcdI (x * x + y * y) z))) (by simp [results, Tryz.results117, go_sem, *]) rfl ⟨rfl, by exact below_⟩
    · have t2 := turn_small (z / gcdI (x * x + y * y) z) y hy b4 k2
      clear R
      go_enter Tryz.func117, Tryz.ntmps117
      go_wp2_with (first | (go_at_call 101; refine (sgcd_any _ _ _ (by omega) (by omega) (by omega) (by omega)).mono ?_; rintro e w1 ⟨rfl, rfl⟩))
      have q3 : IntKind.i64.wrap ((x * x + y * y).tdiv (gcdI (x * x + y * y) z)) = (x * x + y * y) / gcdI (x * x + y * y) z := IntWalk.i64_quo _ _ ⟨by omega, by omega, g1⟩
      have q4 : IntKind.i64.wrap (x * (z / gcdI (x * x + y * y) z)) = x * (z / gcdI (x * x + y * y) z) := IntWalk.i64_in _ (by omega)
      have q5 : IntKind.i64.wrap (y * (z / gcdI (x * x + y * y) z)) = y * (z / gcdI (x * x + y * y) z) := IntWalk.i64_in _ (by omega)
      have q6 : IntKind.i64.wrap (-(y * (z / gcdI (x * x + y * y) z))) = -(y * (z / gcdI (x * x + y * y) z)) := IntWalk.i64_in _ (by omega)
      go_region_held3 (fun w' => w'.cell? ⟨w.heap.size, 0, none⟩ = some (.int .i64 x) ∧ w'.cell? ⟨w.heap.size, 1, none⟩ = some (.int .i64 y)) ((first | go_keep | (simp [go_sem, *]; done))) (first | (go_at_call 90; (with_reducible refine (slow_any _ _ _ _ (by omega) (by omega) (by omega) (by omega) (by omega) (by omega)).mono ?_); rintro e w1 ⟨rfl, hb⟩; obtain ⟨hc, hf⟩ := bf hb (w.heap.size + 1 + 1) side_; have hs := hb.size; (try simp only [World.size_alloc, World.size_setCell, World.size_drew, World.heap_drewN] at hs); have hl : w.heap.size ≤ w1.heap.size ∧ w.heap.size < w1.heap.size ∧ w.heap.size + 1 < w1.heap.size := ⟨by omega, by omega, by omega⟩; have hB : Below w.heap.size w w1 := bstep (by exact below_) hb side_; clear hs hb))
      clear q3 q4 q5 q6
      go_wp2
      exact bodyPost_ret (v := frb (lowI (x * (z / gcdI (x * x + y * y) z)) (-(y * (z / gcdI (x * x + y * y) z))) ((x * x + y * y) / gcdI (x * x + y * y) z))) (by simp [results, Tryz.results117, go_sem, *]) rfl ⟨rfl, by exact below_⟩
    · have t2 := turn_small (z / gcdI (x * x + y * y) z) (-y) (by omega) (by omega) k2
      have t2' := t2
      rw [Int.ediv_neg] at t2'
      clear R
      go_enter Tryz.func117, Tryz.ntmps117
      go_wp2_with (first | (go_at_call 101; refine (sgcd_any _ _ _ (by omega) (by omega) (by omega) (by omega)).mono ?_; rintro e w1 ⟨rfl, rfl⟩))
      have q3 : IntKind.i64.wrap ((x * x + y * y).tdiv (gcdI (x * x + y * y) z)) = (x * x + y * y) / gcdI (x * x + y * y) z := IntWalk.i64_quo _ _ ⟨by omega, by omega, g1⟩
      have q4 : IntKind.i64.wrap (x * (z / gcdI (x * x + y * y) z)) = x * (z / gcdI (x * x + y * y) z) := IntWalk.i64_in _ (by omega)
      have q5 : IntKind.i64.wrap (y * (z / gcdI (x * x + y * y) z)) = y * (z / gcdI (x * x + y * y) z) := IntWalk.i64_in _ (by omega)
      have q6 : IntKind.i64.wrap (-(y * (z / gcdI (x * x + y * y) z))) = -(y * (z / gcdI (x * x + y * y) z)) := IntWalk.i64_in _ (by omega)
      go_region_held3 (fun w' => w'.cell? ⟨w.heap.size, 0, none⟩ = some (.int .i64 x) ∧ w'.cell? ⟨w.heap.size, 1, none⟩ = some (.int .i64 y)) ((first | go_keep | (simp [go_sem, *]; done))) (first | (go_at_call 90; (with_reducible refine (slow_any _ _ _ _ (by omega) (by omega) (by omega) (by omega) (by omega) (by omega)).mono ?_); rintro e w1 ⟨rfl, hb⟩; obtain ⟨hc, hf⟩ := bf hb (w.heap.size + 1 + 1) side_; have hs := hb.size; (try simp only [World.size_alloc, World.size_setCell, World.size_drew, World.heap_drewN] at hs); have hl : w.heap.size ≤ w1.heap.size ∧ w.heap.size < w1.heap.size ∧ w.heap.size + 1 < w1.heap.size := ⟨by omega, by omega, by omega⟩; have hB : Below w.heap.size w w1 := bstep (by exact below_) hb side_; clear hs hb))
      clear q3 q4 q5 q6
      go_wp2
      exact bodyPost_ret (v := frb (lowI (x * (z / gcdI (x * x + y * y) z)) (-(y * (z / gcdI (x * x + y * y) z))) ((x * x + y * y) / gcdI (x * x + y * y) z))) (by simp [results, Tryz.results117, go_sem, *]) rfl ⟨rfl, by exact below_⟩
  · have t1 := turn_small (z / gcdI (x * x + y * y) z) (-x) (by omega) (by omega) k2
    have t1' := t1
    rw [Int.ediv_neg] at t1'
    rcases R y with hy | hy | hy
    · clear R
      go_enter Tryz.func117, Tryz.ntmps117
      go_wp2_with (first | (go_at_call 101; refine (sgcd_any _ _ _ (by omega) (by omega) (by omega) (by omega)).mono ?_; rintro e w1 ⟨rfl, rfl⟩))
      have q3 : IntKind.i64.wrap ((x * x + y * y).tdiv (gcdI (x * x + y * y) z)) = (x * x + y * y) / gcdI (x * x + y * y) z := IntWalk.i64_quo _ _ ⟨by omega, by omega, g1⟩
      have q4 : IntKind.i64.wrap (x * (z / gcdI (x * x + y * y) z)) = x * (z / gcdI (x * x + y * y) z) := IntWalk.i64_in _ (by omega)
      have q5 : IntKind.i64.wrap (y * (z / gcdI (x * x + y * y) z)) = y * (z / gcdI (x * x + y * y) z) := IntWalk.i64_in _ (by omega)
      have q6 : IntKind.i64.wrap (-(y * (z / gcdI (x * x + y * y) z))) = -(y * (z / gcdI (x * x + y * y) z)) := IntWalk.i64_in _ (by omega)
      go_region_held3 (fun w' => w'.cell? ⟨w.heap.size, 0, none⟩ = some (.int .i64 x) ∧ w'.cell? ⟨w.heap.size, 1, none⟩ = some (.int .i64 y)) ((first | go_keep | (simp [go_sem, *]; done))) (first | (go_at_call 90; (with_reducible refine (slow_any _ _ _ _ (by omega) (by omega) (by omega) (by omega) (by omega) (by omega)).mono ?_); rintro e w1 ⟨rfl, hb⟩; obtain ⟨hc, hf⟩ := bf hb (w.heap.size + 1 + 1) side_; have hs := hb.size; (try simp only [World.size_alloc, World.size_setCell, World.size_drew, World.heap_drewN] at hs); have hl : w.heap.size ≤ w1.heap.size ∧ w.heap.size < w1.heap.size ∧ w.heap.size + 1 < w1.heap.size := ⟨by omega, by omega, by omega⟩; have hB : Below w.heap.size w w1 := bstep (by exact below_) hb side_; clear hs hb))
      clear q3 q4 q5 q6
      go_wp2
      exact bodyPost_ret (v := frb (lowI (x * (z / gcdI (x * x + y * y) z)) (-(y * (z / gcdI (x * x + y * y) z))) ((x * x + y * y) / gcdI (x * x + y * y) z))) (by simp [results, Tryz.results117, go_sem, *]) rfl ⟨rfl, by exact below_⟩
    · have t2 := turn_small (z / gcdI (x * x + y * y) z) y hy b4 k2
      clear R
      go_enter Tryz.func117, Tryz.ntmps117
      go_wp2_with (first | (go_at_call 101; refine (sgcd_any _ _ _ (by omega) (by omega) (by omega) (by omega)).mono ?_; rintro e w1 ⟨rfl, rfl⟩))
      have q3 : IntKind.i64.wrap ((x * x + y * y).tdiv (gcdI (x * x + y * y) z)) = (x * x + y * y) / gcdI (x * x + y * y) z := IntWalk.i64_quo _ _ ⟨by omega, by omega, g1⟩
      have q4 : IntKind.i64.wrap (x * (z / gcdI (x * x + y * y) z)) = x * (z / gcdI (x * x + y * y) z) := IntWalk.i64_in _ (by omega)
      have q5 : IntKind.i64.wrap (y * (z / gcdI (x * x + y * y) z)) = y * (z / gcdI (x * x + y * y) z) := IntWalk.i64_in _ (by omega)
      have q6 : IntKind.i64.wrap (-(y * (z / gcdI (x * x + y * y) z))) = -(y * (z / gcdI (x * x + y * y) z)) := IntWalk.i64_in _ (by omega)
      go_region_held3 (fun w' => w'.cell? ⟨w.heap.size, 0, none⟩ = some (.int .i64 x) ∧ w'.cell? ⟨w.heap.size, 1, none⟩ = some (.int .i64 y)) ((first | go_keep | (simp [go_sem, *]; done))) (first | (go_at_call 90; (with_reducible refine (slow_any _ _ _ _ (by omega) (by omega) (by omega) (by omega) (by omega) (by omega)).mono ?_); rintro e w1 ⟨rfl, hb⟩; obtain ⟨hc, hf⟩ := bf hb (w.heap.size + 1 + 1) side_; have hs := hb.size; (try simp only [World.size_alloc, World.size_setCell, World.size_drew, World.heap_drewN] at hs); have hl : w.heap.size ≤ w1.heap.size ∧ w.heap.size < w1.heap.size ∧ w.heap.size + 1 < w1.heap.size := ⟨by omega, by omega, by omega⟩; have hB : Below w.heap.size w w1 := bstep (by exact below_) hb side_; clear hs hb))
      clear q3 q4 q5 q6
      go_wp2
      exact bodyPost_ret (v := frb (lowI (x * (z / gcdI (x * x + y * y) z)) (-(y * (z / gcdI (x * x + y * y) z))) ((x * x + y * y) / gcdI (x * x + y * y) z))) (by simp [results, Tryz.results117, go_sem, *]) rfl ⟨rfl, by exact below_⟩
    · have t2 := turn_small (z / gcdI (x * x + y * y) z) (-y) (by omega) (by omega) k2
      have t2' := t2
      rw [Int.ediv_neg] at t2'
      clear R
      go_enter Tryz.func117, Tryz.ntmps117
      go_wp2_with (first | (go_at_call 101; refine (sgcd_any _ _ _ (by omega) (by omega) (by omega) (by omega)).mono ?_; rintro e w1 ⟨rfl, rfl⟩))
      have q3 : IntKind.i64.wrap ((x * x + y * y).tdiv (gcdI (x * x + y * y) z)) = (x * x + y * y) / gcdI (x * x + y * y) z := IntWalk.i64_quo _ _ ⟨by omega, by omega, g1⟩
      have q4 : IntKind.i64.wrap (x * (z / gcdI (x * x + y * y) z)) = x * (z / gcdI (x * x + y * y) z) := IntWalk.i64_in _ (by omega)
      have q5 : IntKind.i64.wrap (y * (z / gcdI (x * x + y * y) z)) = y * (z / gcdI (x * x + y * y) z) := IntWalk.i64_in _ (by omega)
      have q6 : IntKind.i64.wrap (-(y * (z / gcdI (x * x + y * y) z))) = -(y * (z / gcdI (x * x + y * y) z)) := IntWalk.i64_in _ (by omega)
      go_region_held3 (fun w' => w'.cell? ⟨w.heap.size, 0, none⟩ = some (.int .i64 x) ∧ w'.cell? ⟨w.heap.size, 1, none⟩ = some (.int .i64 y)) ((first | go_keep | (simp [go_sem, *]; done))) (first | (go_at_call 90; (with_reducible refine (slow_any _ _ _ _ (by omega) (by omega) (by omega) (by omega) (by omega) (by omega)).mono ?_); rintro e w1 ⟨rfl, hb⟩; obtain ⟨hc, hf⟩ := bf hb (w.heap.size + 1 + 1) side_; have hs := hb.size; (try simp only [World.size_alloc, World.size_setCell, World.size_drew, World.heap_drewN] at hs); have hl : w.heap.size ≤ w1.heap.size ∧ w.heap.size < w1.heap.size ∧ w.heap.size + 1 < w1.heap.size := ⟨by omega, by omega, by omega⟩; have hB : Below w.heap.size w w1 := bstep (by exact below_) hb side_; clear hs hb))
      clear q3 q4 q5 q6
      go_wp2
      exact bodyPost_ret (v := frb (lowI (x * (z / gcdI (x * x + y * y) z)) (-(y * (z / gcdI (x * x + y * y) z))) ((x * x + y * y) / gcdI (x * x + y * y) z))) (by simp [results, Tryz.results117, go_sem, *]) rfl ⟨rfl, by exact below_⟩
end
section
open Go.RowKit
set_option maxHeartbeats 1000000 in
theorem sover_any (a b : Fr) (w : World) :
    Calls Tryz.prog 93 #[frv a, frv b] w fun e w' => e = .returned (frb (overI a b)) ∧ Below w.heap.size w w' := by
  cases ha : fvalid a
  · have e : overI a b = none := by simp [overI, ha]
    rw [e]; clear e
    go_enter Tryz.func93, Tryz.ntmps93
    go_wp2_with (first | (go_at_call 65; (with_reducible refine (sfvalid_f _ _ (by assumption)).mono ?_); rintro e w1 ⟨rfl, hb⟩; obtain ⟨hc, hf⟩ := bf hb (w.heap.size + 1 + 1 + 1) side_; have hs := hb.size; (try simp only [World.size_alloc, World.size_setCell, World.size_drew, World.heap_drewN] at hs); have hl : w.heap.size ≤ w1.heap.size ∧ w.heap.size < w1.heap.size ∧ w.heap.size + 1 < w1.heap.size ∧ w.heap.size + 1 + 1 < w1.heap.size := ⟨by omega, by omega, by omega, by omega⟩; have hB : Below w.heap.size w w1 := bstep (by exact below_) hb side_; clear hs hb))
    exact bodyPost_ret (v := frb none) (by simp [results, Tryz.results93, go_sem, *]) rfl ⟨rfl, by exact below_⟩
  cases hb : fvalid b
  · have e : overI a b = none := by simp [overI, ha, hb]
    rw [e]; clear e
    go_enter Tryz.func93, Tryz.ntmps93
    go_wp2_with (first | (go_at_call 65; (with_reducible refine (sfvalid_t _ _ (by assumption)).mono ?_); rintro e w1 ⟨rfl, hb⟩; obtain ⟨hc, hf⟩ := bf hb (w.heap.size + 1 + 1 + 1) side_; have hs := hb.size; (try simp only [World.size_alloc, World.size_setCell, World.size_drew, World.heap_drewN] at hs); have hl : w.heap.size ≤ w1.heap.size ∧ w.heap.size < w1.heap.size ∧ w.heap.size + 1 < w1.heap.size ∧ w.heap.size + 1 + 1 < w1.heap.size := ⟨by omega, by omega, by omega, by omega⟩; have hB : Below w.heap.size w w1 := bstep (by exact below_) hb side_; clear hs hb) | (go_at_call 65; (with_reducible refine (sfvalid_f _ _ (by assumption)).mono ?_); rintro e w1 ⟨rfl, hb⟩; obtain ⟨hc, hf⟩ := bf hb (w.heap.size + 1 + 1 + 1) side_; have hs := hb.size; (try simp only [World.size_alloc, World.size_setCell, World.size_drew, World.heap_drewN] at hs); have hl : w.heap.size ≤ w1.heap.size ∧ w.heap.size < w1.heap.size ∧ w.heap.size + 1 < w1.heap.size ∧ w.heap.size + 1 + 1 < w1.heap.size := ⟨by omega, by omega, by omega, by omega⟩; have hB : Below w.heap.size w w1 := bstep (by exact below_) hb side_; clear hs hb))
    exact bodyPost_ret (v := frb none) (by simp [results, Tryz.results93, go_sem, *]) rfl ⟨rfl, by exact below_⟩
  cases hz : isZero b
  · have e : overI a b = (turnI b).bind (timesI a) := by simp [overI, ha, hb, hz]
    rw [e]
    clear e
    have ht := fun w' => sturn_any b w' hb hz
    have HT := Lib.hid ht
    clear ht
    have hcase : (b.re == 0) = false ∨ ((b.re == 0) = true ∧ (b.im == 0) = false) := by
      unfold isZero at hz
      cases h1 : b.re == 0
      · exact .inl rfl
      · exact .inr ⟨rfl, by simpa [h1] using hz⟩
    clear hz
    cases hr : turnI b with
    | none =>
      show Calls _ _ _ _ fun e w' => e = .returned (frb none) ∧ _
      rcases hcase with hne | ⟨hn0, hne⟩
      all_goals
        go_enter Tryz.func93, Tryz.ntmps93
        go_wp2_with (first | (go_at_call 65; (with_reducible refine (sfvalid_t _ _ (by assumption)).mono ?_); rintro e w1 ⟨rfl, hb⟩; obtain ⟨hc, hf⟩ := bf hb (w.heap.size + 1 + 1 + 1) side_; have hs := hb.size; (try simp only [World.size_alloc, World.size_setCell, World.size_drew, World.heap_drewN] at hs); have hl : w.heap.size ≤ w1.heap.size ∧ w.heap.size < w1.heap.size ∧ w.heap.size + 1 < w1.heap.size ∧ w.heap.size + 1 + 1 < w1.heap.size := ⟨by omega, by omega, by omega, by omega⟩; have hB : Below w.heap.size w w1 := bstep (by exact below_) hb side_; clear hs hb) | (go_at_call 117; (with_reducible refine (HT.out _).mono ?_); rintro e w1 ⟨rfl, hb⟩; obtain ⟨hc, hf⟩ := bf hb (w.heap.size + 1 + 1 + 1) side_; have hs := hb.size; (try simp only [World.size_alloc, World.size_setCell, World.size_drew, World.heap_drewN] at hs); have hl : w.heap.size ≤ w1.heap.size ∧ w.heap.size < w1.heap.size ∧ w.heap.size + 1 < w1.heap.size ∧ w.heap.size + 1 + 1 < w1.heap.size := ⟨by omega, by omega, by omega, by omega⟩; obtain ⟨B, hBe, hBl, hc2, hf2⟩ := bfA hb; (try simp only [World.size_alloc, World.size_setCell, World.size_drew, World.heap_drewN] at hBe); have hB : Below w.heap.size w w1 := bstep (by exact below_) hb side_; clear hs hb))
        exact bodyPost_ret (v := frb none) (by simp [results, Tryz.results93, go_sem, *]) rfl ⟨rfl, by exact below_⟩
    | some c =>
      show Calls _ _ _ _ fun e w' => e = .returned (frb (timesI a c)) ∧ _
      rcases hcase with hne | ⟨hn0, hne⟩
      all_goals
        go_enter Tryz.func93, Tryz.ntmps93
        go_wp2_with (first | (go_at_call 65; (with_reducible refine (sfvalid_t _ _ (by assumption)).mono ?_); rintro e w1 ⟨rfl, hb⟩; obtain ⟨hc, hf⟩ := bf hb (w.heap.size + 1 + 1 + 1) side_; have hs := hb.size; (try simp only [World.size_alloc, World.size_setCell, World.size_drew, World.heap_drewN] at hs); have hl : w.heap.size ≤ w1.heap.size ∧ w.heap.size < w1.heap.size ∧ w.heap.size + 1 < w1.heap.size ∧ w.heap.size + 1 + 1 < w1.heap.size := ⟨by omega, by omega, by omega, by omega⟩; have hB : Below w.heap.size w w1 := bstep (by exact below_) hb side_; clear hs hb) | (go_at_call 117; (with_reducible refine (HT.out _).mono ?_); rintro e w1 ⟨rfl, hb⟩; obtain ⟨hc, hf⟩ := bf hb (w.heap.size + 1 + 1 + 1) side_; have hs := hb.size; (try simp only [World.size_alloc, World.size_setCell, World.size_drew, World.heap_drewN] at hs); have hl : w.heap.size ≤ w1.heap.size ∧ w.heap.size < w1.heap.size ∧ w.heap.size + 1 < w1.heap.size ∧ w.heap.size + 1 + 1 < w1.heap.size := ⟨by omega, by omega, by omega, by omega⟩; obtain ⟨B, hBe, hBl, hc2, hf2⟩ := bfA hb; (try simp only [World.size_alloc, World.size_setCell, World.size_drew, World.heap_drewN] at hBe); have hB : Below w.heap.size w w1 := bstep (by exact below_) hb side_; clear hs hb) | (go_at_call 71; (with_reducible refine (stimes_any a c _).mono ?_); rintro e w1 ⟨rfl, hb⟩; obtain ⟨hc, hf⟩ := bf hb (w.heap.size + 1 + 1 + 1) side_; have hs := hb.size; (try simp only [World.size_alloc, World.size_setCell, World.size_drew, World.heap_drewN] at hs); have hl : w.heap.size ≤ w1.heap.size ∧ w.heap.size < w1.heap.size ∧ w.heap.size + 1 < w1.heap.size ∧ w.heap.size + 1 + 1 < w1.heap.size := ⟨by omega, by omega, by omega, by omega⟩; obtain ⟨B, hBe, hBl, hc2, hf2⟩ := bfA hb; (try simp only [World.size_alloc, World.size_setCell, World.size_drew, World.heap_drewN] at hBe); have hB : Below w.heap.size w w1 := bstep (by exact below_) hb side_; clear hs hb))
        exact bodyPost_ret (v := frb (timesI a c)) (by simp [results, Tryz.results93, go_sem, *]) rfl ⟨rfl, by exact below_⟩
  · have e : overI a b = none := by simp [overI, hz]
    rw [e]; clear e
    have h1 : (b.re == 0) = true := by unfold isZero at hz; simp at hz; simp [hz.1]
    have h2 : (b.im == 0) = true := by unfold isZero at hz; simp at hz; simp [hz.2]
    clear hz
    go_enter Tryz.func93, Tryz.ntmps93
    go_wp2_with (first | (go_at_call 65; (with_reducible refine (sfvalid_t _ _ (by assumption)).mono ?_); rintro e w1 ⟨rfl, hb⟩; obtain ⟨hc, hf⟩ := bf hb (w.heap.size + 1 + 1 + 1) side_; have hs := hb.size; (try simp only [World.size_alloc, World.size_setCell, World.size_drew, World.heap_drewN] at hs); have hl : w.heap.size ≤ w1.heap.size ∧ w.heap.size < w1.heap.size ∧ w.heap.size + 1 < w1.heap.size ∧ w.heap.size + 1 + 1 < w1.heap.size := ⟨by omega, by omega, by omega, by omega⟩; have hB : Below w.heap.size w w1 := bstep (by exact below_) hb side_; clear hs hb))
    exact bodyPost_ret (v := frb none) (by simp [results, Tryz.results93, go_sem, *]) rfl ⟨rfl, by exact below_⟩
end
end Go.Proofs.YtodhbkinbcemnaaGreatDoor
