/-
  The walks of the reference's functions on exact fractions.
-/
import Derived.Test.YtiagnnmnaakmoaaDoorWa
namespace Go.Proofs.YtiagnnmnaakmoaaDoor
set_option linter.unusedSimpArgs false
set_option linter.unusedVariables false
open Go.RowKit
set_option maxHeartbeats 400000 in
theorem l6in_any (n lo hi : Int) (w : World) :
    Calls Tryd.prog 73 #[.int .i64 n, .int .i64 lo, .int .i64 hi] w fun e w' => e = .returned (.bool (inB n lo hi)) ∧ w' = w := by
  go_enter Tryd.func73, Tryd.ntmps73
  go_wp2
  all_goals go_ret
  all_goals exact ⟨by simp [inB, *]; try omega, rfl⟩
theorem l6in_t (n lo hi : Int) (w : World) (h : inB n lo hi = true) :
    Calls Tryd.prog 73 #[.int .i64 n, .int .i64 lo, .int .i64 hi] w fun e w' => e = .returned (.bool true) ∧ w' = w := by
  rw [← h]; exact l6in_any n lo hi w
theorem l6in_f (n lo hi : Int) (w : World) (h : inB n lo hi = false) :
    Calls Tryd.prog 73 #[.int .i64 n, .int .i64 lo, .int .i64 hi] w fun e w' => e = .returned (.bool false) ∧ w' = w := by
  rw [← h]; exact l6in_any n lo hi w
set_option maxHeartbeats 400000 in
theorem sin_any (n : Int) (w : World) :
    Calls Tryd.prog 84 #[.int .i64 n] w fun e w' => e = .returned (.bool (inB n (-2000000000) 2000000000)) ∧ w' = w := by
  go_enter Tryd.func84, Tryd.ntmps84
  go_wp2_with (go_at_call 73; refine (l6in_any _ _ _ _).mono ?_; rintro e w1 ⟨rfl, rfl⟩)
  go_ret
  exact ⟨rfl, rfl⟩
theorem sin_t (n : Int) (w : World) (h : inB n (-2000000000) 2000000000 = true) :
    Calls Tryd.prog 84 #[.int .i64 n] w fun e w' => e = .returned (.bool true) ∧ w' = w := by
  rw [← h]; exact sin_any n w
theorem sin_f (n : Int) (w : World) (h : inB n (-2000000000) 2000000000 = false) :
    Calls Tryd.prog 84 #[.int .i64 n] w fun e w' => e = .returned (.bool false) ∧ w' = w := by
  rw [← h]; exact sin_any n w
set_option maxHeartbeats 400000 in
theorem sgcd_any (a b : Int) (w : World) (ha0 : -9223372036854775807 ≤ a) (ha : a ≤ 9223372036854775807) (hb0 : -9223372036854775807 ≤ b) (hb : b ≤ 9223372036854775807) :
    Calls Tryd.prog 85 #[.int .i64 a, .int .i64 b] w fun e w' => e = .returned (.int .i64 (gcdI a b)) ∧ w' = w := by
  go_enter Tryd.func85, Tryd.ntmps85
  go_wp2
  go_loop [0, 1, 5] (fun x y _ => ∃ c d : Int, -9223372036854775807 ≤ c ∧ c ≤ 9223372036854775807 ∧ -9223372036854775807 ≤ d ∧ d ≤ 9223372036854775807 ∧ x = .int .i64 c ∧ y = .int .i64 d ∧ Hid (gcdI c d = gcdI a b)) (fun _ y _ => (intOf y).natAbs)
  case atStart => exact ⟨a, b, ha0, ha, hb0, hb, rfl, rfl, rfl⟩
  case round =>
    obtain ⟨c, d, hc0, hc, hd0, hd, rfl, rfl, hg⟩ := hrel
    by_cases h0 : d = 0
    · subst h0
      go_wp2
      all_goals go_ret
      all_goals exact ⟨by rw [← hg.out, gcdI_zero]; simp [absI]; omega, rfl⟩
    · have t1 : -9223372036854775807 ≤ c.tmod d := by
        have := Int.natAbs_tmod c d
        have k := Nat.mod_le c.natAbs d.natAbs
        omega
      have t2 : c.tmod d ≤ 9223372036854775807 := by
        have := Int.natAbs_tmod c d
        have k := Nat.mod_le c.natAbs d.natAbs
        omega
      have t3 : (c.tmod d).natAbs < d.natAbs := by rw [Int.natAbs_tmod]; exact Nat.mod_lt _ (by omega)
      have H3 := Lib.hid t3
      clear t3
      go_wp2
      go_round
      case rel => exact ⟨d, c.tmod d, hd0, hd, t1, t2, rfl, rfl, (gcdI_step c d).trans hg.out⟩
      case measure => simpa [intOf] using H3.out
set_option maxHeartbeats 400000 in
theorem sfvalid_1 (x y z : Int) (w : World) (hx : inB x (-2000000000) 2000000000 = false) :
    Calls Tryd.prog 76 #[frv ⟨x, y, z⟩] w fun e w' => e = .returned (.bool (fvalid ⟨x, y, z⟩)) ∧ Below w.heap.size w w' := by
  go_enter Tryd.func76, Tryd.ntmps76
  go_wp2
  go_quiet ((first | (go_at_call 84; exact Calls.quiet_of_same (sin_t _ _ (by assumption))) | (go_at_call 84; exact Calls.quiet_of_same (sin_f _ _ (by assumption))) | (go_at_call 73; exact Calls.quiet_of_same (l6in_t _ _ _ _ (by assumption))) | (go_at_call 73; exact Calls.quiet_of_same (l6in_f _ _ _ _ (by assumption)))))
  go_wp2
  go_ret
  exact ⟨by simp [fvalid, hx], below_drewN ((Below.refl _ _).alloc (Nat.le_refl _) _) _⟩
set_option maxHeartbeats 400000 in
theorem sfvalid_2 (x y z : Int) (w : World) (hx : inB x (-2000000000) 2000000000 = true) (hy : inB y (-2000000000) 2000000000 = false) :
    Calls Tryd.prog 76 #[frv ⟨x, y, z⟩] w fun e w' => e = .returned (.bool (fvalid ⟨x, y, z⟩)) ∧ Below w.heap.size w w' := by
  go_enter Tryd.func76, Tryd.ntmps76
  go_wp2
  go_quiet ((first | (go_at_call 84; exact Calls.quiet_of_same (sin_t _ _ (by assumption))) | (go_at_call 84; exact Calls.quiet_of_same (sin_f _ _ (by assumption))) | (go_at_call 73; exact Calls.quiet_of_same (l6in_t _ _ _ _ (by assumption))) | (go_at_call 73; exact Calls.quiet_of_same (l6in_f _ _ _ _ (by assumption)))))
  go_wp2
  go_ret
  exact ⟨by simp [fvalid, hx, hy], below_drewN ((Below.refl _ _).alloc (Nat.le_refl _) _) _⟩
set_option maxHeartbeats 400000 in
theorem sfvalid_3 (x y z : Int) (w : World) (hx : inB x (-2000000000) 2000000000 = true) (hy : inB y (-2000000000) 2000000000 = true) (hz : inB z 1 2000000000 = false) :
    Calls Tryd.prog 76 #[frv ⟨x, y, z⟩] w fun e w' => e = .returned (.bool (fvalid ⟨x, y, z⟩)) ∧ Below w.heap.size w w' := by
  go_enter Tryd.func76, Tryd.ntmps76
  go_wp2
  go_quiet ((first | (go_at_call 84; exact Calls.quiet_of_same (sin_t _ _ (by assumption))) | (go_at_call 84; exact Calls.quiet_of_same (sin_f _ _ (by assumption))) | (go_at_call 73; exact Calls.quiet_of_same (l6in_t _ _ _ _ (by assumption))) | (go_at_call 73; exact Calls.quiet_of_same (l6in_f _ _ _ _ (by assumption)))))
  go_wp2
  go_ret
  exact ⟨by simp [fvalid, hx, hy, hz], below_drewN ((Below.refl _ _).alloc (Nat.le_refl _) _) _⟩
set_option maxHeartbeats 400000 in
theorem sfvalid_4 (x y z : Int) (w : World) (hx : inB x (-2000000000) 2000000000 = true) (hy : inB y (-2000000000) 2000000000 = true) (hz : inB z 1 2000000000 = true) :
    Calls Tryd.prog 76 #[frv ⟨x, y, z⟩] w fun e w' => e = .returned (.bool (fvalid ⟨x, y, z⟩)) ∧ Below w.heap.size w w' := by
  have hx' := hx; have hy' := hy; have hz' := hz
  rw [inB_iff] at hx' hy' hz'
  obtain ⟨hx1, hx2⟩ := hx'; obtain ⟨hy1, hy2⟩ := hy'; obtain ⟨hz1, hz2⟩ := hz'
  have g1 := gcdI_nonneg z x
  have g2 := gcdI_le z x 2000000000 (by omega) (by omega) (by omega) (by omega)
  go_enter Tryd.func76, Tryd.ntmps76
  go_wp2
  go_quiet ((first | (go_at_call 84; exact Calls.quiet_of_same (sin_t _ _ (by assumption))) | (go_at_call 84; exact Calls.quiet_of_same (sin_f _ _ (by assumption))) | (go_at_call 73; exact Calls.quiet_of_same (l6in_t _ _ _ _ (by assumption))) | (go_at_call 73; exact Calls.quiet_of_same (l6in_f _ _ _ _ (by assumption))) | (go_at_call 85; exact Calls.quiet_of_same (sgcd_any _ _ _ (by omega) (by omega) (by omega) (by omega)))))
  go_wp2
  go_ret
  exact ⟨by simp [fvalid, hx, hy, hz, gcd3_eq], below_drewN ((Below.refl _ _).alloc (Nat.le_refl _) _) _⟩
theorem sfvalid_any (a : Fr) (w : World) :
    Calls Tryd.prog 76 #[frv a] w fun e w' => e = .returned (.bool (fvalid a)) ∧ Below w.heap.size w w' := by
  obtain ⟨x, y, z⟩ := a
  cases hx : inB x (-2000000000) 2000000000
  · exact sfvalid_1 x y z w hx
  · cases hy : inB y (-2000000000) 2000000000
    · exact sfvalid_2 x y z w hx hy
    · cases hz : inB z 1 2000000000
      · exact sfvalid_3 x y z w hx hy hz
      · exact sfvalid_4 x y z w hx hy hz
theorem sfvalid_t (a : Fr) (w : World) (h : fvalid a = true) : Calls Tryd.prog 76 #[frv a] w fun e w' => e = .returned (.bool true) ∧ Below w.heap.size w w' := by
  rw [← h]; exact sfvalid_any a w
theorem sfvalid_f (a : Fr) (w : World) (h : fvalid a = false) : Calls Tryd.prog 76 #[frv a] w fun e w' => e = .returned (.bool false) ∧ Below w.heap.size w w' := by
  rw [← h]; exact sfvalid_any a w
set_option maxHeartbeats 1000000 in
theorem slow_any (re im den : Int) (w : World) (h1 : -9000000000000000000 ≤ re) (h2 : re ≤ 9000000000000000000) (h3 : -9000000000000000000 ≤ im) (h4 : im ≤ 9000000000000000000) (h5 : 1 ≤ den) (h6 : den ≤ 9000000000000000000) :
    Calls Tryd.prog 77 #[.int .i64 re, .int .i64 im, .int .i64 den] w fun e w' => e = .returned (frb (lowI re im den)) ∧ Below w.heap.size w w' := by
  have g1 := gcdI_nonneg den re
  have g2 := gcdI_le den re 9000000000000000000 (by omega) (by omega) (by omega) (by omega)
  have g3 : 1 ≤ gcdI (gcdI den re) im := by rw [gcd3_eq]; exact gcd3_pos re im den h5
  cases hv : fvalid ⟨re.tdiv (gcdI (gcdI den re) im), im.tdiv (gcdI (gcdI den re) im), den / gcdI (gcdI den re) im⟩
  · have e : lowI re im den = none := by
      rw [gcd3_eq, low_valid re im den h5] at hv
      unfold lowI; simp only [hv]; rfl
    rw [e]; clear e
    go_enter Tryd.func77, Tryd.ntmps77
    go_wp2_with (first | (go_at_call 85; refine (sgcd_any _ _ _ (by omega) (by omega) (by omega) (by omega)).mono ?_; rintro e w1 ⟨rfl, rfl⟩))
    go_region
    go_wp2_with (first | (go_at_call 76; (with_reducible refine (sfvalid_f _ _ hv).mono ?_); rintro e w1 ⟨rfl, hb⟩; obtain ⟨hc, hf⟩ := bf hb (w.heap.size + 1 + 1) side_; have hs := hb.size; (try simp only [World.size_alloc, World.size_setCell, World.size_drew, World.heap_drewN] at hs); have hl : w.heap.size ≤ w1.heap.size ∧ w.heap.size < w1.heap.size ∧ w.heap.size + 1 < w1.heap.size := ⟨by omega, by omega, by omega⟩; have hB : Below w.heap.size w w1 := bstep (by exact below_) hb side_; clear hs hb))
    exact bodyPost_ret (v := frb none) (by simp [results, Tryd.results77, go_sem, *]) rfl ⟨rfl, by exact below_⟩
  · have e : lowI re im den = some ⟨re.tdiv (gcdI (gcdI den re) im), im.tdiv (gcdI (gcdI den re) im), den / gcdI (gcdI den re) im⟩ := by
      rw [gcd3_eq] at hv ⊢
      rw [low_valid re im den h5] at hv
      unfold lowI; simp only [hv, if_true]
    rw [e]; clear e
    go_enter Tryd.func77, Tryd.ntmps77
    go_wp2_with (first | (go_at_call 85; refine (sgcd_any _ _ _ (by omega) (by omega) (by omega) (by omega)).mono ?_; rintro e w1 ⟨rfl, rfl⟩))
    go_region
    go_wp2_with (first | (go_at_call 76; (with_reducible refine (sfvalid_t _ _ hv).mono ?_); rintro e w1 ⟨rfl, hb⟩; obtain ⟨hc, hf⟩ := bf hb (w.heap.size + 1 + 1) side_; have hs := hb.size; (try simp only [World.size_alloc, World.size_setCell, World.size_drew, World.heap_drewN] at hs); have hl : w.heap.size ≤ w1.heap.size ∧ w.heap.size < w1.heap.size ∧ w.heap.size + 1 < w1.heap.size := ⟨by omega, by omega, by omega⟩; have hB : Below w.heap.size w w1 := bstep (by exact below_) hb side_; clear hs hb))
    exact bodyPost_ret (v := frb (some ⟨re.tdiv (gcdI (gcdI den re) im), im.tdiv (gcdI (gcdI den re) im), den / gcdI (gcdI den re) im⟩)) (by simp [results, Tryd.results77, go_sem, *]) rfl ⟨rfl, by exact below_⟩
end Go.Proofs.YtiagnnmnaakmoaaDoor
