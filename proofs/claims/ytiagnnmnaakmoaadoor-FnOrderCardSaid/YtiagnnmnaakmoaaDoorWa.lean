/-
  The walks of the functions on exact fractions, program and reference: each returns what the plain definition says, and makes new memory only.
-/
import Derived.Test.YtiagnnmnaakmoaaDoorRows
import Derived.Test.YtiagnnmnaakmoaaDoorPl
import Derived.WalkKit
import Derived.WalkSpells
import Derived.WalkLawsBesides
import Derived.Deep.QuietTactic
import Derived.BigQuiet
import Derived.Lib.Hide
namespace Go.Proofs.YtiagnnmnaakmoaaDoor
set_option linter.unusedSimpArgs false
set_option linter.unusedVariables false
open Go.RowKit
/-! Small facts that are found by search: their default arguments say how. -/
theorem side_ {p : Prop} (h : p := by first | omega | (simp; done) | (simp; omega)) : p := h
theorem below_ {p : Prop} (h : p := by (repeat' (first | (with_reducible exact Below.refl _ _) | (with_reducible assumption) | (with_reducible refine Below.setCell ?_ (by first | omega | (simp; done) | (simp; omega)) _) | (with_reducible refine Below.alloc ?_ (by first | omega | (simp; done) | (simp; omega)) _) | (with_reducible refine below_drewN ?_ _) | (with_reducible refine Below.drew ?_)))) : p := h
theorem sum_ {p : Prop} (h : p := by (repeat' (first | (with_reducible assumption) | (with_reducible exact SumIs.new' (by simp)) | (with_reducible apply SumIs.alloc) | (with_reducible apply SumIs.setEx) | (with_reducible exact SumEx.of ‹_›) | (with_reducible exact SumEx.of (SumIs.new' (by simp))) | (with_reducible apply SumEx.alloc) | (with_reducible apply SumIs.far) | (with_reducible apply SumEx.far) | (with_reducible apply SumIs.drewN) | (with_reducible apply SumIs.drew) | (with_reducible apply SumEx.drewN) | (with_reducible apply SumEx.drew) | omega | (simp; done) | (simp; omega)))) : p := h
theorem belx_ {p : Prop} (h : p := by (repeat' (first | (with_reducible exact BelX.refl _ _ _) | (with_reducible assumption) | (with_reducible exact BelX.of ‹_›) | (with_reducible refine BelX.setCell ?_ (by first | omega | (simp; done) | (simp; omega)) _) | (with_reducible refine BelX.setSum ?_ _) | (with_reducible refine BelX.alloc ?_ (by first | omega | (simp; done) | (simp; omega)) _) | (with_reducible refine BelX.drewN ?_ _) | (with_reducible refine BelX.drew ?_)))) : p := h
theorem rd_ {p : Prop} (h : p := by (repeat' (first | (with_reducible assumption) | (with_reducible exact RdIs.mono ‹RdIs _ _ _› (by omega)) | (with_reducible apply RdIs.alloc) | (with_reducible exact RdEx.of ‹RdIs _ _ _› (by omega)) | (with_reducible apply RdEx.alloc) | (with_reducible apply RdIs.far) | (with_reducible apply RdEx.far) | (with_reducible apply RdIs.drewN) | (with_reducible apply RdIs.drew) | (with_reducible apply RdEx.drewN) | (with_reducible apply RdEx.drew) | omega | (simp; done) | (simp; omega)))) : p := h
set_option maxHeartbeats 400000 in
theorem within_any (n lo hi : Int) (w : World) :
    Calls Tryd.prog 67 #[.int .i64 n, .int .i64 lo, .int .i64 hi] w fun e w' => e = .returned (.bool (inB n lo hi)) ∧ w' = w := by
  go_enter Tryd.func67, Tryd.ntmps67
  go_wp2
  all_goals go_ret
  all_goals exact ⟨by simp [inB, *]; try omega, rfl⟩
set_option maxHeartbeats 400000 in
theorem size_any (n : Int) (w : World) (h : -9223372036854775807 ≤ n) (h' : n ≤ 9223372036854775807) :
    Calls Tryd.prog 72 #[.int .i64 n] w fun e w' => e = .returned (.int .i64 (absI n)) ∧ w' = w := by
  go_enter Tryd.func72, Tryd.ntmps72
  go_wp2
  all_goals go_ret
  all_goals exact ⟨by simp [absI]; omega, rfl⟩
set_option maxHeartbeats 400000 in
theorem divisor_any (a b : Int) (w : World) (ha0 : 0 ≤ a) (ha : a ≤ 9223372036854775807) (hb0 : 0 ≤ b) (hb : b ≤ 9223372036854775807) :
    Calls Tryd.prog 71 #[.int .i64 a, .int .i64 b] w fun e w' => e = .returned (.int .i64 (gcdI a b)) ∧ ∃ n, w' = w.drewN n := by
  obtain ⟨a, rfl⟩ := Int.eq_ofNat_of_zero_le ha0
  obtain ⟨b, rfl⟩ := Int.eq_ofNat_of_zero_le hb0
  go_enter Tryd.func71, Tryd.ntmps71
  go_wp2
  go_loopw [0, 1] (fun x y wr => ∃ c d : Nat, c ≤ 9223372036854775807 ∧ d ≤ 9223372036854775807 ∧ x = .int .i64 c ∧ y = .int .i64 d ∧ Hid (Nat.gcd c d = Nat.gcd a b ∧ ∃ n, wr = w.drewN n)) (fun _ y _ => (intOf y).toNat)
  case atStart => exact ⟨a, b, by omega, by omega, rfl, rfl, rfl, 0, rfl⟩
  case round =>
    obtain ⟨c, d, hc, hd, rfl, rfl, hg⟩ := hrel
    by_cases h0 : d = 0
    · subst h0
      go_wp2
      go_ret
      obtain ⟨hg, hn⟩ := hg.out
      exact ⟨by simp [gcdI]; rw [← hg]; simp, hn⟩
    · have h1 : 0 < d := by omega
      go_wp2
      go_quiet (fail)
      go_wp2
      go_roundw
      case rel =>
        obtain ⟨hg, n, hn⟩ := hg.out
        refine ⟨d, c % d, hd, by have := Nat.mod_lt c h1; omega, rfl, rfl, ?_, n + nq, ?_⟩
        · rw [← hg, Nat.gcd_comm c d, Nat.gcd_rec d c, Nat.gcd_comm]
        · rw [hn, World.drewN_drewN]
      case measure => simp [intOf]; have := Int.emod_lt_of_pos (c : Int) (b := d) (by omega); omega
theorem within_t (n lo hi : Int) (w : World) (h : inB n lo hi = true) :
    Calls Tryd.prog 67 #[.int .i64 n, .int .i64 lo, .int .i64 hi] w fun e w' => e = .returned (.bool true) ∧ w' = w := by
  rw [← h]; exact within_any n lo hi w
theorem within_f (n lo hi : Int) (w : World) (h : inB n lo hi = false) :
    Calls Tryd.prog 67 #[.int .i64 n, .int .i64 lo, .int .i64 hi] w fun e w' => e = .returned (.bool false) ∧ w' = w := by
  rw [← h]; exact within_any n lo hi w
set_option maxHeartbeats 400000 in
theorem fvalid_1 (x y z : Int) (w : World) (hx : inB x (-2000000000) 2000000000 = false) :
    Calls Tryd.prog 48 #[frv ⟨x, y, z⟩] w fun e w' => e = .returned (.bool (fvalid ⟨x, y, z⟩)) ∧ Below w.heap.size w w' := by
  go_enter Tryd.func48, Tryd.ntmps48
  go_wp2
  go_quiet ((first | (go_at_call 67; exact Calls.quiet_of_same (within_t _ _ _ _ (by assumption))) | (go_at_call 67; exact Calls.quiet_of_same (within_f _ _ _ _ (by assumption)))))
  go_wp2
  go_ret
  exact ⟨by simp [fvalid, hx], below_drewN ((Below.refl _ _).alloc (Nat.le_refl _) _) _⟩
set_option maxHeartbeats 400000 in
theorem fvalid_2 (x y z : Int) (w : World) (hx : inB x (-2000000000) 2000000000 = true) (hy : inB y (-2000000000) 2000000000 = false) :
    Calls Tryd.prog 48 #[frv ⟨x, y, z⟩] w fun e w' => e = .returned (.bool (fvalid ⟨x, y, z⟩)) ∧ Below w.heap.size w w' := by
  go_enter Tryd.func48, Tryd.ntmps48
  go_wp2
  go_quiet ((first | (go_at_call 67; exact Calls.quiet_of_same (within_t _ _ _ _ (by assumption))) | (go_at_call 67; exact Calls.quiet_of_same (within_f _ _ _ _ (by assumption)))))
  go_wp2
  go_ret
  exact ⟨by simp [fvalid, hx, hy], below_drewN ((Below.refl _ _).alloc (Nat.le_refl _) _) _⟩
set_option maxHeartbeats 400000 in
theorem fvalid_3 (x y z : Int) (w : World) (hx : inB x (-2000000000) 2000000000 = true) (hy : inB y (-2000000000) 2000000000 = true) (hz : inB z 1 2000000000 = false) :
    Calls Tryd.prog 48 #[frv ⟨x, y, z⟩] w fun e w' => e = .returned (.bool (fvalid ⟨x, y, z⟩)) ∧ Below w.heap.size w w' := by
  go_enter Tryd.func48, Tryd.ntmps48
  go_wp2
  go_quiet ((first | (go_at_call 67; exact Calls.quiet_of_same (within_t _ _ _ _ (by assumption))) | (go_at_call 67; exact Calls.quiet_of_same (within_f _ _ _ _ (by assumption)))))
  go_wp2
  go_ret
  exact ⟨by simp [fvalid, hx, hy, hz], below_drewN ((Below.refl _ _).alloc (Nat.le_refl _) _) _⟩
set_option maxHeartbeats 400000 in
theorem fvalid_4 (x y z : Int) (w : World) (hx : inB x (-2000000000) 2000000000 = true) (hy : inB y (-2000000000) 2000000000 = true) (hz : inB z 1 2000000000 = true) :
    Calls Tryd.prog 48 #[frv ⟨x, y, z⟩] w fun e w' => e = .returned (.bool (fvalid ⟨x, y, z⟩)) ∧ Below w.heap.size w w' := by
  have hx' := hx; have hy' := hy; have hz' := hz
  rw [inB_iff] at hx' hy' hz'
  obtain ⟨hx1, hx2⟩ := hx'; obtain ⟨hy1, hy2⟩ := hy'; obtain ⟨hz1, hz2⟩ := hz'
  obtain ⟨ax1, ax2⟩ := absI_bd x 2000000000 (by omega) (by omega)
  obtain ⟨ay1, ay2⟩ := absI_bd y 2000000000 (by omega) (by omega)
  have g1 := gcdI_nonneg (absI x) (absI y)
  have g2 := gcdI_le (absI x) (absI y) 2000000000 (by omega) (by omega) (by omega) (by omega)
  go_enter Tryd.func48, Tryd.ntmps48
  go_wp2
  go_quiet ((first | (go_at_call 67; exact Calls.quiet_of_same (within_t _ _ _ _ (by assumption))) | (go_at_call 72; exact Calls.quiet_of_same (size_any _ _ (by omega) (by omega))) | (go_at_call 71; exact Calls.quiet_of (divisor_any _ _ _ (by omega) (by omega) (by omega) (by omega)))))
  go_wp2
  go_ret
  exact ⟨by simp [fvalid, hx, hy, hz, gcd3], below_drewN ((Below.refl _ _).alloc (Nat.le_refl _) _) _⟩
theorem fvalid_any (a : Fr) (w : World) :
    Calls Tryd.prog 48 #[frv a] w fun e w' => e = .returned (.bool (fvalid a)) ∧ Below w.heap.size w w' := by
  obtain ⟨x, y, z⟩ := a
  cases hx : inB x (-2000000000) 2000000000
  · exact fvalid_1 x y z w hx
  · cases hy : inB y (-2000000000) 2000000000
    · exact fvalid_2 x y z w hx hy
    · cases hz : inB z 1 2000000000
      · exact fvalid_3 x y z w hx hy hz
      · exact fvalid_4 x y z w hx hy hz
theorem fvalid_t (a : Fr) (w : World) (h : fvalid a = true) : Calls Tryd.prog 48 #[frv a] w fun e w' => e = .returned (.bool true) ∧ Below w.heap.size w w' := by
  rw [← h]; exact fvalid_any a w
theorem fvalid_f (a : Fr) (w : World) (h : fvalid a = false) : Calls Tryd.prog 48 #[frv a] w fun e w' => e = .returned (.bool false) ∧ Below w.heap.size w w' := by
  rw [← h]; exact fvalid_any a w
set_option maxHeartbeats 1000000 in
theorem lowest_any (re im den : Int) (w : World) (h1 : -9000000000000000000 ≤ re) (h2 : re ≤ 9000000000000000000) (h3 : -9000000000000000000 ≤ im) (h4 : im ≤ 9000000000000000000) (h5 : 1 ≤ den) (h6 : den ≤ 9000000000000000000) :
    Calls Tryd.prog 49 #[.int .i64 re, .int .i64 im, .int .i64 den] w fun e w' => e = .returned (frb (lowI re im den)) ∧ Below w.heap.size w w' := by
  obtain ⟨ax1, ax2⟩ := absI_bd re 9000000000000000000 (by omega) (by omega)
  obtain ⟨ay1, ay2⟩ := absI_bd im 9000000000000000000 (by omega) (by omega)
  have g1 := gcdI_nonneg (absI re) (absI im)
  have g2 := gcdI_le (absI re) (absI im) 9000000000000000000 (by omega) (by omega) (by omega) (by omega)
  have g3 : 1 ≤ gcdI (gcdI (absI re) (absI im)) den := gcd3_pos re im den h5
  go_enter Tryd.func49, Tryd.ntmps49
  go_wp2_with (first | (go_at_call 72; refine (size_any _ _ (by omega) (by omega)).mono ?_; rintro e w1 ⟨rfl, rfl⟩) | (go_at_call 71; refine (divisor_any _ _ _ (by omega) (by omega) (by omega) (by omega)).mono ?_; rintro e w1 ⟨rfl, n1, rfl⟩))
  go_region
  go_wp2_with (first | (go_at_call 67; refine (within_any _ _ _ _).mono ?_; rintro e w1 ⟨rfl, rfl⟩))
  all_goals refine bodyPost_ret (v := frb (lowI re im den)) (by first | rw [lowI_yes ‹_› ‹_› ‹_›] | rw [lowI_no1 ‹_›] | rw [lowI_no2 ‹_›] | rw [lowI_no3 ‹_›]
                                                                simp [results, Tryd.results49, go_sem]) rfl ⟨rfl, ?_⟩
  all_goals exact below_
end Go.Proofs.YtiagnnmnaakmoaaDoor
