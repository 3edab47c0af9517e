/-
  The walks of the drawers of two benches, a phase and a vector: any two short texts, some phase, any vector.
-/
import Derived.Test.YtjbnkefeacineaaGreatDoorJd
import Derived.Test.YtjbnkefeacineaaGreatDoorDw
import Derived.Test.YtjbnkefeacineaaGreatDoorEj
import Derived.IntWalk
namespace Go.Proofs.YtjbnkefeacineaaGreatDoor
set_option linter.unusedSimpArgs false
set_option linter.unusedVariables false
open Go.RowKit
attribute [local go_sem ↓] Go.wp_at_zero Go.wp_at_succ
theorem itoa_tiny {n : Int} (h : -9 ≤ n ∧ n ≤ 9) : (⟨(Lib.itoa n).toArray⟩ : ByteArray).size ≤ 2 := by
  have h : n = -9 ∨ n = -8 ∨ n = -7 ∨ n = -6 ∨ n = -5 ∨ n = -4 ∨ n = -3 ∨ n = -2 ∨ n = -1 ∨ n = 0 ∨ n = 1 ∨ n = 2 ∨ n = 3 ∨ n = 4 ∨ n = 5 ∨ n = 6 ∨ n = 7 ∨ n = 8 ∨ n = 9 := by omega
  rcases h with rfl | rfl | rfl | rfl | rfl | rfl | rfl | rfl | rfl | rfl | rfl | rfl | rfl | rfl | rfl | rfl | rfl | rfl | rfl <;> decide +kernel
theorem bsize1 (x : UInt8) : (ByteArray.mk #[x]).size = 1 := rfl
theorem dec_small (n : Int) (h : -9 ≤ n ∧ n ≤ 9) (w : World) : Calls Tryz.prog 141 #[.int .i64 n] w fun e w' => ∃ s : ByteArray, e = .returned (.string s) ∧ s.size ≤ 2 ∧ Below w.heap.size w w' :=
  (sdec_any n (by omega) w).mono fun e w' ⟨h1, h2⟩ => ⟨_, h1, itoa_tiny h, h2⟩
set_option maxRecDepth 100000 in
set_option maxHeartbeats 4000000 in
theorem dpiece_any (br : Nat) (w : World) (hr : RdEx 8 w br) :
    Calls Tryz.prog 117 #[.pointer (some ⟨br, 0, none⟩), .bool false] w fun e w' => ∃ s : ByteArray, e = .returned (.string s) ∧ Drw 8 br w w' ∧ s.size ≤ 20 := by
  obtain ⟨k0, hr0, hmin, hk0⟩ := hr.min
  have hX0 := BelX.refl w.heap.size br w
  clear hr
  go_enter Tryz.func117, Tryz.ntmps117
  go_wp2_with (go_at_call 66; (with_reducible refine (pick_any 5 br _ (RdEx.of hr0 (by omega)) (by omega) (by omega)).mono ?_); rintro e w1 ⟨x, rfl, ⟨hu, hx⟩, x0, x1⟩; refine Hid.out ?_)
  refine Lib.hid ?_
  have hr1 := hu _ hr0
  have hX1 := BelX.step hX0 hx hX0.size
  clear hu hx hr0 hX0
  have e1 : IntKind.i64.wrap (x - 2) = x - 2 := IntWalk.i64_in _ (by omega)
  have e2 : wrap64 (x - 2) = x - 2 := by unfold wrap64; omega
  go_wp2_with (go_at_call 141; (with_reducible refine (dec_small (x - 2) (by omega) _).mono ?_); rintro e w2 ⟨p, rfl, pz, hb⟩; refine Hid.out ?_)
  refine Lib.hid ?_
  have hr2 := hr1.below hb hr1.lt
  have hX2 := BelX.step hX1 (BelX.of hb) hX1.size
  clear hb hr1 hX1
  clear e1 e2
  go_wp2_with (go_at_call 66; (with_reducible refine (pick_any 2 br _ (RdEx.of hr2 (by omega)) (by omega) (by omega)).mono ?_); rintro e w3 ⟨y, rfl, ⟨hu, hx⟩, y0, y1⟩; refine Hid.out ?_)
  refine Lib.hid ?_
  have hr3 := hu _ hr2
  have hX3 := BelX.step hX2 hx hX2.size
  clear hu hx hr2 hX2
  have e1 : IntKind.i64.wrap (1 + y) = 1 + y := IntWalk.i64_in _ (by omega)
  have e2 : wrap64 (1 + y) = 1 + y := by unfold wrap64; omega
  go_wp2_with (go_at_call 141; (with_reducible refine (dec_small (1 + y) (by omega) _).mono ?_); rintro e w4 ⟨q, rfl, qz, hb⟩; refine Hid.out ?_)
  refine Lib.hid ?_
  have hr4 := hr3.below hb hr3.lt
  have hX4 := BelX.step hX3 (BelX.of hb) hX3.size
  clear hb hr3 hX3
  clear e1 e2
  go_wp2_with (go_at_call 66; (with_reducible refine (pick_any 5 br _ (RdEx.of hr4 (by omega)) (by omega) (by omega)).mono ?_); rintro e w5 ⟨c, rfl, ⟨hu, hx⟩, c0, c1⟩; refine Hid.out ?_)
  refine Lib.hid ?_
  have hr5 := hu _ hr4
  have hX5 := BelX.step hX4 hx hX4.size
  clear hu hx hr4 hX4
  rcases (show c = 0 ∨ c = 1 ∨ c = 2 ∨ c = 3 ∨ c = 4 by omega) with rfl | rfl | rfl | rfl | rfl
  · go_wp2
    go_ret
    exact ⟨_, rfl, drw_mk hmin (hr5.mono (by omega)) hX5, by simp [ByteArray.size_append, bsize1]; omega⟩
  · go_wp2_with (go_at_call 66; (with_reducible refine (pick_any 4 br _ (RdEx.of hr5 (by omega)) (by omega) (by omega)).mono ?_); rintro e w6 ⟨z, rfl, ⟨hu, hx⟩, z0, z1⟩; refine Hid.out ?_)
    refine Lib.hid ?_
    have hr6 := hu _ hr5
    have hX6 := BelX.step hX5 hx hX5.size
    clear hu hx hr5 hX5
    go_wp2_with (go_at_call 141; (with_reducible refine (dec_small (z) (by omega) _).mono ?_); rintro e w7 ⟨s, rfl, sz, hb⟩; refine Hid.out ?_)
    refine Lib.hid ?_
    have hr7 := hr6.below hb hr6.lt
    have hX7 := BelX.step hX6 (BelX.of hb) hX6.size
    clear hb hr6 hX6
    go_wp2
    go_ret
    exact ⟨_, rfl, drw_mk hmin (hr7.mono (by omega)) hX7, by simp [ByteArray.size_append, bsize1]; omega⟩
  · go_wp2_with (go_at_call 66; (with_reducible refine (pick_any 4 br _ (RdEx.of hr5 (by omega)) (by omega) (by omega)).mono ?_); rintro e w6 ⟨z, rfl, ⟨hu, hx⟩, z0, z1⟩; refine Hid.out ?_)
    refine Lib.hid ?_
    have hr6 := hu _ hr5
    have hX6 := BelX.step hX5 hx hX5.size
    clear hu hx hr5 hX5
    go_wp2_with (go_at_call 141; (with_reducible refine (dec_small (z) (by omega) _).mono ?_); rintro e w7 ⟨s, rfl, sz, hb⟩; refine Hid.out ?_)
    refine Lib.hid ?_
    have hr7 := hr6.below hb hr6.lt
    have hX7 := BelX.step hX6 (BelX.of hb) hX6.size
    clear hb hr6 hX6
    go_wp2
    go_ret
    exact ⟨_, rfl, drw_mk hmin (hr7.mono (by omega)) hX7, by simp [ByteArray.size_append, bsize1]; omega⟩
  · go_wp2
    go_ret
    exact ⟨_, rfl, drw_mk hmin (hr5.mono (by omega)) hX5, by simp [ByteArray.size_append, bsize1]; omega⟩
  · go_wp2_with (go_at_call 66; (with_reducible refine (pick_any 4 br _ (RdEx.of hr5 (by omega)) (by omega) (by omega)).mono ?_); rintro e w6 ⟨z, rfl, ⟨hu, hx⟩, z0, z1⟩; refine Hid.out ?_)
    refine Lib.hid ?_
    have hr6 := hu _ hr5
    have hX6 := BelX.step hX5 hx hX5.size
    clear hu hx hr5 hX5
    have e1 : IntKind.i64.wrap (1 + z) = 1 + z := IntWalk.i64_in _ (by omega)
    have e2 : wrap64 (1 + z) = 1 + z := by unfold wrap64; omega
    have e3 : IntKind.i64.wrap (1 + z + 1) = 1 + z + 1 := IntWalk.i64_in _ (by omega)
    have e4 : wrap64 (1 + z + 1) = 1 + z + 1 := by unfold wrap64; omega
    go_wp2_with (go_at_call 66; (with_reducible refine (pick_any (1 + z + 1) br _ (RdEx.of hr6 (by omega)) (by omega) (by omega)).mono ?_); rintro e w7 ⟨u, rfl, ⟨hu, hx⟩, u0, u1⟩; refine Hid.out ?_)
    refine Lib.hid ?_
    have hr7 := hu _ hr6
    have hX7 := BelX.step hX6 hx hX6.size
    clear hu hx hr6 hX6
    go_wp2_with (go_at_call 141; (with_reducible refine (dec_small (u) (by omega) _).mono ?_); rintro e w8 ⟨s, rfl, sz, hb⟩; refine Hid.out ?_)
    refine Lib.hid ?_
    have hr8 := hr7.below hb hr7.lt
    have hX8 := BelX.step hX7 (BelX.of hb) hX7.size
    clear hb hr7 hX7
    go_wp2_with (go_at_call 141; (with_reducible refine (dec_small (1 + z) (by omega) _).mono ?_); rintro e w9 ⟨t, rfl, tz, hb⟩; refine Hid.out ?_)
    refine Lib.hid ?_
    have hr9 := hr8.below hb hr8.lt
    have hX9 := BelX.step hX8 (BelX.of hb) hX8.size
    clear hb hr8 hX8
    go_wp2
    go_ret
    exact ⟨_, rfl, drw_mk hmin (hr9.mono (by omega)) hX9, by simp [ByteArray.size_append, bsize1]; omega⟩
end Go.Proofs.YtjbnkefeacineaaGreatDoor
