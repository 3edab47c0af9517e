/-
  The walk of FnPortKept (what is kept is told): it returns true, for all codes.
-/
import Derived.Test.YtjbnkefeacineaaGreatDoorEe
import Derived.Test.YtjbnkefeacineaaGreatDoorEm
namespace Go.Proofs.YtjbnkefeacineaaGreatDoor
set_option linter.unusedSimpArgs false
set_option linter.unusedVariables false
open Go.RowKit
attribute [local go_sem ↓] Go.wp_at_zero Go.wp_at_succ
set_option maxRecDepth 100000 in
set_option maxHeartbeats 8000000 in
theorem fnPortKept_walk (A0 : Option Addr) (len cap : Nat) (w : World) (hby : Bytes A0 len cap w) (hGP : GP w) :
    Calls Tryz.prog 11 #[.slice A0 len cap] w fun e w' => e = .returned (.bool true) ∧ Below w.heap.size w w' := by
  have hcap := hby.2.1
  have hlc := hby.1
  by_cases hbig : 1048576 < len
  · have hd : decide ((1048576 : Int) < (len : Int)) = true := by simp; omega
    go_enter Tryz.func11, Tryz.ntmps11
    go_wp2
    go_ret
    exact ⟨rfl, by exact below_⟩
  have hd : decide ((1048576 : Int) < (len : Int)) = false := by simp; omega
  go_enter Tryz.func11, Tryz.ntmps11
  go_wp2_with (go_at_call 43; (with_reducible refine (drawPortKeeps_any A0 len cap _ hby).mono ?_); rintro e w1 ⟨a, b, k, v, rfl, hB, az, bz⟩; refine Hid.out ?_)
  refine Lib.hid ?_
  have ha2 : a.size ≤ 1048576 := by omega
  have hb2 : b.size ≤ 1048576 := by omega
  have hQ : BW w [(w1.heap.size, jc v, 26)] (w1.alloc (.cells #[.int .i64 v.x.re, .int .i64 v.x.im, .int .i64 v.x.den, .int .i64 v.y.re, .int .i64 v.y.im, .int .i64 v.y.den] 26)) := (BW.nil w).push hB (jc v) 26
  clear az bz hB hd hbig hcap hlc hby
  obtain ⟨R, hR⟩ : ∃ R, keepsI a.data.toList b.data.toList k v = R := ⟨_, rfl⟩
  have HR := Lib.hid hR
  clear hR
  obtain ⟨cv0, cv1, cv2, cv3, cv4, cv5⟩ := (blk_j (a := v) (hQ.at (b := w1.heap.size) (cs := jc v) (t := 26) (by simp))).1
  go_wp2_with (go_at_call 37; (with_reducible refine (keeps_m a b k v R _ ha2 hb2 (hGP.below hQ.B) HR).mono ?_); rintro e w2 ⟨rfl, hb⟩; refine Hid.out ?_)
  refine Lib.hid ?_
  clear cv0 cv1 cv2 cv3 cv4 cv5
  have hQ := hQ.step hb
  clear hb
  obtain ⟨cv0, cv1, cv2, cv3, cv4, cv5⟩ := (blk_j (a := v) (hQ.at (b := w1.heap.size) (cs := jc v) (t := 26) (by simp))).1
  go_wp2_with (go_at_call 44; (with_reducible refine (skeeps_m a b k v R _ HR).mono ?_); rintro e w3 ⟨rfl, hb⟩; refine Hid.out ?_)
  refine Lib.hid ?_
  clear cv0 cv1 cv2 cv3 cv4 cv5
  have hQ := hQ.step hb
  clear hb
  obtain ⟨cv0, cv1, cv2, cv3, cv4, cv5⟩ := (blk_j (a := v) (hQ.at (b := w1.heap.size) (cs := jc v) (t := 26) (by simp))).1
  cases hcR : R
  · have hBF := hQ.B
    go_wp2
    go_ret
    exact ⟨rfl, by exact below_⟩
  obtain ⟨A, B, ok, hP⟩ : ∃ A B ok, pw1 (powersI a.data.toList b.data.toList k v) = A ∧ pw2 (powersI a.data.toList b.data.toList k v) = B ∧ (powersI a.data.toList b.data.toList k v).isSome = ok := ⟨_, _, _, rfl, rfl, rfl⟩
  have hkt2 := kept_told (HR.out.trans hcR)
  have hcok : ok = true := hP.2.2.symm.trans hkt2.1
  have HN := Lib.hid hkt2.2
  clear hkt2
  have HP := Lib.hid hP
  clear hP
  have hkr := Lib.hid (ph_cases (powers_val (pw_some (ok_at HP.out hcok))).1)
  obtain ⟨k1, hk1⟩ : ∃ x, (k + 1) % 4 = x := ⟨_, rfl⟩
  have hk0 : 0 ≤ k ∧ k ≤ 3 := by rcases hkr.out with h | h | h | h <;> omega
  have hkw : IntKind.i64.wrap (k + 1) = k + 1 := IntWalk.i64_in _ (by omega)
  have hkx : wrap64 (k + 1) = k + 1 := by unfold wrap64; omega
  have hkt : Int.tmod (k + 1) 4 = k1 := by rw [← hk1]; exact Int.tmod_eq_emod_of_nonneg (by omega)
  have hk3 : 0 ≤ k1 ∧ k1 ≤ 3 := by omega
  have hky : IntKind.i64.wrap k1 = k1 := IntWalk.i64_in _ (by omega)
  have hkz : wrap64 k1 = k1 := by unfold wrap64; omega
  obtain ⟨C, D, g, hC⟩ : ∃ A B ok, pw1 (powersI a.data.toList b.data.toList k1 v) = A ∧ pw2 (powersI a.data.toList b.data.toList k1 v) = B ∧ (powersI a.data.toList b.data.toList k1 v).isSome = ok := ⟨_, _, _, rfl, rfl, rfl⟩
  obtain ⟨U, u, hU⟩ : ∃ u_ p_, (addI C D).getD Z3 = u_ ∧ (addI C D).isSome = p_ := ⟨_, _, rfl, rfl⟩
  have HC := Lib.hid hC
  have HU := Lib.hid hU
  clear hC hU
  clear hk1 hk3 hk0
  go_wp2_with (go_at_call 20; (with_reducible refine (powers_any a b k v _ ha2 hb2 (hGP.below hQ.B) A B ok HP).mono ?_); rintro e w4 ⟨rfl, hb⟩; refine Hid.out ?_)
  refine Lib.hid ?_
  clear cv0 cv1 cv2 cv3 cv4 cv5
  have hQ : BW w [(w4.heap.size + 1, frc B, 24), (w4.heap.size, frc A, 24), (w1.heap.size, jc v, 26)] ((w4.alloc (.cells #[.int .i64 A.re, .int .i64 A.im, .int .i64 A.den] 24)).alloc (.cells #[.int .i64 B.re, .int .i64 B.im, .int .i64 B.den] 24)) := by
    have h := (hQ.push hb (frc A) 24).push (Below.refl _ _) (frc B) 24
    rw [World.size_alloc] at h
    exact h
  clear hb
  obtain ⟨cv0, cv1, cv2, cv3, cv4, cv5⟩ := (blk_j (a := v) (hQ.at (b := w1.heap.size) (cs := jc v) (t := 26) (by simp))).1
  go_wp2_with (go_at_call 20; (with_reducible refine (powers_any a b k1 v _ ha2 hb2 (hGP.below hQ.B) C D g HC).mono ?_); rintro e w5 ⟨rfl, hb⟩; refine Hid.out ?_)
  refine Lib.hid ?_
  clear cv0 cv1 cv2 cv3 cv4 cv5
  have hQ : BW w [(w5.heap.size + 1, frc D, 24), (w5.heap.size, frc C, 24), (w4.heap.size + 1, frc B, 24), (w4.heap.size, frc A, 24), (w1.heap.size, jc v, 26)] ((w5.alloc (.cells #[.int .i64 C.re, .int .i64 C.im, .int .i64 C.den] 24)).alloc (.cells #[.int .i64 D.re, .int .i64 D.im, .int .i64 D.den] 24)) := by
    have h := (hQ.push hb (frc C) 24).push (Below.refl _ _) (frc D) 24
    rw [World.size_alloc] at h
    exact h
  clear hb
  obtain ⟨cx0, cx1, cx2⟩ := blk_fr0 (f := C) (hQ.at (b := w5.heap.size) (cs := frc C) (t := 24) (by simp))
  obtain ⟨cy0, cy1, cy2⟩ := blk_fr0 (f := D) (hQ.at (b := w5.heap.size + 1) (cs := frc D) (t := 24) (by simp))
  go_wp2_with (go_at_call 36; (with_reducible refine (add_m C D U u _ HU).mono ?_); rintro e w6 ⟨rfl, hb⟩; refine Hid.out ?_)
  refine Lib.hid ?_
  clear cx0 cx1 cx2 cy0 cy1 cy2
  have hQ : BW w [(w6.heap.size, frc U, 24), (w5.heap.size + 1, frc D, 24), (w5.heap.size, frc C, 24), (w4.heap.size + 1, frc B, 24), (w4.heap.size, frc A, 24), (w1.heap.size, jc v, 26)] (w6.alloc (.cells #[.int .i64 U.re, .int .i64 U.im, .int .i64 U.den] 24)) := hQ.push hb (frc U) 24
  clear hb
  subst hcok
  cases hcg : g
  · have hBF := hQ.B
    go_wp2
    go_ret
    exact ⟨rfl, by exact below_⟩
  cases hcu : u
  · have hBF := hQ.B
    go_wp2
    go_ret
    exact ⟨rfl, by exact below_⟩
  have HK := Lib.hid (show keepsI a.data.toList b.data.toList k1 v = true from keeps_told (ok_at HC.out hcg) HN.out (HU.out.2.trans hcu))
  obtain ⟨cv0, cv1, cv2, cv3, cv4, cv5⟩ := (blk_j (a := v) (hQ.at (b := w1.heap.size) (cs := jc v) (t := 26) (by simp))).1
  go_wp2_with (go_at_call 37; (with_reducible refine (keeps_m a b k1 v true _ ha2 hb2 (hGP.below hQ.B) HK).mono ?_); rintro e w7 ⟨rfl, hb⟩; refine Hid.out ?_)
  refine Lib.hid ?_
  clear cv0 cv1 cv2 cv3 cv4 cv5
  have hQ := hQ.step hb
  clear hb
  have hBF := hQ.B
  go_wp2
  go_ret
  exact ⟨rfl, by exact below_⟩
end Go.Proofs.YtjbnkefeacineaaGreatDoor
