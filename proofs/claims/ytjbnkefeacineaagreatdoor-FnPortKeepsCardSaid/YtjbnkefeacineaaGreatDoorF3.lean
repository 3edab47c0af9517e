/-
  The walk of FnPortKeeps (no energy is made at ports): it returns true, for all codes.
-/
import Derived.Test.YtjbnkefeacineaaGreatDoorEe
import Derived.Test.YtjbnkefeacineaaGreatDoorEm
namespace Go.Proofs.YtjbnkefeacineaaGreatDoor
set_option linter.unusedSimpArgs false
set_option linter.unusedVariables false
open Go.RowKit
attribute [local go_sem ↓] Go.wp_at_zero Go.wp_at_succ
set_option maxRecDepth 100000 in
set_option maxHeartbeats 8000000 in
theorem fnPortKeeps_walk (A0 : Option Addr) (len cap : Nat) (w : World) (hby : Bytes A0 len cap w) (hGP : GP w) :
    Calls Tryz.prog 8 #[.slice A0 len cap] w fun e w' => e = .returned (.bool true) ∧ Below w.heap.size w w' := by
  have hcap := hby.2.1
  have hlc := hby.1
  by_cases hbig : 1048576 < len
  · have hd : decide ((1048576 : Int) < (len : Int)) = true := by simp; omega
    go_enter Tryz.func8, Tryz.ntmps8
    go_wp2
    go_ret
    exact ⟨rfl, by exact below_⟩
  have hd : decide ((1048576 : Int) < (len : Int)) = false := by simp; omega
  go_enter Tryz.func8, Tryz.ntmps8
  go_wp2_with (go_at_call 33; (with_reducible refine (drawPortPowers_any A0 len cap _ hby).mono ?_); rintro e w1 ⟨a, b, k, v, rfl, hB, az, bz⟩; refine Hid.out ?_)
  refine Lib.hid ?_
  have ha2 : a.size ≤ 1048576 := by omega
  have hb2 : b.size ≤ 1048576 := by omega
  have hQ : BW w [(w1.heap.size, jc v, 26)] (w1.alloc (.cells #[.int .i64 v.x.re, .int .i64 v.x.im, .int .i64 v.x.den, .int .i64 v.y.re, .int .i64 v.y.im, .int .i64 v.y.den] 26)) := (BW.nil w).push hB (jc v) 26
  clear az bz hB hd hbig hcap hlc hby
  obtain ⟨A, B, ok, hP⟩ : ∃ A B ok, pw1 (powersI a.data.toList b.data.toList k v) = A ∧ pw2 (powersI a.data.toList b.data.toList k v) = B ∧ (powersI a.data.toList b.data.toList k v).isSome = ok := ⟨_, _, _, rfl, rfl, rfl⟩
  have HP := Lib.hid hP
  clear hP
  obtain ⟨N, s, hN⟩ : ∃ u_ p_, (jpowerI v).getD Z3 = u_ ∧ (jpowerI v).isSome = p_ := ⟨_, _, rfl, rfl⟩
  obtain ⟨U, u, hU⟩ : ∃ u_ p_, (addI A B).getD Z3 = u_ ∧ (addI A B).isSome = p_ := ⟨_, _, rfl, rfl⟩
  have HN := Lib.hid hN
  have HU := Lib.hid hU
  clear hN hU
  obtain ⟨cv0, cv1, cv2, cv3, cv4, cv5⟩ := (blk_j (a := v) (hQ.at (b := w1.heap.size) (cs := jc v) (t := 26) (by simp))).1
  go_wp2_with (go_at_call 20; (with_reducible refine (powers_any a b k v _ ha2 hb2 (hGP.below hQ.B) A B ok HP).mono ?_); rintro e w2 ⟨rfl, hb⟩; refine Hid.out ?_)
  refine Lib.hid ?_
  clear cv0 cv1 cv2 cv3 cv4 cv5
  have hQ : BW w [(w2.heap.size + 1, frc B, 24), (w2.heap.size, frc A, 24), (w1.heap.size, jc v, 26)] ((w2.alloc (.cells #[.int .i64 A.re, .int .i64 A.im, .int .i64 A.den] 24)).alloc (.cells #[.int .i64 B.re, .int .i64 B.im, .int .i64 B.den] 24)) := by
    have h := (hQ.push hb (frc A) 24).push (Below.refl _ _) (frc B) 24
    rw [World.size_alloc] at h
    exact h
  clear hb
  obtain ⟨cv0, cv1, cv2, cv3, cv4, cv5⟩ := (blk_j (a := v) (hQ.at (b := w1.heap.size) (cs := jc v) (t := 26) (by simp))).1
  go_wp2_with (go_at_call 34; (with_reducible refine (spowers_any a b k v _ A B ok HP).mono ?_); rintro e w3 ⟨rfl, hb⟩; refine Hid.out ?_)
  refine Lib.hid ?_
  clear cv0 cv1 cv2 cv3 cv4 cv5
  have hQ : BW w [(w3.heap.size + 1, frc B, 24), (w3.heap.size, frc A, 24), (w2.heap.size + 1, frc B, 24), (w2.heap.size, frc A, 24), (w1.heap.size, jc v, 26)] ((w3.alloc (.cells #[.int .i64 A.re, .int .i64 A.im, .int .i64 A.den] 24)).alloc (.cells #[.int .i64 B.re, .int .i64 B.im, .int .i64 B.den] 24)) := by
    have h := (hQ.push hb (frc A) 24).push (Below.refl _ _) (frc B) 24
    rw [World.size_alloc] at h
    exact h
  clear hb
  obtain ⟨cv0, cv1, cv2, cv3, cv4, cv5⟩ := (blk_j (a := v) (hQ.at (b := w1.heap.size) (cs := jc v) (t := 26) (by simp))).1
  obtain ⟨cout0, cout1, cout2⟩ := blk_fr0 (f := A) (hQ.at (b := w2.heap.size) (cs := frc A) (t := 24) (by simp))
  obtain ⟨cgot0, cgot1, cgot2⟩ := blk_fr0 (f := B) (hQ.at (b := w2.heap.size + 1) (cs := frc B) (t := 24) (by simp))
  obtain ⟨cwant0, cwant1, cwant2⟩ := blk_fr0 (f := A) (hQ.at (b := w3.heap.size) (cs := frc A) (t := 24) (by simp))
  obtain ⟨cdue0, cdue1, cdue2⟩ := blk_fr0 (f := B) (hQ.at (b := w3.heap.size + 1) (cs := frc B) (t := 24) (by simp))
  cases hcok : ok
  · have hBF := hQ.B
    go_wp2
    go_ret
    exact ⟨rfl, by exact below_⟩
  go_wp2_with (go_at_call 35; (with_reducible refine (jpowerX_m v N s _ HN).mono ?_); rintro e w4 ⟨rfl, hb⟩; refine Hid.out ?_)
  refine Lib.hid ?_
  clear cv0 cv1 cv2 cv3 cv4 cv5 cout0 cout1 cout2 cgot0 cgot1 cgot2 cwant0 cwant1 cwant2 cdue0 cdue1 cdue2
  have hQ : BW w [(w4.heap.size, frc N, 24), (w3.heap.size + 1, frc B, 24), (w3.heap.size, frc A, 24), (w2.heap.size + 1, frc B, 24), (w2.heap.size, frc A, 24), (w1.heap.size, jc v, 26)] (w4.alloc (.cells #[.int .i64 N.re, .int .i64 N.im, .int .i64 N.den] 24)) := hQ.push hb (frc N) 24
  clear hb
  obtain ⟨cout0, cout1, cout2⟩ := blk_fr0 (f := A) (hQ.at (b := w2.heap.size) (cs := frc A) (t := 24) (by simp))
  obtain ⟨cgot0, cgot1, cgot2⟩ := blk_fr0 (f := B) (hQ.at (b := w2.heap.size + 1) (cs := frc B) (t := 24) (by simp))
  go_wp2_with (go_at_call 36; (with_reducible refine (add_m A B U u _ HU).mono ?_); rintro e w5 ⟨rfl, hb⟩; refine Hid.out ?_)
  refine Lib.hid ?_
  clear cout0 cout1 cout2 cgot0 cgot1 cgot2
  have hQ : BW w [(w5.heap.size, frc U, 24), (w4.heap.size, frc N, 24), (w3.heap.size + 1, frc B, 24), (w3.heap.size, frc A, 24), (w2.heap.size + 1, frc B, 24), (w2.heap.size, frc A, 24), (w1.heap.size, jc v, 26)] (w5.alloc (.cells #[.int .i64 U.re, .int .i64 U.im, .int .i64 U.den] 24)) := hQ.push hb (frc U) 24
  clear hb
  cases hcs : s
  · have hBF := hQ.B
    go_wp2
    go_ret
    exact ⟨rfl, by exact below_⟩
  cases hcu : u
  · have hBF := hQ.B
    go_wp2
    go_ret
    exact ⟨rfl, by exact below_⟩
  have HK := Lib.hid (show keepsI a.data.toList b.data.toList k v = true from keeps_told (ok_at HP.out hcok) (HN.out.2.trans hcs) (HU.out.2.trans hcu))
  obtain ⟨cv0, cv1, cv2, cv3, cv4, cv5⟩ := (blk_j (a := v) (hQ.at (b := w1.heap.size) (cs := jc v) (t := 26) (by simp))).1
  go_wp2_with (go_at_call 37; (with_reducible refine (keeps_m a b k v true _ ha2 hb2 (hGP.below hQ.B) HK).mono ?_); rintro e w6 ⟨rfl, hb⟩; refine Hid.out ?_)
  refine Lib.hid ?_
  clear cv0 cv1 cv2 cv3 cv4 cv5
  have hQ := hQ.step hb
  clear hb
  have hBF := hQ.B
  go_wp2
  go_ret
  exact ⟨rfl, by exact below_⟩
end Go.Proofs.YtjbnkefeacineaaGreatDoor
