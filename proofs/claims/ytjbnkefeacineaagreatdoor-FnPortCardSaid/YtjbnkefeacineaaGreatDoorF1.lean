/-
  The walk of FnPort (both ports together are one arm): it returns true, for all codes.
-/
import Derived.Test.YtjbnkefeacineaaGreatDoorEk
import Derived.Test.YtjbnkefeacineaaGreatDoorEe
import Derived.Test.YtjbnkefeacineaaGreatDoorEm
namespace Go.Proofs.YtjbnkefeacineaaGreatDoor
set_option linter.unusedSimpArgs false
set_option linter.unusedVariables false
open Go.RowKit
attribute [local go_sem ↓] Go.wp_at_zero Go.wp_at_succ
set_option maxRecDepth 100000 in
set_option maxHeartbeats 8000000 in
theorem fnPort_walk (A0 : Option Addr) (len cap : Nat) (w : World) (hby : Bytes A0 len cap w) (hGP : GP w) :
    Calls Tryz.prog 6 #[.slice A0 len cap] w fun e w' => e = .returned (.bool true) ∧ Below w.heap.size w w' := by
  have hcap := hby.2.1
  have hlc := hby.1
  by_cases hbig : 1048576 < len
  · have hd : decide ((1048576 : Int) < (len : Int)) = true := by simp; omega
    go_enter Tryz.func6, Tryz.ntmps6
    go_wp2
    go_ret
    exact ⟨rfl, by exact below_⟩
  have hd : decide ((1048576 : Int) < (len : Int)) = false := by simp; omega
  go_enter Tryz.func6, Tryz.ntmps6
  go_wp2_with (go_at_call 28; (with_reducible refine (drawPortVector_any A0 len cap _ hby).mono ?_); rintro e w1 ⟨a, b, k, v, s, rfl, hB, az, bz⟩; refine Hid.out ?_)
  refine Lib.hid ?_
  have ha2 : a.size ≤ 1048576 := by omega
  have hb2 : b.size ≤ 1048576 := by omega
  have hQ : BW w [(w1.heap.size, jc v, 26)] (w1.alloc (.cells #[.int .i64 v.x.re, .int .i64 v.x.im, .int .i64 v.x.den, .int .i64 v.y.re, .int .i64 v.y.im, .int .i64 v.y.den] 26)) := (BW.nil w).push hB (jc v) 26
  clear az bz hB hd hbig hcap hlc hby
  obtain ⟨X, p, hX⟩ : ∃ u_ p_, (portI a.data.toList b.data.toList k v s).getD Z6 = u_ ∧ (portI a.data.toList b.data.toList k v s).isSome = p_ := ⟨_, _, rfl, rfl⟩
  obtain ⟨Y, q, hY⟩ : ∃ u_ p_, (portI a.data.toList b.data.toList k v (!s)).getD Z6 = u_ ∧ (portI a.data.toList b.data.toList k v (!s)).isSome = p_ := ⟨_, _, rfl, rfl⟩
  obtain ⟨S, r, hS⟩ : ∃ u_ p_, (jaddI X Y).getD Z6 = u_ ∧ (jaddI X Y).isSome = p_ := ⟨_, _, rfl, rfl⟩
  obtain ⟨R, t, hR⟩ : ∃ u_ p_, (runI a.data.toList v).getD Z6 = u_ ∧ (runI a.data.toList v).isSome = p_ := ⟨_, _, rfl, rfl⟩
  have HL := Lib.hid (show p = true → q = true → r = true → t = true ∧ R = S by
    rintro rfl rfl rfl
    exact port_told hX hY hS hR)
  have HX := Lib.hid hX
  have HY := Lib.hid hY
  have HS := Lib.hid hS
  have HR := Lib.hid hR
  clear hX hY hS hR
  obtain ⟨cv0, cv1, cv2, cv3, cv4, cv5⟩ := (blk_j (a := v) (hQ.at (b := w1.heap.size) (cs := jc v) (t := 26) (by simp))).1
  go_wp2_with (go_at_call 29; (with_reducible refine (port_m a b k v s X p _ ha2 hb2 (hGP.below hQ.B) HX).mono ?_); rintro e w2 ⟨rfl, hb⟩; refine Hid.out ?_)
  refine Lib.hid ?_
  clear cv0 cv1 cv2 cv3 cv4 cv5
  have hQ : BW w [(w2.heap.size, jc X, 26), (w1.heap.size, jc v, 26)] (w2.alloc (.cells #[.int .i64 X.x.re, .int .i64 X.x.im, .int .i64 X.x.den, .int .i64 X.y.re, .int .i64 X.y.im, .int .i64 X.y.den] 26)) := hQ.push hb (jc X) 26
  clear hb
  obtain ⟨cv0, cv1, cv2, cv3, cv4, cv5⟩ := (blk_j (a := v) (hQ.at (b := w1.heap.size) (cs := jc v) (t := 26) (by simp))).1
  go_wp2_with (go_at_call 30; (with_reducible refine (sport_m a b k v s X p _ HX).mono ?_); rintro e w3 ⟨rfl, hb⟩; refine Hid.out ?_)
  refine Lib.hid ?_
  clear cv0 cv1 cv2 cv3 cv4 cv5
  have hQ : BW w [(w3.heap.size, jc X, 26), (w2.heap.size, jc X, 26), (w1.heap.size, jc v, 26)] (w3.alloc (.cells #[.int .i64 X.x.re, .int .i64 X.x.im, .int .i64 X.x.den, .int .i64 X.y.re, .int .i64 X.y.im, .int .i64 X.y.den] 26)) := hQ.push hb (jc X) 26
  clear hb
  obtain ⟨cv0, cv1, cv2, cv3, cv4, cv5⟩ := (blk_j (a := v) (hQ.at (b := w1.heap.size) (cs := jc v) (t := 26) (by simp))).1
  obtain ⟨cout0, cout1, cout2, cout3, cout4, cout5⟩ := (blk_j (a := X) (hQ.at (b := w2.heap.size) (cs := jc X) (t := 26) (by simp))).1
  obtain ⟨cwant0, cwant1, cwant2, cwant3, cwant4, cwant5⟩ := (blk_j (a := X) (hQ.at (b := w3.heap.size) (cs := jc X) (t := 26) (by simp))).1
  cases hcp : p
  · have hBF := hQ.B
    go_wp2
    go_ret
    exact ⟨rfl, by exact below_⟩
  go_wp2_with (go_at_call 29; (with_reducible refine (port_m a b k v (!s) Y q _ ha2 hb2 (hGP.below hQ.B) HY).mono ?_); rintro e w4 ⟨rfl, hb⟩; refine Hid.out ?_)
  refine Lib.hid ?_
  clear cv0 cv1 cv2 cv3 cv4 cv5 cout0 cout1 cout2 cout3 cout4 cout5 cwant0 cwant1 cwant2 cwant3 cwant4 cwant5
  have hQ : BW w [(w4.heap.size, jc Y, 26), (w3.heap.size, jc X, 26), (w2.heap.size, jc X, 26), (w1.heap.size, jc v, 26)] (w4.alloc (.cells #[.int .i64 Y.x.re, .int .i64 Y.x.im, .int .i64 Y.x.den, .int .i64 Y.y.re, .int .i64 Y.y.im, .int .i64 Y.y.den] 26)) := hQ.push hb (jc Y) 26
  clear hb
  obtain ⟨cout0, cout1, cout2, cout3, cout4, cout5⟩ := (blk_j (a := X) (hQ.at (b := w2.heap.size) (cs := jc X) (t := 26) (by simp))).1
  obtain ⟨cx0, cx1, cx2, cx3, cx4, cx5⟩ := (blk_j (a := Y) (hQ.at (b := w4.heap.size) (cs := jc Y) (t := 26) (by simp))).1
  go_wp2_with (go_at_call 31; (with_reducible refine (jadd_pm X Y S r _ HS).mono ?_); rintro e w5 ⟨rfl, hb⟩; refine Hid.out ?_)
  refine Lib.hid ?_
  clear cout0 cout1 cout2 cout3 cout4 cout5 cx0 cx1 cx2 cx3 cx4 cx5
  have hQ : BW w [(w5.heap.size, jc S, 26), (w4.heap.size, jc Y, 26), (w3.heap.size, jc X, 26), (w2.heap.size, jc X, 26), (w1.heap.size, jc v, 26)] (w5.alloc (.cells #[.int .i64 S.x.re, .int .i64 S.x.im, .int .i64 S.x.den, .int .i64 S.y.re, .int .i64 S.y.im, .int .i64 S.y.den] 26)) := hQ.push hb (jc S) 26
  clear hb
  obtain ⟨cv0, cv1, cv2, cv3, cv4, cv5⟩ := (blk_j (a := v) (hQ.at (b := w1.heap.size) (cs := jc v) (t := 26) (by simp))).1
  go_wp2_with (go_at_call 32; (with_reducible refine (run_m a v R t _ ha2 (hGP.below hQ.B) HR).mono ?_); rintro e w6 ⟨rfl, hb⟩; refine Hid.out ?_)
  refine Lib.hid ?_
  clear cv0 cv1 cv2 cv3 cv4 cv5
  have hQ : BW w [(w6.heap.size, jc R, 26), (w5.heap.size, jc S, 26), (w4.heap.size, jc Y, 26), (w3.heap.size, jc X, 26), (w2.heap.size, jc X, 26), (w1.heap.size, jc v, 26)] (w6.alloc (.cells #[.int .i64 R.x.re, .int .i64 R.x.im, .int .i64 R.x.den, .int .i64 R.y.re, .int .i64 R.y.im, .int .i64 R.y.den] 26)) := hQ.push hb (jc R) 26
  clear hb
  obtain ⟨csum0, csum1, csum2, csum3, csum4, csum5⟩ := (blk_j (a := S) (hQ.at (b := w5.heap.size) (cs := jc S) (t := 26) (by simp))).1
  obtain ⟨carm0, carm1, carm2, carm3, carm4, carm5⟩ := (blk_j (a := R) (hQ.at (b := w6.heap.size) (cs := jc R) (t := 26) (by simp))).1
  cases hcq : q
  · have hBF := hQ.B
    go_wp2
    go_ret
    exact ⟨rfl, by exact below_⟩
  cases hcr : r
  · have hBF := hQ.B
    go_wp2
    go_ret
    exact ⟨rfl, by exact below_⟩
  obtain ⟨h1, h2⟩ := HL.out hcp hcq hcr
  subst h1 h2
  have hBF := hQ.B
  go_wp2
  go_ret
  exact ⟨rfl, by exact below_⟩
end Go.Proofs.YtjbnkefeacineaaGreatDoor
