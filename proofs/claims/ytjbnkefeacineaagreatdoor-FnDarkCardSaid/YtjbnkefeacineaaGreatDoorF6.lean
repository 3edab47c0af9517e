/-
  The walk of FnDark (where it is dark nothing leaves): it returns true, for all codes.
-/
import Derived.Test.YtjbnkefeacineaaGreatDoorEe
import Derived.Test.YtjbnkefeacineaaGreatDoorEm
import Derived.Test.YtjbnkefeacineaaGreatDoorEu
namespace Go.Proofs.YtjbnkefeacineaaGreatDoor
set_option linter.unusedSimpArgs false
set_option linter.unusedVariables false
open Go.RowKit
attribute [local go_sem ↓] Go.wp_at_zero Go.wp_at_succ
set_option maxRecDepth 100000 in
set_option maxHeartbeats 8000000 in
theorem fnDark_walk (A0 : Option Addr) (len cap : Nat) (w : World) (hby : Bytes A0 len cap w) (hGP : GP w) :
    Calls Tryz.prog 9 #[.slice A0 len cap] w fun e w' => e = .returned (.bool true) ∧ Below w.heap.size w w' := by
  have hcap := hby.2.1
  have hlc := hby.1
  by_cases hbig : 1048576 < len
  · have hd : decide ((1048576 : Int) < (len : Int)) = true := by simp; omega
    go_enter Tryz.func9, Tryz.ntmps9
    go_wp2
    go_ret
    exact ⟨rfl, by exact below_⟩
  have hd : decide ((1048576 : Int) < (len : Int)) = false := by simp; omega
  go_enter Tryz.func9, Tryz.ntmps9
  go_wp2_with (go_at_call 38; (with_reducible refine (drawPortDark_any A0 len cap _ hby).mono ?_); rintro e w1 ⟨a, b, v, rfl, hB, az, bz⟩; refine Hid.out ?_)
  refine Lib.hid ?_
  have ha2 : a.size ≤ 1048576 := by omega
  have hb2 : b.size ≤ 1048576 := by omega
  have hQ : BW w [(w1.heap.size, jc v, 26)] (w1.alloc (.cells #[.int .i64 v.x.re, .int .i64 v.x.im, .int .i64 v.x.den, .int .i64 v.y.re, .int .i64 v.y.im, .int .i64 v.y.den] 26)) := (BW.nil w).push hB (jc v) 26
  clear az bz hB hd hbig hcap hlc hby
  obtain ⟨R, hR⟩ : ∃ R, darkI a.data.toList b.data.toList v = R := ⟨_, rfl⟩
  have HR := Lib.hid hR
  clear hR
  obtain ⟨cv0, cv1, cv2, cv3, cv4, cv5⟩ := (blk_j (a := v) (hQ.at (b := w1.heap.size) (cs := jc v) (t := 26) (by simp))).1
  go_wp2_with (go_at_call 27; (with_reducible refine (darkP_m a b v R _ ha2 hb2 (hGP.below hQ.B) HR).mono ?_); rintro e w2 ⟨rfl, hb⟩; refine Hid.out ?_)
  refine Lib.hid ?_
  clear cv0 cv1 cv2 cv3 cv4 cv5
  have hQ := hQ.step hb
  clear hb
  obtain ⟨cv0, cv1, cv2, cv3, cv4, cv5⟩ := (blk_j (a := v) (hQ.at (b := w1.heap.size) (cs := jc v) (t := 26) (by simp))).1
  go_wp2_with (go_at_call 39; (with_reducible refine (sdark_m a b v R _ HR).mono ?_); rintro e w3 ⟨rfl, hb⟩; refine Hid.out ?_)
  refine Lib.hid ?_
  clear cv0 cv1 cv2 cv3 cv4 cv5
  have hQ := hQ.step hb
  clear hb
  obtain ⟨cv0, cv1, cv2, cv3, cv4, cv5⟩ := (blk_j (a := v) (hQ.at (b := w1.heap.size) (cs := jc v) (t := 26) (by simp))).1
  cases hcR : R
  · have hBF := hQ.B
    go_wp2
    go_ret
    exact ⟨rfl, by exact below_⟩
  obtain ⟨fs, hfs, hany⟩ := dark_told (HR.out.trans hcR)
  have hln := (fringes_real hfs).1
  have HF : Hid ((fringesI a.data.toList b.data.toList v).getD [] = fs ∧ (fringesI a.data.toList b.data.toList v).isSome = true) := Lib.hid (by rw [hfs]; exact ⟨rfl, rfl⟩)
  obtain ⟨gs, q, hg⟩ : ∃ gs q, (fringesI b.data.toList a.data.toList v).getD [] = gs ∧ (fringesI b.data.toList a.data.toList v).isSome = q := ⟨_, _, rfl, rfl⟩
  have HG := Lib.hid hg
  have HB := Lib.hid (show q = true → darkI b.data.toList a.data.toList v = true from fun hq => dark_back (HR.out.trans hcR) (hg.2.trans hq))
  have HAN := Lib.hid hany
  have HLN := Lib.hid hln
  clear hg hfs hany hln hcR
  go_wp2_with (go_at_call 15; (with_reducible refine (fringes_m a b v fs true _ ha2 hb2 (hGP.below hQ.B) HF).mono ?_); rintro e w4 ⟨lv, rfl, hO, hb⟩; refine Hid.out ?_)
  refine Lib.hid ?_
  clear cv0 cv1 cv2 cv3 cv4 cv5
  have hQ := hQ.step hb
  clear hb
  obtain ⟨A1, c1, hv1, hF1⟩ := hO.frs
  subst hv1
  rw [HLN.out] at hF1 ⊢
  have hcap := hF1.2.1
  have hcm := hF1.2.2.1
  have HF1 := Lib.hid hF1
  clear hO hF1
  go_wp2
  go_loopw [10, 11] (fun tv iv wr => ∃ (k : Nat) (t : Bool), k ≤ 4 ∧ iv = .int .i64 k ∧ tv = .bool t ∧ Hid ((fs.take k).any (fun f => decide (f.re = 0)) = t) ∧ Below w4.heap.size w4 wr) (fun _ iv _ => 4 - (intOf iv).toNat)
  case atStart => exact ⟨0, false, by omega, rfl, rfl, Lib.hid rfl, Below.refl _ _⟩
  case round =>
    obtain ⟨k, t, hk, rfl, rfl, hno, hb⟩ := hrel
    have hzv := hb.size
    have hQr := hQ.step hb
    have hkw : IntKind.i64.wrap ((k : Int) + 1) = (k : Int) + 1 := IntWalk.i64_in _ (by omega)
    by_cases hkl : k < 4
    · obtain ⟨bb, off, s, rfl, hbb, hs, c0, c1, c2⟩ := HF1.out.at hb hkl
      have hki : (k : Int) < 4 := by omega
      have hki0 : (0 : Int) ≤ (k : Int) := by omega
      have hstep : (fs.take (k + 1)).any (fun f => decide (f.re = 0)) = (t || decide (s.re = 0)) := by
        rw [List.take_add_one, hs, List.any_append, hno.out]
        simp
      have HST := Lib.hid hstep
      clear hs hstep
      obtain ⟨z, hz⟩ : ∃ z, (s.re == 0) = z := ⟨_, rfl⟩
      have hzd : decide (s.re = 0) = z := by rw [← hz, Bool.eq_iff_iff]; simp
      have HZ := Lib.hid hzd
      clear hzd hQr
      cases t
      · go_wp2
        go_roundw
        case rel => exact ⟨k + 1, z, by omega, by go_num, by first | rfl | (rw [hz]) | (simp [hz]), Lib.hid (by rw [HST.out, HZ.out]; rfl), hb⟩
        case measure => simp [intOf]; omega
      · go_wp2
        go_roundw
        case rel => exact ⟨k + 1, true, by omega, by go_num, rfl, Lib.hid (by rw [HST.out]; rfl), hb⟩
        case measure => simp [intOf]; omega
    · obtain rfl : k = 4 := by omega
      obtain rfl : t = true := by rw [← hno.out, List.take_of_length_le (by rw [HLN.out]; exact Nat.le_refl _)]; exact HAN.out
      have hQ := hQr
      clear hQr
      obtain ⟨cv0, cv1, cv2, cv3, cv4, cv5⟩ := (blk_j (a := v) (hQ.at (b := w1.heap.size) (cs := jc v) (t := 26) (by simp))).1
      go_wp2_with (go_at_call 15; (with_reducible refine (fringes_m b a v gs q _ hb2 ha2 (hGP.below hQ.B) HG).mono ?_); rintro e w5 ⟨lv, rfl, hO5, hb5⟩; refine Hid.out ?_)
      refine Lib.hid ?_
      have hQ := hQ.step hb5
      clear hO5 hb5 cv0 cv1 cv2 cv3 cv4 cv5
      cases hcq : q
      · have hBF := hQ.B
        go_wp2
        go_ret
        exact ⟨rfl, by exact below_⟩
      have HDB := Lib.hid (HB.out hcq)
      obtain ⟨cv0, cv1, cv2, cv3, cv4, cv5⟩ := (blk_j (a := v) (hQ.at (b := w1.heap.size) (cs := jc v) (t := 26) (by simp))).1
      go_wp2_with (go_at_call 27; (with_reducible refine (darkP_m b a v true _ hb2 ha2 (hGP.below hQ.B) HDB).mono ?_); rintro e w6 ⟨rfl, hb⟩; have hBF := (hQ.step hb).B; clear hb)
      go_ret
      exact ⟨rfl, by exact below_⟩
end Go.Proofs.YtjbnkefeacineaaGreatDoor
