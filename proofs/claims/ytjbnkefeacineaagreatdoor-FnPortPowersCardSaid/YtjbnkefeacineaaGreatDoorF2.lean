/-
  The walk of FnPortPowers (powers of ports are those of both arms): it returns true, for all codes.
-/
import Derived.Test.YtjbnkefeacineaaGreatDoorEe
import Derived.Test.YtjbnkefeacineaaGreatDoorEm
namespace Go.Proofs.YtjbnkefeacineaaGreatDoor
set_option linter.unusedSimpArgs false
set_option linter.unusedVariables false
open Go.RowKit
attribute [local go_sem ↓] Go.wp_at_zero Go.wp_at_succ
set_option maxRecDepth 100000 in
set_option maxHeartbeats 8000000 in
theorem fnPortPowers_walk (A0 : Option Addr) (len cap : Nat) (w : World) (hby : Bytes A0 len cap w) (hGP : GP w) :
    Calls Tryz.prog 7 #[.slice A0 len cap] w fun e w' => e = .returned (.bool true) ∧ Below w.heap.size w w' := by
  have hcap := hby.2.1
  have hlc := hby.1
  by_cases hbig : 1048576 < len
  · have hd : decide ((1048576 : Int) < (len : Int)) = true := by simp; omega
    go_enter Tryz.func7, Tryz.ntmps7
    go_wp2
    go_ret
    exact ⟨rfl, by exact below_⟩
  have hd : decide ((1048576 : Int) < (len : Int)) = false := by simp; omega
  go_enter Tryz.func7, Tryz.ntmps7
  go_wp2_with (go_at_call 33; (with_reducible refine (drawPortPowers_any A0 len cap _ hby).mono ?_); rintro e w1 ⟨a, b, k, v, rfl, hB, az, bz⟩; refine Hid.out ?_)
  refine Lib.hid ?_
  have ha2 : a.size ≤ 1048576 := by omega
  have hb2 : b.size ≤ 1048576 := by omega
  have hQ : BW w [(w1.heap.size, jc v, 26)] (w1.alloc (.cells #[.int .i64 v.x.re, .int .i64 v.x.im, .int .i64 v.x.den, .int .i64 v.y.re, .int .i64 v.y.im, .int .i64 v.y.den] 26)) := (BW.nil w).push hB (jc v) 26
  clear az bz hB hd hbig hcap hlc hby
  obtain ⟨A, B, ok, hP⟩ : ∃ A B ok, pw1 (powersI a.data.toList b.data.toList k v) = A ∧ pw2 (powersI a.data.toList b.data.toList k v) = B ∧ (powersI a.data.toList b.data.toList k v).isSome = ok := ⟨_, _, _, rfl, rfl, rfl⟩
  have HP := Lib.hid hP
  clear hP
  obtain ⟨cv0, cv1, cv2, cv3, cv4, cv5⟩ := (blk_j (a := v) (hQ.at (b := w1.heap.size) (cs := jc v) (t := 26) (by simp))).1
  go_wp2_with (go_at_call 20; (with_reducible refine (powers_any a b k v _ ha2 hb2 (hGP.below hQ.B) A B ok HP).mono ?_); rintro e w2 ⟨rfl, hb⟩; refine Hid.out ?_)
  refine Lib.hid ?_
  clear cv0 cv1 cv2 cv3 cv4 cv5
  have hQ : BW w [(w2.heap.size + 1, frc B, 24), (w2.heap.size, frc A, 24), (w1.heap.size, jc v, 26)] ((w2.alloc (.cells #[.int .i64 A.re, .int .i64 A.im, .int .i64 A.den] 24)).alloc (.cells #[.int .i64 B.re, .int .i64 B.im, .int .i64 B.den] 24)) := by
    have h := (hQ.push hb (frc A) 24).push (Below.refl _ _) (frc B) 24
    rw [World.size_alloc] at h
    exact h
  clear hb
  obtain ⟨cv0, cv1, cv2, cv3, cv4, cv5⟩ := (blk_j (a := v) (hQ.at (b := w1.heap.size) (cs := jc v) (t := 26) (by simp))).1
  go_wp2_with (go_at_call 34; (with_reducible refine (spowers_any a b k v _ A B ok HP).mono ?_); rintro e w3 ⟨rfl, hb⟩; refine Hid.out ?_)
  refine Lib.hid ?_
  clear cv0 cv1 cv2 cv3 cv4 cv5
  have hQ : BW w [(w3.heap.size + 1, frc B, 24), (w3.heap.size, frc A, 24), (w2.heap.size + 1, frc B, 24), (w2.heap.size, frc A, 24), (w1.heap.size, jc v, 26)] ((w3.alloc (.cells #[.int .i64 A.re, .int .i64 A.im, .int .i64 A.den] 24)).alloc (.cells #[.int .i64 B.re, .int .i64 B.im, .int .i64 B.den] 24)) := by
    have h := (hQ.push hb (frc A) 24).push (Below.refl _ _) (frc B) 24
    rw [World.size_alloc] at h
    exact h
  clear hb
  obtain ⟨cv0, cv1, cv2, cv3, cv4, cv5⟩ := (blk_j (a := v) (hQ.at (b := w1.heap.size) (cs := jc v) (t := 26) (by simp))).1
  obtain ⟨cout0, cout1, cout2⟩ := blk_fr0 (f := A) (hQ.at (b := w2.heap.size) (cs := frc A) (t := 24) (by simp))
  obtain ⟨cgot0, cgot1, cgot2⟩ := blk_fr0 (f := B) (hQ.at (b := w2.heap.size + 1) (cs := frc B) (t := 24) (by simp))
  obtain ⟨cwant0, cwant1, cwant2⟩ := blk_fr0 (f := A) (hQ.at (b := w3.heap.size) (cs := frc A) (t := 24) (by simp))
  obtain ⟨cdue0, cdue1, cdue2⟩ := blk_fr0 (f := B) (hQ.at (b := w3.heap.size + 1) (cs := frc B) (t := 24) (by simp))
  cases hcok : ok
  · have hBF := hQ.B
    go_wp2
    go_ret
    exact ⟨rfl, by exact below_⟩
  obtain ⟨X, p, hX⟩ : ∃ u_ p_, (runI a.data.toList v).getD Z6 = u_ ∧ (runI a.data.toList v).isSome = p_ := ⟨_, _, rfl, rfl⟩
  obtain ⟨Y, q, hY⟩ : ∃ u_ p_, (runI b.data.toList v).getD Z6 = u_ ∧ (runI b.data.toList v).isSome = p_ := ⟨_, _, rfl, rfl⟩
  obtain ⟨M, r, hM⟩ : ∃ u_ p_, (jpowerI X).getD Z3 = u_ ∧ (jpowerI X).isSome = p_ := ⟨_, _, rfl, rfl⟩
  obtain ⟨N, s, hN⟩ : ∃ u_ p_, (jpowerI Y).getD Z3 = u_ ∧ (jpowerI Y).isSome = p_ := ⟨_, _, rfl, rfl⟩
  obtain ⟨T, t, hT⟩ : ∃ u_ p_, (addI M N).getD Z3 = u_ ∧ (addI M N).isSome = p_ := ⟨_, _, rfl, rfl⟩
  obtain ⟨U, u, hU⟩ : ∃ u_ p_, (addI A B).getD Z3 = u_ ∧ (addI A B).isSome = p_ := ⟨_, _, rfl, rfl⟩
  obtain ⟨D2, z, hV⟩ : ∃ u_ p_, (addI U U).getD Z3 = u_ ∧ (addI U U).isSome = p_ := ⟨_, _, rfl, rfl⟩
  have hkr := Lib.hid (ph_cases (powers_val (pw_some (ok_at HP.out hcok))).1)
  obtain ⟨k2, hk2⟩ : ∃ x, (k + 2) % 4 = x := ⟨_, rfl⟩
  have hk0 : 0 ≤ k ∧ k ≤ 3 := by rcases hkr.out with h | h | h | h <;> omega
  have hkw : IntKind.i64.wrap (k + 2) = k + 2 := IntWalk.i64_in _ (by omega)
  have hkx : wrap64 (k + 2) = k + 2 := by unfold wrap64; omega
  have hkt : Int.tmod (k + 2) 4 = k2 := by rw [← hk2]; exact Int.tmod_eq_emod_of_nonneg (by omega)
  have hk3 : 0 ≤ k2 ∧ k2 ≤ 3 := by omega
  have hky : IntKind.i64.wrap k2 = k2 := IntWalk.i64_in _ (by omega)
  have hkz : wrap64 k2 = k2 := by unfold wrap64; omega
  obtain ⟨C, D, g, hC⟩ : ∃ A B ok, pw1 (powersI a.data.toList b.data.toList k2 v) = A ∧ pw2 (powersI a.data.toList b.data.toList k2 v) = B ∧ (powersI a.data.toList b.data.toList k2 v).isSome = ok := ⟨_, _, _, rfl, rfl, rfl⟩
  have HL := Lib.hid (powers_told (ok_at HP.out hcok) hX hY hM hN hT hU hV (by rw [hk2]; exact hC))
  have HX := Lib.hid hX
  have HY := Lib.hid hY
  have HM := Lib.hid hM
  have HN := Lib.hid hN
  have HT := Lib.hid hT
  have HU := Lib.hid hU
  have HV := Lib.hid hV
  have HC := Lib.hid hC
  clear hX hY hM hN hT hU hV hC
  clear hk2 hk3 hk0
  go_wp2_with (go_at_call 32; (with_reducible refine (run_m a v X p _ ha2 (hGP.below hQ.B) HX).mono ?_); rintro e w4 ⟨rfl, hb⟩; refine Hid.out ?_)
  refine Lib.hid ?_
  clear cv0 cv1 cv2 cv3 cv4 cv5 cout0 cout1 cout2 cgot0 cgot1 cgot2 cwant0 cwant1 cwant2 cdue0 cdue1 cdue2
  have hQ : BW w [(w4.heap.size, jc X, 26), (w3.heap.size + 1, frc B, 24), (w3.heap.size, frc A, 24), (w2.heap.size + 1, frc B, 24), (w2.heap.size, frc A, 24), (w1.heap.size, jc v, 26)] (w4.alloc (.cells #[.int .i64 X.x.re, .int .i64 X.x.im, .int .i64 X.x.den, .int .i64 X.y.re, .int .i64 X.y.im, .int .i64 X.y.den] 26)) := hQ.push hb (jc X) 26
  clear hb
  obtain ⟨cv0, cv1, cv2, cv3, cv4, cv5⟩ := (blk_j (a := v) (hQ.at (b := w1.heap.size) (cs := jc v) (t := 26) (by simp))).1
  go_wp2_with (go_at_call 32; (with_reducible refine (run_m b v Y q _ hb2 (hGP.below hQ.B) HY).mono ?_); rintro e w5 ⟨rfl, hb⟩; refine Hid.out ?_)
  refine Lib.hid ?_
  clear cv0 cv1 cv2 cv3 cv4 cv5
  have hQ : BW w [(w5.heap.size, jc Y, 26), (w4.heap.size, jc X, 26), (w3.heap.size + 1, frc B, 24), (w3.heap.size, frc A, 24), (w2.heap.size + 1, frc B, 24), (w2.heap.size, frc A, 24), (w1.heap.size, jc v, 26)] (w5.alloc (.cells #[.int .i64 Y.x.re, .int .i64 Y.x.im, .int .i64 Y.x.den, .int .i64 Y.y.re, .int .i64 Y.y.im, .int .i64 Y.y.den] 26)) := hQ.push hb (jc Y) 26
  clear hb
  obtain ⟨cx0, cx1, cx2, cx3, cx4, cx5⟩ := (blk_j (a := X) (hQ.at (b := w4.heap.size) (cs := jc X) (t := 26) (by simp))).1
  go_wp2_with (go_at_call 35; (with_reducible refine (jpowerX_m X M r _ HM).mono ?_); rintro e w6 ⟨rfl, hb⟩; refine Hid.out ?_)
  refine Lib.hid ?_
  clear cx0 cx1 cx2 cx3 cx4 cx5
  have hQ : BW w [(w6.heap.size, frc M, 24), (w5.heap.size, jc Y, 26), (w4.heap.size, jc X, 26), (w3.heap.size + 1, frc B, 24), (w3.heap.size, frc A, 24), (w2.heap.size + 1, frc B, 24), (w2.heap.size, frc A, 24), (w1.heap.size, jc v, 26)] (w6.alloc (.cells #[.int .i64 M.re, .int .i64 M.im, .int .i64 M.den] 24)) := hQ.push hb (frc M) 24
  clear hb
  obtain ⟨cy0, cy1, cy2, cy3, cy4, cy5⟩ := (blk_j (a := Y) (hQ.at (b := w5.heap.size) (cs := jc Y) (t := 26) (by simp))).1
  go_wp2_with (go_at_call 35; (with_reducible refine (jpowerX_m Y N s _ HN).mono ?_); rintro e w7 ⟨rfl, hb⟩; refine Hid.out ?_)
  refine Lib.hid ?_
  clear cy0 cy1 cy2 cy3 cy4 cy5
  have hQ : BW w [(w7.heap.size, frc N, 24), (w6.heap.size, frc M, 24), (w5.heap.size, jc Y, 26), (w4.heap.size, jc X, 26), (w3.heap.size + 1, frc B, 24), (w3.heap.size, frc A, 24), (w2.heap.size + 1, frc B, 24), (w2.heap.size, frc A, 24), (w1.heap.size, jc v, 26)] (w7.alloc (.cells #[.int .i64 N.re, .int .i64 N.im, .int .i64 N.den] 24)) := hQ.push hb (frc N) 24
  clear hb
  obtain ⟨cm0, cm1, cm2⟩ := blk_fr0 (f := M) (hQ.at (b := w6.heap.size) (cs := frc M) (t := 24) (by simp))
  obtain ⟨cn0, cn1, cn2⟩ := blk_fr0 (f := N) (hQ.at (b := w7.heap.size) (cs := frc N) (t := 24) (by simp))
  go_wp2_with (go_at_call 36; (with_reducible refine (add_m M N T t _ HT).mono ?_); rintro e w8 ⟨rfl, hb⟩; refine Hid.out ?_)
  refine Lib.hid ?_
  clear cm0 cm1 cm2 cn0 cn1 cn2
  have hQ : BW w [(w8.heap.size, frc T, 24), (w7.heap.size, frc N, 24), (w6.heap.size, frc M, 24), (w5.heap.size, jc Y, 26), (w4.heap.size, jc X, 26), (w3.heap.size + 1, frc B, 24), (w3.heap.size, frc A, 24), (w2.heap.size + 1, frc B, 24), (w2.heap.size, frc A, 24), (w1.heap.size, jc v, 26)] (w8.alloc (.cells #[.int .i64 T.re, .int .i64 T.im, .int .i64 T.den] 24)) := hQ.push hb (frc T) 24
  clear hb
  obtain ⟨cout0, cout1, cout2⟩ := blk_fr0 (f := A) (hQ.at (b := w2.heap.size) (cs := frc A) (t := 24) (by simp))
  obtain ⟨cgot0, cgot1, cgot2⟩ := blk_fr0 (f := B) (hQ.at (b := w2.heap.size + 1) (cs := frc B) (t := 24) (by simp))
  go_wp2_with (go_at_call 36; (with_reducible refine (add_m A B U u _ HU).mono ?_); rintro e w9 ⟨rfl, hb⟩; refine Hid.out ?_)
  refine Lib.hid ?_
  clear cout0 cout1 cout2 cgot0 cgot1 cgot2
  have hQ : BW w [(w9.heap.size, frc U, 24), (w8.heap.size, frc T, 24), (w7.heap.size, frc N, 24), (w6.heap.size, frc M, 24), (w5.heap.size, jc Y, 26), (w4.heap.size, jc X, 26), (w3.heap.size + 1, frc B, 24), (w3.heap.size, frc A, 24), (w2.heap.size + 1, frc B, 24), (w2.heap.size, frc A, 24), (w1.heap.size, jc v, 26)] (w9.alloc (.cells #[.int .i64 U.re, .int .i64 U.im, .int .i64 U.den] 24)) := hQ.push hb (frc U) 24
  clear hb
  obtain ⟨csum0, csum1, csum2⟩ := blk_fr0 (f := U) (hQ.at (b := w9.heap.size) (cs := frc U) (t := 24) (by simp))
  go_wp2_with (go_at_call 36; (with_reducible refine (add_m U U D2 z _ HV).mono ?_); rintro e w10 ⟨rfl, hb⟩; refine Hid.out ?_)
  refine Lib.hid ?_
  clear csum0 csum1 csum2
  have hQ : BW w [(w10.heap.size, frc D2, 24), (w9.heap.size, frc U, 24), (w8.heap.size, frc T, 24), (w7.heap.size, frc N, 24), (w6.heap.size, frc M, 24), (w5.heap.size, jc Y, 26), (w4.heap.size, jc X, 26), (w3.heap.size + 1, frc B, 24), (w3.heap.size, frc A, 24), (w2.heap.size + 1, frc B, 24), (w2.heap.size, frc A, 24), (w1.heap.size, jc v, 26)] (w10.alloc (.cells #[.int .i64 D2.re, .int .i64 D2.im, .int .i64 D2.den] 24)) := hQ.push hb (frc D2) 24
  clear hb
  obtain ⟨cv0, cv1, cv2, cv3, cv4, cv5⟩ := (blk_j (a := v) (hQ.at (b := w1.heap.size) (cs := jc v) (t := 26) (by simp))).1
  go_wp2_with (go_at_call 20; (with_reducible refine (powers_any a b k2 v _ ha2 hb2 (hGP.below hQ.B) C D g HC).mono ?_); rintro e w11 ⟨rfl, hb⟩; refine Hid.out ?_)
  refine Lib.hid ?_
  clear cv0 cv1 cv2 cv3 cv4 cv5
  have hQ : BW w [(w11.heap.size + 1, frc D, 24), (w11.heap.size, frc C, 24), (w10.heap.size, frc D2, 24), (w9.heap.size, frc U, 24), (w8.heap.size, frc T, 24), (w7.heap.size, frc N, 24), (w6.heap.size, frc M, 24), (w5.heap.size, jc Y, 26), (w4.heap.size, jc X, 26), (w3.heap.size + 1, frc B, 24), (w3.heap.size, frc A, 24), (w2.heap.size + 1, frc B, 24), (w2.heap.size, frc A, 24), (w1.heap.size, jc v, 26)] ((w11.alloc (.cells #[.int .i64 C.re, .int .i64 C.im, .int .i64 C.den] 24)).alloc (.cells #[.int .i64 D.re, .int .i64 D.im, .int .i64 D.den] 24)) := by
    have h := (hQ.push hb (frc C) 24).push (Below.refl _ _) (frc D) 24
    rw [World.size_alloc] at h
    exact h
  clear hb
  obtain ⟨hp1, hq1, hL, hg1, hC1, hD1⟩ := HL.out
  have hC1 := hC1.symm
  have hD1 := hD1.symm
  subst hp1 hq1 hg1 hC1 hD1
  have HL := Lib.hid hL
  clear hL
  obtain ⟨carms0, carms1, carms2⟩ := blk_fr0 (f := T) (hQ.at (b := w8.heap.size) (cs := frc T) (t := 24) (by simp))
  obtain ⟨ctwice0, ctwice1, ctwice2⟩ := blk_fr0 (f := D2) (hQ.at (b := w10.heap.size) (cs := frc D2) (t := 24) (by simp))
  obtain ⟨cc0, cc1, cc2⟩ := blk_fr0 (f := B) (hQ.at (b := w11.heap.size) (cs := frc B) (t := 24) (by simp))
  obtain ⟨cd0, cd1, cd2⟩ := blk_fr0 (f := A) (hQ.at (b := w11.heap.size + 1) (cs := frc A) (t := 24) (by simp))
  obtain ⟨cgot0, cgot1, cgot2⟩ := blk_fr0 (f := B) (hQ.at (b := w2.heap.size + 1) (cs := frc B) (t := 24) (by simp))
  obtain ⟨cout0, cout1, cout2⟩ := blk_fr0 (f := A) (hQ.at (b := w2.heap.size) (cs := frc A) (t := 24) (by simp))
  cases hcr : r
  · have hBF := hQ.B
    go_wp2
    go_ret
    exact ⟨rfl, by exact below_⟩
  cases hcs : s
  · have hBF := hQ.B
    go_wp2
    go_ret
    exact ⟨rfl, by exact below_⟩
  cases hct : t
  · have hBF := hQ.B
    go_wp2
    go_ret
    exact ⟨rfl, by exact below_⟩
  cases hcu : u
  · have hBF := hQ.B
    go_wp2
    go_ret
    exact ⟨rfl, by exact below_⟩
  cases hcz : z
  · have hBF := hQ.B
    go_wp2
    go_ret
    exact ⟨rfl, by exact below_⟩
  have h2 := HL.out hcr hcs hct hcu hcz
  subst h2
  have hBF := hQ.B
  go_wp2
  go_ret
  exact ⟨rfl, by exact below_⟩
end Go.Proofs.YtjbnkefeacineaaGreatDoor
