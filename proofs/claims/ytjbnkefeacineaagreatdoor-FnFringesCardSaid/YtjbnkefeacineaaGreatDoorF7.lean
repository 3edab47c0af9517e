/-
  The walk of FnFringes (fringes are even): it returns true, for all codes.
-/
import Derived.Test.YtjbnkefeacineaaGreatDoorEe
import Derived.Test.YtjbnkefeacineaaGreatDoorEm
import Derived.Test.YtjbnkefeacineaaGreatDoorEu
import Derived.Test.YtjbnkefeacineaaGreatDoorEs
import Derived.BigQuiet
import Derived.Deep.CutRange
import Derived.Deep.RegionHeld3
namespace Go.Proofs.YtjbnkefeacineaaGreatDoor
set_option linter.unusedSimpArgs false
set_option linter.unusedVariables false
open Go.RowKit
attribute [local go_sem ↓] Go.wp_at_zero Go.wp_at_succ
/-- A fraction lies at the head of a block. -/
def C3 (w : World) (b : Nat) (x : Fr) : Prop := w.cell? ⟨b, 0, none⟩ = some (.int .i64 x.re) ∧ w.cell? ⟨b, 1, none⟩ = some (.int .i64 x.im) ∧ w.cell? ⟨b, 2, none⟩ = some (.int .i64 x.den)
theorem C3.below {w w' : World} {b : Nat} {x : Fr} (h : C3 w b x) (hb : Below w.heap.size w w') : C3 w' b x := by
  have hl := World.block_lt_of_cell? _ _ h.1
  exact ⟨(hb.cell (p := ⟨b, 0, none⟩) hl).trans h.1, (hb.cell (p := ⟨b, 1, none⟩) hl).trans h.2.1, (hb.cell (p := ⟨b, 2, none⟩) hl).trans h.2.2⟩
set_option maxRecDepth 100000 in
set_option maxHeartbeats 8000000 in
theorem fnFringes_walk (A0 : Option Addr) (len cap : Nat) (w : World) (hby : Bytes A0 len cap w) (hGP : GP w) :
    Calls Tryz.prog 10 #[.slice A0 len cap] w fun e w' => e = .returned (.bool true) ∧ Below w.heap.size w w' := by
  have hcap := hby.2.1
  have hlc := hby.1
  by_cases hbig : 1048576 < len
  · have hd : decide ((1048576 : Int) < (len : Int)) = true := by simp; omega
    go_enter Tryz.func10, Tryz.ntmps10
    go_wp2
    go_ret
    exact ⟨rfl, by exact below_⟩
  have hd : decide ((1048576 : Int) < (len : Int)) = false := by simp; omega
  go_enter Tryz.func10, Tryz.ntmps10
  go_wp2_with (go_at_call 40; (with_reducible refine (drawPortFringes_any A0 len cap _ hby).mono ?_); rintro e w1 ⟨a, b, v, rfl, hB, az, bz⟩; refine Hid.out ?_)
  refine Lib.hid ?_
  have ha2 : a.size ≤ 1048576 := by omega
  have hb2 : b.size ≤ 1048576 := by omega
  have hQ : BW w [(w1.heap.size, jc v, 26)] (w1.alloc (.cells #[.int .i64 v.x.re, .int .i64 v.x.im, .int .i64 v.x.den, .int .i64 v.y.re, .int .i64 v.y.im, .int .i64 v.y.den] 26)) := (BW.nil w).push hB (jc v) 26
  clear az bz hB hd hbig hcap hlc hby
  obtain ⟨rs, ok, hr⟩ : ∃ rs ok, (fringesI a.data.toList b.data.toList v).getD [] = rs ∧ (fringesI a.data.toList b.data.toList v).isSome = ok := ⟨_, _, rfl, rfl⟩
  have HR := Lib.hid hr
  clear hr
  obtain ⟨cv0, cv1, cv2, cv3, cv4, cv5⟩ := (blk_j (a := v) (hQ.at (b := w1.heap.size) (cs := jc v) (t := 26) (by simp))).1
  go_wp2_with (go_at_call 15; (with_reducible refine (fringes_m a b v rs ok _ ha2 hb2 (hGP.below hQ.B) HR).mono ?_); rintro e w2 ⟨lv, rfl, O1, hb⟩; refine Hid.out ?_)
  refine Lib.hid ?_
  clear cv0 cv1 cv2 cv3 cv4 cv5
  have hQ := hQ.step hb
  clear hb
  obtain ⟨A1, c1, hv1, hF1⟩ := O1.frs
  subst hv1
  obtain ⟨n, hn⟩ : ∃ n, n = rs.length := ⟨_, rfl⟩
  rw [← hn] at hF1 ⊢
  have HN := Lib.hid hn
  clear hn O1
  obtain ⟨cv0, cv1, cv2, cv3, cv4, cv5⟩ := (blk_j (a := v) (hQ.at (b := w1.heap.size) (cs := jc v) (t := 26) (by simp))).1
  go_wp2_with (go_at_call 41; (with_reducible refine (sfringes_m a b v rs ok _ HR).mono ?_); rintro e w3 ⟨lv, rfl, O2, hb⟩; refine Hid.out ?_)
  refine Lib.hid ?_
  clear cv0 cv1 cv2 cv3 cv4 cv5
  have hQ := hQ.step hb
  have hF1 := hF1.below hb
  clear hb
  obtain ⟨A2, c2, hv2, hF2⟩ := O2.frs
  subst hv2
  rw [← HN.out] at hF2 ⊢
  clear O2
  cases hcok : ok
  · have hBF := hQ.B
    go_wp2_with (go_at_call 42; (with_reducible refine (sameFrs_refl A1 A2 n c1 c2 rs _ hF1 hF2).mono ?_); rintro e w4 ⟨rfl, hb⟩; have hF1 := hF1.below hb; have hF2 := hF2.below hb; have hBF := bstep hBF hb hBF.size; clear hb)
    go_ret
    exact ⟨rfl, by exact below_⟩
  have hfs : fringesI a.data.toList b.data.toList v = some rs := getD_some (ok_at2 HR.out hcok)
  obtain ⟨f0, f1, f2, f3, hrs, hev, hpw⟩ := fringes_told hfs
  obtain rfl : n = 4 := by rw [HN.out, hrs]; rfl
  have HPW := Lib.hid hpw
  have HRS := Lib.hid hrs
  obtain ⟨x, p, hx⟩ : ∃ X p, (addI f0 f2).getD Z3 = X ∧ (addI f0 f2).isSome = p := ⟨_, _, rfl, rfl⟩
  obtain ⟨y, q, hy⟩ : ∃ X p, (addI f1 f3).getD Z3 = X ∧ (addI f1 f3).isSome = p := ⟨_, _, rfl, rfl⟩
  have HEV := Lib.hid (show p = true → q = true → x = y from fun h1 h2 => hev _ _ (getD_some (ok_at2 hx h1)) (getD_some (ok_at2 hy h2)))
  have HX := Lib.hid hx
  have HY := Lib.hid hy
  clear hfs hrs hev hpw hx hy hcok
  go_wp2_with (go_at_call 42; (with_reducible refine (sameFrs_refl A1 A2 4 c1 c2 rs _ hF1 hF2).mono ?_); rintro e w4 ⟨rfl, hb⟩; refine Hid.out ?_)
  refine Lib.hid ?_
  have hQ := hQ.step hb
  have hF1 := hF1.below hb
  clear hb hF2
  have hcap := hF1.2.1
  have hcm := hF1.2.2.1
  clear hcap hcm
  have hQ4 := hQ
  clear hQ
  obtain ⟨bb, off, s0, s2, rfl, e0, e2, hbb, hat⟩ := two_at hF1 (Below.refl _ _) (show 0 < 4 by decide) (show 2 < 4 by decide)
  obtain rfl : f0 = s0 := by rw [HRS.out] at e0; exact Option.some.inj e0
  obtain rfl : f2 = s2 := by rw [HRS.out] at e2; exact Option.some.inj e2
  have HA1 := Lib.hid hat
  clear e0 e2 hat hbb
  go_upto_region 8 with fail
  go_cut [10, 11] from 62 to 71 (fun s5 s6 wx => ∃ b5 : Nat, s5 = .pointer (some ⟨b5, 0, none⟩) ∧ s6 = .bool p ∧ C3 wx b5 x ∧ w4.heap.size ≤ b5 ∧ Below w4.heap.size w4 wx)
  case first =>
    have HSS : Hid (∀ W', Below w4.heap.size w4 W' → (fun w' => w'.cell? ⟨bb, off, none⟩ = some (.int .i64 f0.re) ∧ w'.cell? ⟨bb, off + 1, none⟩ = some (.int .i64 f0.im) ∧ w'.cell? ⟨bb, off + 2, none⟩ = some (.int .i64 f0.den) ∧ w'.cell? ⟨bb, off + 6, none⟩ = some (.int .i64 f2.re) ∧ w'.cell? ⟨bb, off + 6 + 1, none⟩ = some (.int .i64 f2.im) ∧ w'.cell? ⟨bb, off + 6 + 2, none⟩ = some (.int .i64 f2.den) ∧ w'.cell? ⟨bb, off + 7, none⟩ = some (.int .i64 f2.im) ∧ w'.cell? ⟨bb, off + 8, none⟩ = some (.int .i64 f2.den)) W') := Lib.hid (fun W' hb => by
      obtain ⟨⟨s0, s1, s2⟩, t0, t1, t2⟩ := HA1.out W' hb
      exact ⟨s0, s1, s2, t0, t1, t2, t1, t2⟩)
    go_region_held3 (fun w' => w'.cell? ⟨bb, off, none⟩ = some (.int .i64 f0.re) ∧ w'.cell? ⟨bb, off + 1, none⟩ = some (.int .i64 f0.im) ∧ w'.cell? ⟨bb, off + 2, none⟩ = some (.int .i64 f0.den) ∧ w'.cell? ⟨bb, off + 6, none⟩ = some (.int .i64 f2.re) ∧ w'.cell? ⟨bb, off + 6 + 1, none⟩ = some (.int .i64 f2.im) ∧ w'.cell? ⟨bb, off + 6 + 2, none⟩ = some (.int .i64 f2.den) ∧ w'.cell? ⟨bb, off + 7, none⟩ = some (.int .i64 f2.im) ∧ w'.cell? ⟨bb, off + 8, none⟩ = some (.int .i64 f2.den)) (((refine HSS.out _ ?_); ((repeat' (first | (with_reducible exact Below.refl _ _) | (with_reducible assumption) | (with_reducible refine Below.setCell ?_ (by first | omega | (simp; done) | (simp; omega)) _) | (with_reducible refine Below.alloc ?_ (by first | omega | (simp; done) | (simp; omega)) _) | (with_reducible refine below_drewN ?_ _) | (with_reducible refine Below.drew ?_)))))) (first | (go_at_call 36; (with_reducible refine (add_m f0 f2 x p _ HX).mono ?_); rintro e w1 ⟨rfl, hb⟩; obtain ⟨hc, hf⟩ := bf hb (w4.heap.size) side_; have hs := hb.size; (try simp only [World.size_alloc, World.size_setCell, World.size_drew, World.heap_drewN] at hs); have hl : w4.heap.size ≤ w1.heap.size := (by omega); obtain ⟨B, hBe, hBl, hc2, hf2⟩ := bfA hb; (try simp only [World.size_alloc, World.size_setCell, World.size_drew, World.heap_drewN] at hBe); have hB : Below w4.heap.size w4 w1 := bstep (by exact below_) hb side_; clear hs hb))
    all_goals (go_wp2; go_meet; exact ⟨_, rfl, rfl, (by refine ⟨?_, ?_, ?_⟩ <;> (first | (with_reducible exact World.cell?_alloc_at _ _ _ _ rfl) | (simp [go_sem, *]; done))), (by first | omega | (simp; omega)), by exact below_⟩)
  obtain ⟨bx, rx, ry, hXbx, hlbx, hbbx⟩ := hcut
  subst rx ry
  rename World => w5
  have hF1 := hF1.below hbbx
  have hQ5 := hQ4.step hbbx
  clear hQ4 hbbx hlbx HA1
  obtain ⟨bb', off', s1, s3, hbe, e1, e3, hbb, hat⟩ := two_at hF1 (Below.refl _ _) (show 1 < 4 by decide) (show 3 < 4 by decide)
  obtain ⟨rfl, rfl⟩ : bb = bb' ∧ off = off' := by simpa using hbe
  obtain rfl : f1 = s1 := by rw [HRS.out] at e1; exact Option.some.inj e1
  obtain rfl : f3 = s3 := by rw [HRS.out] at e3; exact Option.some.inj e3
  have HA1 := Lib.hid hat
  clear e1 e3 hat hbe hbb
  go_upto_region 9 with fail
  go_cut [12, 13] from 72 to 81 (fun s5 s6 wx => ∃ b5 : Nat, s5 = .pointer (some ⟨b5, 0, none⟩) ∧ s6 = .bool q ∧ C3 wx b5 y ∧ w5.heap.size ≤ b5 ∧ Below w5.heap.size w5 wx)
  case first =>
    have HSS : Hid (∀ W', Below w5.heap.size w5 W' → (fun w' => w'.cell? ⟨bb, off + 3, none⟩ = some (.int .i64 f1.re) ∧ w'.cell? ⟨bb, off + 3 + 1, none⟩ = some (.int .i64 f1.im) ∧ w'.cell? ⟨bb, off + 3 + 2, none⟩ = some (.int .i64 f1.den) ∧ w'.cell? ⟨bb, off + 9, none⟩ = some (.int .i64 f3.re) ∧ w'.cell? ⟨bb, off + 9 + 1, none⟩ = some (.int .i64 f3.im) ∧ w'.cell? ⟨bb, off + 9 + 2, none⟩ = some (.int .i64 f3.den) ∧ w'.cell? ⟨bb, off + 4, none⟩ = some (.int .i64 f1.im) ∧ w'.cell? ⟨bb, off + 5, none⟩ = some (.int .i64 f1.den) ∧ w'.cell? ⟨bb, off + 10, none⟩ = some (.int .i64 f3.im) ∧ w'.cell? ⟨bb, off + 11, none⟩ = some (.int .i64 f3.den)) W') := Lib.hid (fun W' hb => by
      obtain ⟨⟨s0, s1, s2⟩, t0, t1, t2⟩ := HA1.out W' hb
      exact ⟨s0, s1, s2, t0, t1, t2, s1, s2, t1, t2⟩)
    go_region_held3 (fun w' => w'.cell? ⟨bb, off + 3, none⟩ = some (.int .i64 f1.re) ∧ w'.cell? ⟨bb, off + 3 + 1, none⟩ = some (.int .i64 f1.im) ∧ w'.cell? ⟨bb, off + 3 + 2, none⟩ = some (.int .i64 f1.den) ∧ w'.cell? ⟨bb, off + 9, none⟩ = some (.int .i64 f3.re) ∧ w'.cell? ⟨bb, off + 9 + 1, none⟩ = some (.int .i64 f3.im) ∧ w'.cell? ⟨bb, off + 9 + 2, none⟩ = some (.int .i64 f3.den) ∧ w'.cell? ⟨bb, off + 4, none⟩ = some (.int .i64 f1.im) ∧ w'.cell? ⟨bb, off + 5, none⟩ = some (.int .i64 f1.den) ∧ w'.cell? ⟨bb, off + 10, none⟩ = some (.int .i64 f3.im) ∧ w'.cell? ⟨bb, off + 11, none⟩ = some (.int .i64 f3.den)) (((refine HSS.out _ ?_); ((repeat' (first | (with_reducible exact Below.refl _ _) | (with_reducible assumption) | (with_reducible refine Below.setCell ?_ (by first | omega | (simp; done) | (simp; omega)) _) | (with_reducible refine Below.alloc ?_ (by first | omega | (simp; done) | (simp; omega)) _) | (with_reducible refine below_drewN ?_ _) | (with_reducible refine Below.drew ?_)))))) (first | (go_at_call 36; (with_reducible refine (add_m f1 f3 y q _ HY).mono ?_); rintro e w1 ⟨rfl, hb⟩; obtain ⟨hc, hf⟩ := bf hb (w5.heap.size) side_; have hs := hb.size; (try simp only [World.size_alloc, World.size_setCell, World.size_drew, World.heap_drewN] at hs); have hl : w5.heap.size ≤ w1.heap.size := (by omega); obtain ⟨B, hBe, hBl, hc2, hf2⟩ := bfA hb; (try simp only [World.size_alloc, World.size_setCell, World.size_drew, World.heap_drewN] at hBe); have hB : Below w5.heap.size w5 w1 := bstep (by exact below_) hb side_; clear hs hb))
    all_goals (go_wp2; go_meet; exact ⟨_, rfl, rfl, (by refine ⟨?_, ?_, ?_⟩ <;> (first | (with_reducible exact World.cell?_alloc_at _ _ _ _ rfl) | (simp [go_sem, *]; done))), (by first | omega | (simp; omega)), by exact below_⟩)
  obtain ⟨by_, rx, ry, hXby_, hlby_, hbby_⟩ := hcut
  subst rx ry
  rename World => W7
  have HF1 := Lib.hid (hF1.below hbby_)
  have hQ := hQ5.step hbby_
  have hXbx := hXbx.below hbby_
  clear hQ5 hbby_ hlby_ HA1 hF1
  go_wp2
  go_loopw [14] (fun iv wr => ∃ k : Nat, k ≤ 4 ∧ iv = .int .i64 k ∧ Below W7.heap.size W7 wr) (fun iv _ => 4 - (intOf iv).toNat)
  case atStart => exact ⟨0, by omega, rfl, Below.refl _ _⟩
  case round =>
    obtain ⟨k, hk, rfl, hb⟩ := hrel
    have hzv := hb.size
    have hQ := hQ.step hb
    have hkw : IntKind.i64.wrap ((k : Int) + 1) = (k : Int) + 1 := IntWalk.i64_in _ (by omega)
    by_cases hkl : k < 4
    · obtain ⟨C, D, g, hC⟩ : ∃ A B ok, pw1 (powersI a.data.toList b.data.toList (k : Nat) v) = A ∧ pw2 (powersI a.data.toList b.data.toList (k : Nat) v) = B ∧ (powersI a.data.toList b.data.toList (k : Nat) v).isSome = ok := ⟨_, _, _, rfl, rfl, rfl⟩
      have HC := Lib.hid hC
      have HG := Lib.hid (show g = true → C = atF rs k from fun hg => HPW.out k hkl C D (ok_at hC hg))
      clear hC
      have hki : (k : Int) < 4 := by omega
      have hki0 : (0 : Int) ≤ (k : Int) := by omega
      obtain ⟨cv0, cv1, cv2, cv3, cv4, cv5⟩ := (blk_j (a := v) (hQ.at (b := w1.heap.size) (cs := jc v) (t := 26) (by simp))).1
      go_wp2_with (go_at_call 20; (with_reducible refine (powers_any a b k v _ ha2 hb2 (hGP.below hQ.B) C D g HC).mono ?_); rintro e w8 ⟨rfl, hb8⟩; refine Hid.out ?_)
      refine Lib.hid ?_
      clear cv0 cv1 cv2 cv3 cv4 cv5
      have hb9 : Below W7.heap.size W7 ((w8.alloc (.cells #[.int .i64 C.re, .int .i64 C.im, .int .i64 C.den] 24)).alloc (.cells #[.int .i64 D.re, .int .i64 D.im, .int .i64 D.den] 24)) := by
        have h := bstep hb hb8 hzv
        exact (h.alloc h.size _).alloc (by simp; have := h.size; omega) _
      have hCB : Blk ((w8.alloc (.cells #[.int .i64 C.re, .int .i64 C.im, .int .i64 C.den] 24)).alloc (.cells #[.int .i64 D.re, .int .i64 D.im, .int .i64 D.den] 24)) w8.heap.size (frc C) 24 := (Below.heap_alloc _ _ _ (by simp)).trans (heap_alloc_last w8 _)
      obtain ⟨x0, x1, x2⟩ := blk_fr0 hCB
      obtain ⟨bb', off', s, t, hbe, e1, -, hbb, hat⟩ := two_at HF1.out hb9 hkl hkl
      obtain ⟨rfl, rfl⟩ : bb = bb' ∧ off = off' := by simpa using hbe
      obtain ⟨⟨k00, k01, k02⟩, -⟩ := hat _ (Below.refl _ _)
      have HS := Lib.hid (atF_of e1)
      clear e1 hat hbe hb8 hCB hQ hb
      cases hcg : g
      · go_upto_region 14 with fail
        go_quiet (fail)
        go_wp2
        go_roundw
        case rel => exact ⟨k + 1, by omega, by go_num, below_drewN hb9 _⟩
        case measure => simp [intOf]; omega
      · obtain rfl : C = s := (HG.out hcg).trans HS.out
        go_upto_region 14 with fail
        go_quiet (fail)
        go_wp2
        go_roundw
        case rel => exact ⟨k + 1, by omega, by go_num, below_drewN hb9 _⟩
        case measure => simp [intOf]; omega
    · obtain rfl : k = 4 := by omega
      obtain ⟨x0, x1, x2⟩ := hXbx.below hb
      obtain ⟨y0, y1, y2⟩ := hXby_.below hb
      have hBF := hQ.B
      cases hcp : p
      · go_wp2
        go_ret
        exact ⟨rfl, by exact below_⟩
      cases hcq : q
      · go_wp2
        go_ret
        exact ⟨rfl, by exact below_⟩
      obtain rfl := HEV.out hcp hcq
      go_wp2
      go_ret
      exact ⟨rfl, by exact below_⟩
end Go.Proofs.YtjbnkefeacineaaGreatDoor
