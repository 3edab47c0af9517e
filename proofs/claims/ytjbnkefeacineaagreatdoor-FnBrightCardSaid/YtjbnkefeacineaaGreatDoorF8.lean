/-
  The walk of FnBright (nothing is brighter): it returns true, for all codes.
-/
import Derived.Test.YtjbnkefeacineaaGreatDoorEe
import Derived.Test.YtjbnkefeacineaaGreatDoorEm
import Derived.Test.YtjbnkefeacineaaGreatDoorEu
namespace Go.Proofs.YtjbnkefeacineaaGreatDoor
set_option linter.unusedSimpArgs false
set_option linter.unusedVariables false
open Go.RowKit
attribute [local go_sem ↓] Go.wp_at_zero Go.wp_at_succ
set_option maxRecDepth 100000 in
set_option maxHeartbeats 8000000 in
theorem fnBright_walk (A0 : Option Addr) (len cap : Nat) (w : World) (hby : Bytes A0 len cap w) (hGP : GP w) :
    Calls Tryz.prog 3 #[.slice A0 len cap] w fun e w' => e = .returned (.bool true) ∧ Below w.heap.size w w' := by
  have hcap := hby.2.1
  have hlc := hby.1
  by_cases hbig : 1048576 < len
  · have hd : decide ((1048576 : Int) < (len : Int)) = true := by simp; omega
    go_enter Tryz.func3, Tryz.ntmps3
    go_wp2
    go_ret
    exact ⟨rfl, by exact below_⟩
  have hd : decide ((1048576 : Int) < (len : Int)) = false := by simp; omega
  go_enter Tryz.func3, Tryz.ntmps3
  go_wp2_with (go_at_call 12; (with_reducible refine (drawPortBright_any A0 len cap _ hby).mono ?_); rintro e w1 ⟨a, b, v, rfl, hB, az, bz⟩; refine Hid.out ?_)
  refine Lib.hid ?_
  have ha2 : a.size ≤ 1048576 := by omega
  have hb2 : b.size ≤ 1048576 := by omega
  have hQ : BW w [(w1.heap.size, jc v, 26)] (w1.alloc (.cells #[.int .i64 v.x.re, .int .i64 v.x.im, .int .i64 v.x.den, .int .i64 v.y.re, .int .i64 v.y.im, .int .i64 v.y.den] 26)) := (BW.nil w).push hB (jc v) 26
  clear az bz hB hd hbig hcap hlc hby
  obtain ⟨nb, hnb⟩ : ∃ n, brI a.data.toList b.data.toList v = n := ⟨_, rfl⟩
  obtain ⟨rs, ok, hr⟩ : ∃ rs ok, (fringesI a.data.toList b.data.toList v).getD [] = rs ∧ (fringesI a.data.toList b.data.toList v).isSome = ok := ⟨_, _, rfl, rfl⟩
  have hi : ∀ W, GP W → Calls Tryz.prog 13 #[.string a, .string b, jnv v] W fun e w' => e = .returned (.tuple #[.int .i64 (nb : Nat), .bool ok]) ∧ Below W.heap.size W w' := fun W hG => by rw [← hnb, ← hr.2]; exact bright_any a b v W ha2 hb2 hG
  have hs : ∀ W, Calls Tryz.prog 14 #[.string a, .string b, jnv v] W fun e w' => e = .returned (.tuple #[.int .i64 (nb : Nat), .bool ok]) ∧ Below W.heap.size W w' := fun W => by rw [← hnb, ← hr.2]; exact sbright_any a b v W
  have HNB := Lib.hid hnb
  have HR := Lib.hid hr
  clear hnb hr
  obtain ⟨cv0, cv1, cv2, cv3, cv4, cv5⟩ := (blk_j (a := v) (hQ.at (b := w1.heap.size) (cs := jc v) (t := 26) (by simp))).1
  go_wp2_with (go_at_call 13; (with_reducible refine (hi _ (hGP.below hQ.B)).mono ?_); rintro e w2 ⟨rfl, hb⟩; refine Hid.out ?_)
  refine Lib.hid ?_
  clear cv0 cv1 cv2 cv3 cv4 cv5
  have hQ := hQ.step hb
  clear hb
  obtain ⟨cv0, cv1, cv2, cv3, cv4, cv5⟩ := (blk_j (a := v) (hQ.at (b := w1.heap.size) (cs := jc v) (t := 26) (by simp))).1
  go_wp2_with (go_at_call 14; (with_reducible refine (hs _).mono ?_); rintro e w3 ⟨rfl, hb⟩; refine Hid.out ?_)
  refine Lib.hid ?_
  clear cv0 cv1 cv2 cv3 cv4 cv5
  have hQ := hQ.step hb
  clear hb
  obtain ⟨cv0, cv1, cv2, cv3, cv4, cv5⟩ := (blk_j (a := v) (hQ.at (b := w1.heap.size) (cs := jc v) (t := 26) (by simp))).1
  cases hcok : ok
  · have hBF := hQ.B
    go_wp2
    go_ret
    exact ⟨rfl, by exact below_⟩
  have hfs : fringesI a.data.toList b.data.toList v = some rs := getD_some (ok_at2 HR.out hcok)
  obtain ⟨hln, hb3, hbr⟩ := bright_told hfs
  rw [HNB.out] at hb3 hbr
  have HF : Hid ((fringesI a.data.toList b.data.toList v).getD [] = rs ∧ (fringesI a.data.toList b.data.toList v).isSome = true) := Lib.hid (ok_at2 HR.out hcok)
  have HBR := Lib.hid hbr
  have HLN := Lib.hid hln
  clear hfs hbr hln hcok
  go_wp2_with (go_at_call 15; (with_reducible refine (fringes_m a b v rs true _ ha2 hb2 (hGP.below hQ.B) HF).mono ?_); rintro e w4 ⟨lv, rfl, hO, hb⟩; refine Hid.out ?_)
  refine Lib.hid ?_
  clear cv0 cv1 cv2 cv3 cv4 cv5
  have hBQ := (hQ.step hb).B
  clear hb hi hs hQ
  obtain ⟨A1, c1, hv1, hF1⟩ := hO.frs
  subst hv1
  rw [HLN.out] at hF1 ⊢
  have hcap := hF1.2.1
  have hcm := hF1.2.2.1
  have HF1 := Lib.hid hF1
  clear hO hF1
  have hnb1 : (nb : Int) ≤ 3 := by omega
  have hnb2 : (nb : Int) < 4 := by omega
  have hnb0 : (0 : Int) ≤ (nb : Int) := by omega
  go_wp2
  go_loopw [12] (fun iv wr => ∃ k : Nat, k ≤ 4 ∧ iv = .int .i64 k ∧ Below w4.heap.size w4 wr) (fun iv _ => 4 - (intOf iv).toNat)
  case atStart => exact ⟨0, by omega, rfl, Below.refl _ _⟩
  case round =>
    obtain ⟨k, hk, rfl, hb⟩ := hrel
    have hzv := hb.size
    have hB : Below w.heap.size w wr := bstep hBQ hb hBQ.size
    have hkw : IntKind.i64.wrap ((k : Int) + 1) = (k : Int) + 1 := IntWalk.i64_in _ (by omega)
    by_cases hkl : k < 4
    · obtain ⟨bb, off, s, t, rfl, hs1, ht1, hbb, hc⟩ := two_at HF1.out hb hkl (show nb < 4 by omega)
      have HCL := Lib.hid hc
      have hki : (k : Int) < 4 := by omega
      have hki0 : (0 : Int) ≤ (k : Int) := by omega
      obtain ⟨c, hc1, hc2, hc3⟩ := HBR.out k hkl
      rw [atF_of hs1, atF_of ht1] at hc1
      have HC : Hid ((cmpI s t).getD 0 = c ∧ (cmpI s t).isSome = true) := Lib.hid (by rw [hc1]; exact ⟨rfl, rfl⟩)
      have HC3 := Lib.hid hc3
      clear hc hs1 ht1 hc1 hc3
      go_upto_region 12 with fail
      go_cut [13, 14] from 71 to 82 (fun s13 s14 wx => s13 = .int .i64 c ∧ s14 = .bool true ∧ Below wr.heap.size wr wx)
      case first =>
        have HS : Hid (∀ W', Below wr.heap.size wr W' → (fun w' => w'.cell? ⟨bb, off + k * 3, none⟩ = some (.int .i64 s.re) ∧ w'.cell? ⟨bb, off + k * 3 + 1, none⟩ = some (.int .i64 s.im) ∧ w'.cell? ⟨bb, off + k * 3 + 2, none⟩ = some (.int .i64 s.den) ∧ w'.cell? ⟨bb, off + nb * 3, none⟩ = some (.int .i64 t.re) ∧ w'.cell? ⟨bb, off + nb * 3 + 1, none⟩ = some (.int .i64 t.im) ∧ w'.cell? ⟨bb, off + nb * 3 + 2, none⟩ = some (.int .i64 t.den)) W') := Lib.hid (fun W' hb => by
          obtain ⟨⟨s0, s1, s2⟩, t0, t1, t2⟩ := HCL.out W' hb
          exact ⟨s0, s1, s2, t0, t1, t2⟩)
        go_region_held3 (fun w' => w'.cell? ⟨bb, off + k * 3, none⟩ = some (.int .i64 s.re) ∧ w'.cell? ⟨bb, off + k * 3 + 1, none⟩ = some (.int .i64 s.im) ∧ w'.cell? ⟨bb, off + k * 3 + 2, none⟩ = some (.int .i64 s.den) ∧ w'.cell? ⟨bb, off + nb * 3, none⟩ = some (.int .i64 t.re) ∧ w'.cell? ⟨bb, off + nb * 3 + 1, none⟩ = some (.int .i64 t.im) ∧ w'.cell? ⟨bb, off + nb * 3 + 2, none⟩ = some (.int .i64 t.den)) (((refine HS.out _ ?_); ((repeat' (first | (with_reducible exact Below.refl _ _) | (with_reducible assumption) | (with_reducible refine Below.setCell ?_ (by first | omega | (simp; done) | (simp; omega)) _) | (with_reducible refine Below.alloc ?_ (by first | omega | (simp; done) | (simp; omega)) _) | (with_reducible refine below_drewN ?_ _) | (with_reducible refine Below.drew ?_)))))) (first | (go_at_call 16; (with_reducible refine (pcompare_m s t c true _ HC).mono ?_); rintro e w1 ⟨rfl, hb⟩; obtain ⟨hc, hf⟩ := bf hb (wr.heap.size) side_; have hs := hb.size; (try simp only [World.size_alloc, World.size_setCell, World.size_drew, World.heap_drewN] at hs); have hl : wr.heap.size ≤ w1.heap.size := (by omega); obtain ⟨B, hBe, hBl, hc2, hf2⟩ := bfA hb; (try simp only [World.size_alloc, World.size_setCell, World.size_drew, World.heap_drewN] at hBe); have hB : Below wr.heap.size wr w1 := bstep (by exact below_) hb side_; clear hs hb))
        all_goals (go_wp2; go_meet; exact ⟨rfl, rfl, by exact below_⟩)
      obtain ⟨r13, r14, hb5⟩ := hcut
      subst r13 r14
      have hbN := bstep hb hb5 hzv
      clear hb5
      have hcn : ¬ (0 : Int) < c := by omega
      by_cases hc0 : c = 0
      · subst hc0
        have hnk := HC3.out rfl
        have hnki : ¬ ((k : Int) < (nb : Int)) := by omega
        go_wp2
        go_roundw
        case rel => exact ⟨k + 1, by omega, by go_num, hbN⟩
        case measure => simp [intOf]; omega
      · have hcb : (c == 0) = false := by simpa using hc0
        go_wp2
        go_roundw
        case rel => exact ⟨k + 1, by omega, by go_num, hbN⟩
        case measure => simp [intOf]; omega
    · obtain rfl : k = 4 := by omega
      go_wp2
      go_ret
      exact ⟨rfl, by exact below_⟩
end Go.Proofs.YtjbnkefeacineaaGreatDoor
