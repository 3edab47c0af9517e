/-
  The walk of FnSeen (what is seen is from 0 to 1): it returns true, for all codes.
-/
import Derived.Test.YtjbnkefeacineaaGreatDoorEe
import Derived.Test.YtjbnkefeacineaaGreatDoorEm
import Derived.Test.YtjbnkefeacineaaGreatDoorIz
import Derived.Test.YtjbnkefeacineaaGreatDoorIv
namespace Go.Proofs.YtjbnkefeacineaaGreatDoor
set_option linter.unusedSimpArgs false
set_option linter.unusedVariables false
open Go.RowKit
attribute [local go_sem ↓] Go.wp_at_zero Go.wp_at_succ
theorem seen_m (a b : ByteArray) (v : Jn) (F : Fr) (ok : Bool) (w : World) (ha : a.size ≤ 1048576) (hb : b.size ≤ 1048576) (hG : GP w) (e : Hid ((seenI a.data.toList b.data.toList v).getD Z3 = F ∧ (seenI a.data.toList b.data.toList v).isSome = ok)) :
    Calls Tryz.prog 25 #[.string a, .string b, jnv v] w fun e w' => e = .returned (.tuple #[frv F, .bool ok]) ∧ Below w.heap.size w w' := by
  rw [← e.out.1, ← e.out.2]; exact seen_any a b v w ha hb hG
theorem sseen_m (a b : ByteArray) (v : Jn) (F : Fr) (ok : Bool) (w : World) (e : Hid ((seenI a.data.toList b.data.toList v).getD Z3 = F ∧ (seenI a.data.toList b.data.toList v).isSome = ok)) :
    Calls Tryz.prog 26 #[.string a, .string b, jnv v] w fun e w' => e = .returned (.tuple #[frv F, .bool ok]) ∧ Below w.heap.size w w' := by
  rw [← e.out.1, ← e.out.2]; exact sseen_any a b v w
set_option maxRecDepth 100000 in
set_option maxHeartbeats 8000000 in
theorem fnSeen_walk (A0 : Option Addr) (len cap : Nat) (w : World) (hby : Bytes A0 len cap w) (hGP : GP w) :
    Calls Tryz.prog 5 #[.slice A0 len cap] w fun e w' => e = .returned (.bool true) ∧ Below w.heap.size w w' := by
  have hcap := hby.2.1
  have hlc := hby.1
  by_cases hbig : 1048576 < len
  · have hd : decide ((1048576 : Int) < (len : Int)) = true := by simp; omega
    go_enter Tryz.func5, Tryz.ntmps5
    go_wp2
    go_ret
    exact ⟨rfl, by exact below_⟩
  have hd : decide ((1048576 : Int) < (len : Int)) = false := by simp; omega
  go_enter Tryz.func5, Tryz.ntmps5
  go_wp2_with (go_at_call 24; (with_reducible refine (drawPortSeen_any A0 len cap _ hby).mono ?_); rintro e w1 ⟨a, b, v, rfl, hB, az, bz⟩; refine Hid.out ?_)
  refine Lib.hid ?_
  have ha2 : a.size ≤ 1048576 := by omega
  have hb2 : b.size ≤ 1048576 := by omega
  have hQ : BW w [(w1.heap.size, jc v, 26)] (w1.alloc (.cells #[.int .i64 v.x.re, .int .i64 v.x.im, .int .i64 v.x.den, .int .i64 v.y.re, .int .i64 v.y.im, .int .i64 v.y.den] 26)) := (BW.nil w).push hB (jc v) 26
  clear az bz hB hd hbig hcap hlc hby
  obtain ⟨F, ok, hF⟩ : ∃ u_ p_, (seenI a.data.toList b.data.toList v).getD Z3 = u_ ∧ (seenI a.data.toList b.data.toList v).isSome = p_ := ⟨_, _, rfl, rfl⟩
  obtain ⟨R, hR⟩ : ∃ R, darkI a.data.toList b.data.toList v = R := ⟨_, rfl⟩
  have HF := Lib.hid hF
  have HR := Lib.hid hR
  clear hF hR
  obtain ⟨cv0, cv1, cv2, cv3, cv4, cv5⟩ := (blk_j (a := v) (hQ.at (b := w1.heap.size) (cs := jc v) (t := 26) (by simp))).1
  go_wp2_with (go_at_call 25; (with_reducible refine (seen_m a b v F ok _ ha2 hb2 (hGP.below hQ.B) HF).mono ?_); rintro e w2 ⟨rfl, hb⟩; refine Hid.out ?_)
  refine Lib.hid ?_
  clear cv0 cv1 cv2 cv3 cv4 cv5
  have hQ : BW w [(w2.heap.size, frc F, 24), (w1.heap.size, jc v, 26)] (w2.alloc (.cells #[.int .i64 F.re, .int .i64 F.im, .int .i64 F.den] 24)) := hQ.push hb (frc F) 24
  clear hb
  obtain ⟨cv0, cv1, cv2, cv3, cv4, cv5⟩ := (blk_j (a := v) (hQ.at (b := w1.heap.size) (cs := jc v) (t := 26) (by simp))).1
  go_wp2_with (go_at_call 26; (with_reducible refine (sseen_m a b v F ok _ HF).mono ?_); rintro e w3 ⟨rfl, hb⟩; refine Hid.out ?_)
  refine Lib.hid ?_
  clear cv0 cv1 cv2 cv3 cv4 cv5
  have hQ : BW w [(w3.heap.size, frc F, 24), (w2.heap.size, frc F, 24), (w1.heap.size, jc v, 26)] (w3.alloc (.cells #[.int .i64 F.re, .int .i64 F.im, .int .i64 F.den] 24)) := hQ.push hb (frc F) 24
  clear hb
  obtain ⟨cv0, cv1, cv2, cv3, cv4, cv5⟩ := (blk_j (a := v) (hQ.at (b := w1.heap.size) (cs := jc v) (t := 26) (by simp))).1
  obtain ⟨cout0, cout1, cout2⟩ := blk_fr0 (f := F) (hQ.at (b := w2.heap.size) (cs := frc F) (t := 24) (by simp))
  obtain ⟨cwant0, cwant1, cwant2⟩ := blk_fr0 (f := F) (hQ.at (b := w3.heap.size) (cs := frc F) (t := 24) (by simp))
  cases hcok : ok
  · have hBF := hQ.B
    go_wp2
    go_ret
    exact ⟨rfl, by exact below_⟩
  obtain ⟨h1, h2, h3, h4⟩ := seen_told (ok_at2 HF.out hcok)
  rw [HR.out] at h4
  obtain ⟨x, y, z⟩ := F
  simp only at h1 h2 h3
  subst h1
  have hRv : R = (x == 1 && z == 1) := by
    rw [← h4]
    show (Fr.mk x 0 z == Fr.mk 1 0 1) = (x == 1 && z == 1)
    rw [Bool.eq_iff_iff]
    simp
  have hx0 : decide ((0 : Int) ≤ x) = true := by simp [h2]
  have hxz : decide (x ≤ z) = true := by simp [h3]
  clear h4
  by_cases hx1 : x = 1
  · subst hx1
    by_cases hz1 : z = 1
    · subst hz1
      subst hRv
      go_wp2_with (go_at_call 27; (with_reducible refine (darkP_m a b v _ _ ha2 hb2 (hGP.below hQ.B) HR).mono ?_); rintro e w4 ⟨rfl, hb⟩; have hBF := (hQ.step hb).B; clear hb)
      go_ret
      exact ⟨rfl, by exact below_⟩
    · have hzb : (z == 1) = false := by simpa using hz1
      rw [hzb] at hRv
      subst hRv
      go_wp2_with (go_at_call 27; (with_reducible refine (darkP_m a b v _ _ ha2 hb2 (hGP.below hQ.B) HR).mono ?_); rintro e w4 ⟨rfl, hb⟩; have hBF := (hQ.step hb).B; clear hb)
      go_ret
      exact ⟨rfl, by exact below_⟩
  · have hxb : (x == 1) = false := by simpa using hx1
    rw [hxb] at hRv
    subst hRv
    go_wp2_with (go_at_call 27; (with_reducible refine (darkP_m a b v _ _ ha2 hb2 (hGP.below hQ.B) HR).mono ?_); rintro e w4 ⟨rfl, hb⟩; have hBF := (hQ.step hb).B; clear hb)
    go_ret
    exact ⟨rfl, by exact below_⟩
end Go.Proofs.YtjbnkefeacineaaGreatDoor
