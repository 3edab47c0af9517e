/-
  The walk of FnPortTable (light at ports is pure): it returns true, for all codes.
-/
import Derived.Test.YtjbnkefeacineaaGreatDoorEe
import Derived.Test.YtjbnkefeacineaaGreatDoorEg
import Derived.Test.YtjbnkefeacineaaGreatDoorEb
import Derived.Test.YtjbnkefeacineaaGreatDoorEq
namespace Go.Proofs.YtjbnkefeacineaaGreatDoor
set_option linter.unusedSimpArgs false
set_option linter.unusedVariables false
open Go.RowKit
attribute [local go_sem ↓] Go.wp_at_zero Go.wp_at_succ
theorem table_m (a b : ByteArray) (k : Int) (v : Jn) (m : Mt) (ok : Bool) (w : World) (ha : a.size ≤ 1048576) (hb : b.size ≤ 1048576) (hG : GP w) (e : Hid ((tableI a.data.toList b.data.toList k v).getD Z12 = m ∧ (tableI a.data.toList b.data.toList k v).isSome = ok)) :
    Calls Tryz.prog 18 #[.string a, .string b, .int .i64 k, jnv v] w fun e w' => e = .returned (.tuple #[mtv m, .bool ok]) ∧ Below w.heap.size w w' := by
  rw [← e.out.1, ← e.out.2]; exact table_any a b k v w ha hb hG
theorem stable_m (a b : ByteArray) (k : Int) (v : Jn) (m : Mt) (ok : Bool) (w : World) (e : Hid ((tableI a.data.toList b.data.toList k v).getD Z12 = m ∧ (tableI a.data.toList b.data.toList k v).isSome = ok)) :
    Calls Tryz.prog 19 #[.string a, .string b, .int .i64 k, jnv v] w fun e w' => e = .returned (.tuple #[mtv m, .bool ok]) ∧ Below w.heap.size w w' := by
  rw [← e.out.1, ← e.out.2]; exact stable_any a b k v w
theorem ti_tab (a b mv : Fr) (mo : Bool) (w : World) (e : Hid ((timesI a b).getD Z3 = mv ∧ (timesI a b).isSome = mo)) : Calls Tryz.prog 22 #[frv a, frv b] w fun e w' => e = .returned (.tuple #[frv mv, .bool mo]) ∧ Below w.heap.size w w' := by
  rw [← e.out.1, ← e.out.2]; exact times_any a b w
theorem sq_tab (m : Mt) (q : Fr) (ok : Bool) (w : World) (e : Hid ((sqI m).getD Z3 = q ∧ (sqI m).isSome = ok)) : Calls Tryz.prog 21 #[mtv m] w fun e w' => e = .returned (.tuple #[frv q, .bool ok]) ∧ Below w.heap.size w w' := by
  rw [← e.out.1, ← e.out.2]; exact squares_any m w
theorem pure_tab (m : Mt) (R : Bool) (w : World) (e : Hid (puI m = R)) : Calls Tryz.prog 23 #[mtv m] w fun e w' => e = .returned (.bool R) ∧ Below w.heap.size w w' := by
  rw [← e.out]; exact pure_any m w
section
attribute [local go_sem] eqM_run
set_option maxRecDepth 100000 in
set_option maxHeartbeats 8000000 in
theorem fnPortTable_walk (A0 : Option Addr) (len cap : Nat) (w : World) (hby : Bytes A0 len cap w) (hGP : GP w) :
    Calls Tryz.prog 4 #[.slice A0 len cap] w fun e w' => e = .returned (.bool true) ∧ Below w.heap.size w w' := by
  have hcap := hby.2.1
  have hlc := hby.1
  by_cases hbig : 1048576 < len
  · have hd : decide ((1048576 : Int) < (len : Int)) = true := by simp; omega
    go_enter Tryz.func4, Tryz.ntmps4
    go_wp2
    go_ret
    exact ⟨rfl, by exact below_⟩
  have hd : decide ((1048576 : Int) < (len : Int)) = false := by simp; omega
  go_enter Tryz.func4, Tryz.ntmps4
  go_wp2_with (go_at_call 17; (with_reducible refine (drawPortTable_any A0 len cap _ hby).mono ?_); rintro e w1 ⟨a, b, k, v, rfl, hB, az, bz⟩; refine Hid.out ?_)
  refine Lib.hid ?_
  have ha2 : a.size ≤ 1048576 := by omega
  have hb2 : b.size ≤ 1048576 := by omega
  have hQ : BW w [(w1.heap.size, jc v, 26)] (w1.alloc (.cells #[.int .i64 v.x.re, .int .i64 v.x.im, .int .i64 v.x.den, .int .i64 v.y.re, .int .i64 v.y.im, .int .i64 v.y.den] 26)) := (BW.nil w).push hB (jc v) 26
  clear az bz hB hd hbig hcap hlc hby
  obtain ⟨m, ok, hM⟩ : ∃ u_ p_, (tableI a.data.toList b.data.toList k v).getD Z12 = u_ ∧ (tableI a.data.toList b.data.toList k v).isSome = p_ := ⟨_, _, rfl, rfl⟩
  obtain ⟨A, B, g, hP⟩ : ∃ A B ok, pw1 (powersI a.data.toList b.data.toList k v) = A ∧ pw2 (powersI a.data.toList b.data.toList k v) = B ∧ (powersI a.data.toList b.data.toList k v).isSome = ok := ⟨_, _, _, rfl, rfl, rfl⟩
  obtain ⟨Q, q, hQ1⟩ : ∃ u_ p_, (sqI m).getD Z3 = u_ ∧ (sqI m).isSome = p_ := ⟨_, _, rfl, rfl⟩
  obtain ⟨T, r, hT⟩ : ∃ u_ p_, (timesI m.a m.a).getD Z3 = u_ ∧ (timesI m.a m.a).isSome = p_ := ⟨_, _, rfl, rfl⟩
  have HQ1 := Lib.hid hQ1
  clear hQ1
  have HM := Lib.hid hM
  have HP := Lib.hid hP
  have HT := Lib.hid hT
  clear hM hP hT
  obtain ⟨cv0, cv1, cv2, cv3, cv4, cv5⟩ := (blk_j (a := v) (hQ.at (b := w1.heap.size) (cs := jc v) (t := 26) (by simp))).1
  go_wp2_with (go_at_call 18; (with_reducible refine (table_m a b k v m ok _ ha2 hb2 (hGP.below hQ.B) HM).mono ?_); rintro e w2 ⟨rfl, hb⟩; refine Hid.out ?_)
  refine Lib.hid ?_
  clear cv0 cv1 cv2 cv3 cv4 cv5
  have hQ : BW w [(w2.heap.size, mtc m, 40), (w1.heap.size, jc v, 26)] (w2.alloc (.cells #[.int .i64 m.a.re, .int .i64 m.a.im, .int .i64 m.a.den, .int .i64 m.b.re, .int .i64 m.b.im, .int .i64 m.b.den, .int .i64 m.c.re, .int .i64 m.c.im, .int .i64 m.c.den, .int .i64 m.d.re, .int .i64 m.d.im, .int .i64 m.d.den] 40)) := hQ.push hb (mtc m) 40
  clear hb
  obtain ⟨cv0, cv1, cv2, cv3, cv4, cv5⟩ := (blk_j (a := v) (hQ.at (b := w1.heap.size) (cs := jc v) (t := 26) (by simp))).1
  go_wp2_with (go_at_call 19; (with_reducible refine (stable_m a b k v m ok _ HM).mono ?_); rintro e w3 ⟨rfl, hb⟩; refine Hid.out ?_)
  refine Lib.hid ?_
  clear cv0 cv1 cv2 cv3 cv4 cv5
  have hQ : BW w [(w3.heap.size, mtc m, 40), (w2.heap.size, mtc m, 40), (w1.heap.size, jc v, 26)] (w3.alloc (.cells #[.int .i64 m.a.re, .int .i64 m.a.im, .int .i64 m.a.den, .int .i64 m.b.re, .int .i64 m.b.im, .int .i64 m.b.den, .int .i64 m.c.re, .int .i64 m.c.im, .int .i64 m.c.den, .int .i64 m.d.re, .int .i64 m.d.im, .int .i64 m.d.den] 40)) := hQ.push hb (mtc m) 40
  clear hb
  obtain ⟨cv0, cv1, cv2, cv3, cv4, cv5⟩ := (blk_j (a := v) (hQ.at (b := w1.heap.size) (cs := jc v) (t := 26) (by simp))).1
  obtain ⟨cout0, cout1, cout2, cout3, cout4, cout5, cout6, cout7, cout8, cout9, cout10, cout11⟩ := blk_mt (m := m) (hQ.at (b := w2.heap.size) (cs := mtc m) (t := 40) (by simp))
  obtain ⟨cwant0, cwant1, cwant2, cwant3, cwant4, cwant5, cwant6, cwant7, cwant8, cwant9, cwant10, cwant11⟩ := blk_mt (m := m) (hQ.at (b := w3.heap.size) (cs := mtc m) (t := 40) (by simp))
  cases hcok : ok
  · have hBF := hQ.B
    go_wp2
    go_ret
    exact ⟨rfl, by exact below_⟩
  have HTB := Lib.hid (show g = true → A = m.a from fun h => table_told (ok_at2 HM.out hcok) (ok_at HP.out h))
  have HPU := Lib.hid (show q = true → r = true → puI m = true from fun h1 h2 => pure_told (getD_some (ok_at2 HM.out hcok)) (HQ1.out.2.trans h1) (HT.out.2.trans h2))
  go_wp2_with (go_at_call 20; (with_reducible refine (powers_any a b k v _ ha2 hb2 (hGP.below hQ.B) A B g HP).mono ?_); rintro e w4 ⟨rfl, hb⟩; refine Hid.out ?_)
  refine Lib.hid ?_
  clear cv0 cv1 cv2 cv3 cv4 cv5 cout0 cout1 cout2 cout3 cout4 cout5 cout6 cout7 cout8 cout9 cout10 cout11 cwant0 cwant1 cwant2 cwant3 cwant4 cwant5 cwant6 cwant7 cwant8 cwant9 cwant10 cwant11
  have hQ : BW w [(w4.heap.size + 1, frc B, 24), (w4.heap.size, frc A, 24), (w3.heap.size, mtc m, 40), (w2.heap.size, mtc m, 40), (w1.heap.size, jc v, 26)] ((w4.alloc (.cells #[.int .i64 A.re, .int .i64 A.im, .int .i64 A.den] 24)).alloc (.cells #[.int .i64 B.re, .int .i64 B.im, .int .i64 B.den] 24)) := by
    have h := (hQ.push hb (frc A) 24).push (Below.refl _ _) (frc B) 24
    rw [World.size_alloc] at h
    exact h
  clear hb
  obtain ⟨cout0, cout1, cout2, cout3, cout4, cout5, cout6, cout7, cout8, cout9, cout10, cout11⟩ := blk_mt (m := m) (hQ.at (b := w2.heap.size) (cs := mtc m) (t := 40) (by simp))
  go_wp2_with (go_at_call 21; (with_reducible refine (sq_tab m Q q _ HQ1).mono ?_); rintro e w5 ⟨rfl, hb⟩; refine Hid.out ?_)
  refine Lib.hid ?_
  clear cout0 cout1 cout2 cout3 cout4 cout5 cout6 cout7 cout8 cout9 cout10 cout11
  have hQ : BW w [(w5.heap.size, frc Q, 24), (w4.heap.size + 1, frc B, 24), (w4.heap.size, frc A, 24), (w3.heap.size, mtc m, 40), (w2.heap.size, mtc m, 40), (w1.heap.size, jc v, 26)] (w5.alloc (.cells #[.int .i64 Q.re, .int .i64 Q.im, .int .i64 Q.den] 24)) := hQ.push hb (frc Q) 24
  clear hb
  obtain ⟨cout0, cout1, cout2, cout3, cout4, cout5, cout6, cout7, cout8, cout9, cout10, cout11⟩ := blk_mt (m := m) (hQ.at (b := w2.heap.size) (cs := mtc m) (t := 40) (by simp))
  go_wp2_with (go_at_call 22; (with_reducible refine (ti_tab m.a m.a T r _ HT).mono ?_); rintro e w6 ⟨rfl, hb⟩; refine Hid.out ?_)
  refine Lib.hid ?_
  clear cout0 cout1 cout2 cout3 cout4 cout5 cout6 cout7 cout8 cout9 cout10 cout11
  have hQ : BW w [(w6.heap.size, frc T, 24), (w5.heap.size, frc Q, 24), (w4.heap.size + 1, frc B, 24), (w4.heap.size, frc A, 24), (w3.heap.size, mtc m, 40), (w2.heap.size, mtc m, 40), (w1.heap.size, jc v, 26)] (w6.alloc (.cells #[.int .i64 T.re, .int .i64 T.im, .int .i64 T.den] 24)) := hQ.push hb (frc T) 24
  clear hb
  obtain ⟨cout0, cout1, cout2, cout3, cout4, cout5, cout6, cout7, cout8, cout9, cout10, cout11⟩ := blk_mt (m := m) (hQ.at (b := w2.heap.size) (cs := mtc m) (t := 40) (by simp))
  obtain ⟨cc0, cc1, cc2⟩ := blk_fr0 (f := A) (hQ.at (b := w4.heap.size) (cs := frc A) (t := 24) (by simp))
  cases hcg : g
  · cases hcq : q
    · have hBF := hQ.B
      go_wp2
      go_ret
      exact ⟨rfl, by exact below_⟩
    cases hcr : r
    · have hBF := hQ.B
      go_wp2
      go_ret
      exact ⟨rfl, by exact below_⟩
    have HPR := Lib.hid (HPU.out hcq hcr)
    go_wp2_with (go_at_call 23; (with_reducible refine (pure_tab m true _ HPR).mono ?_); rintro e wz ⟨rfl, hb⟩; have hBF := (hQ.step hb).B; clear hb)
    go_ret
    exact ⟨rfl, by exact below_⟩
  · obtain rfl := HTB.out hcg
    cases hcq : q
    · have hBF := hQ.B
      go_wp2
      go_ret
      exact ⟨rfl, by exact below_⟩
    cases hcr : r
    · have hBF := hQ.B
      go_wp2
      go_ret
      exact ⟨rfl, by exact below_⟩
    have HPR := Lib.hid (HPU.out hcq hcr)
    go_wp2_with (go_at_call 23; (with_reducible refine (pure_tab m true _ HPR).mono ?_); rintro e wz ⟨rfl, hb⟩; have hBF := (hQ.step hb).B; clear hb)
    go_ret
    exact ⟨rfl, by exact below_⟩
end
end Go.Proofs.YtjbnkefeacineaaGreatDoor
