/-
  The walk of the statement on what comes back from a fibre: it returns true, whatever the bytes.
-/
import Derived.Test.YtmaifiakjlbooaaDoorHb
import Derived.Test.YtmaifiakjlbooaaDoorVk
import Derived.Test.YtmaifiakjlbooaaDoorVe
namespace Go.Proofs.YtmaifiakjlbooaaDoor
set_option linter.unusedSimpArgs false
set_option linter.unusedVariables false
open Go.RowKit
attribute [local go_sem ↓] Go.wp_at_zero Go.wp_at_succ
theorem back_t (A : Option Addr) (len cap : Nat) (xs : List Sec) (w : World) (h : Secs A len cap xs w) (hf : fibOk xs = true) :
    Calls Tryd.prog 26 #[.slice A len cap] w fun e w' => ∃ v, e = .returned (.tuple #[v, .bool true]) ∧ Own w.heap.size v (backI xs) w' ∧ Below w.heap.size w w' := by rw [← hf]; exact back_any A len cap xs w h
theorem jpower_m (a : Jn) (N : Fr) (nl : Bool) (w : World) (e : frb (jpowerI a) = .tuple #[frv N, .bool nl]) :
    Calls Tryd.prog 45 #[jnv a] w fun e w' => e = .returned (.tuple #[frv N, .bool nl]) ∧ Below w.heap.size w w' := by rw [← e]; exact jpower_any a w
set_option maxRecDepth 100000 in
set_option maxHeartbeats 4000000 in
theorem fnFibreRun_walk (A : Option Addr) (len cap : Nat) (w : World) (hby : Bytes A len cap w) (hGO : GO w) (hGZ : GZ w) (hGT : GT w) (hGS : GS w) :
    Calls Tryd.prog 11 #[.slice A len cap] w fun e w' => e = .returned (.bool true) ∧ Below w.heap.size w w' := by
  by_cases hl : len ≤ 1048576
  · have hd : decide ((1048576 : Int) < (len : Int)) = false := by simp; omega
    go_enter Tryd.func11, Tryd.ntmps11
    go_wp2_with (go_at_call 44; (with_reducible refine (drawFibreRun_any A len cap _ hby).mono ?_); rintro e w1 ⟨xs, v, j, rfl, ⟨hO, hl7⟩, hB⟩; refine Hid.out ?_)
    refine Lib.hid ?_
    obtain ⟨A1, c1, rfl, -⟩ := hO.secs
    have hz1 := hB.size
    obtain ⟨M, hM⟩ : ∃ M : Jn, M = (fibRunI xs j).getD ⟨⟨0, 0, 0⟩, ⟨0, 0, 0⟩⟩ := ⟨_, rfl⟩
    obtain ⟨fl, hfl⟩ : ∃ fl : Bool, fl = (fibRunI xs j).isSome := ⟨_, rfl⟩
    obtain ⟨X, hX⟩ : ∃ X : Jn, X = (fibRunI (backI xs) M).getD ⟨⟨0, 0, 0⟩, ⟨0, 0, 0⟩⟩ := ⟨_, rfl⟩
    obtain ⟨gl, hgl⟩ : ∃ gl : Bool, gl = (fibRunI (backI xs) M).isSome := ⟨_, rfl⟩
    obtain ⟨N, hN⟩ : ∃ N : Fr, N = (jpowerI j).getD ⟨0, 0, 0⟩ := ⟨_, rfl⟩
    obtain ⟨nl, hnl⟩ : ∃ nl : Bool, nl = (jpowerI j).isSome := ⟨_, rfl⟩
    obtain ⟨K, hK⟩ : ∃ K : Fr, K = (jpowerI M).getD ⟨0, 0, 0⟩ := ⟨_, rfl⟩
    obtain ⟨kl, hkl⟩ : ∃ kl : Bool, kl = (jpowerI M).isSome := ⟨_, rfl⟩
    have HC := Lib.hid (show jnb (fibRunI xs j) = .tuple #[jnv M, .bool fl] by rw [hM, hfl])
    have HX := Lib.hid (show jnb (fibRunI (backI xs) M) = .tuple #[jnv X, .bool gl] by rw [hX, hgl])
    have HN := Lib.hid (show frb (jpowerI j) = .tuple #[frv N, .bool nl] by rw [hN, hnl])
    have HK := Lib.hid (show frb (jpowerI M) = .tuple #[frv K, .bool kl] by rw [hK, hkl])
    have hS : ∀ {α : Type} {o : Option α} {z a : α}, a = o.getD z → o.isSome = true → o = some a := by
      intro α o z a h1 h2
      cases o with
      | none => cases h2
      | some x => rw [h1]; rfl
    have H1 := Lib.hid (show fl = true → gl = true → X = j by
      intro h1 h2
      exact run_back (hS hM (hfl ▸ h1)) (hS hX (hgl ▸ h2)))
    have H2 := Lib.hid (show fl = true → nl = true → kl = true → N = K by
      intro h1 h2 h3
      exact run_power (hS hM (hfl ▸ h1)) (hS hN (hnl ▸ h2)) (hS hK (hkl ▸ h3)))
    have H3 := Lib.hid (show fl = true → fibOk xs = true by
      intro h1
      obtain ⟨m, hm, -⟩ := run_parts (hS hM (hfl ▸ h1))
      exact fib_ok hm)
    clear hM hfl hX hgl hN hnl hK hkl hS
    have hJ := JnAt.new w1 j 54
    have hO := hO.alloc (.cells #[.int .i64 j.x.re, .int .i64 j.x.im, .int .i64 j.x.den, .int .i64 j.y.re, .int .i64 j.y.im, .int .i64 j.y.den] 54)
    have hB : Below w.heap.size w (w1.alloc (.cells #[.int .i64 j.x.re, .int .i64 j.x.im, .int .i64 j.x.den, .int .i64 j.y.re, .int .i64 j.y.im, .int .i64 j.y.den] 54)) := hB.alloc hz1 _
    clear hz1
    go_wp2_with (go_at_call 34; (with_reducible refine (fibRun_m A1 _ c1 xs j M fl _ hO.read (hGO.below hB) (hGZ.below hB) (hGT.below hB) (hGS.below hB) HC.out).mono ?_); rintro e w2 ⟨rfl, hb⟩; refine Hid.out ?_)
    refine Lib.hid ?_
    have hJ := hJ.below hb hJ.lt
    have hO := hO.below hb
    have hB : Below w.heap.size w w2 := bstep hB hb hB.size
    clear hb
    have hzB := hB.size
    have hJ := hJ.alloc (.cells #[.int .i64 M.x.re, .int .i64 M.x.im, .int .i64 M.x.den, .int .i64 M.y.re, .int .i64 M.y.im, .int .i64 M.y.den] 54)
    have hO := hO.alloc (.cells #[.int .i64 M.x.re, .int .i64 M.x.im, .int .i64 M.x.den, .int .i64 M.y.re, .int .i64 M.y.im, .int .i64 M.y.den] 54)
    have hM := JnAt.new w2 M 54
    have hB : Below w.heap.size w (w2.alloc (.cells #[.int .i64 M.x.re, .int .i64 M.x.im, .int .i64 M.x.den, .int .i64 M.y.re, .int .i64 M.y.im, .int .i64 M.y.den] 54)) := hB.alloc hzB _
    clear hzB
    have hj := hJ
    obtain ⟨hj0, hj1, hj2, hj3, hj4, hj5⟩ := hj
    go_wp2_with (go_at_call 32; (with_reducible refine (sfibRun_m A1 _ c1 xs j M fl _ hO.read HC.out).mono ?_); clear hj0 hj1 hj2 hj3 hj4 hj5; rintro e w3 ⟨rfl, hb⟩; refine Hid.out ?_)
    refine Lib.hid ?_
    have hJ := hJ.below hb hJ.lt
    have hM := hM.below hb hM.lt
    have hO := hO.below hb
    have hB : Below w.heap.size w w3 := bstep hB hb hB.size
    clear hb
    have hzB := hB.size
    have hJ := hJ.alloc (.cells #[.int .i64 M.x.re, .int .i64 M.x.im, .int .i64 M.x.den, .int .i64 M.y.re, .int .i64 M.y.im, .int .i64 M.y.den] 54)
    have hM := hM.alloc (.cells #[.int .i64 M.x.re, .int .i64 M.x.im, .int .i64 M.x.den, .int .i64 M.y.re, .int .i64 M.y.im, .int .i64 M.y.den] 54)
    have hO := hO.alloc (.cells #[.int .i64 M.x.re, .int .i64 M.x.im, .int .i64 M.x.den, .int .i64 M.y.re, .int .i64 M.y.im, .int .i64 M.y.den] 54)
    have hB : Below w.heap.size w (w3.alloc (.cells #[.int .i64 M.x.re, .int .i64 M.x.im, .int .i64 M.x.den, .int .i64 M.y.re, .int .i64 M.y.im, .int .i64 M.y.den] 54)) := hB.alloc hzB _
    clear hzB
    have hm := hM
    obtain ⟨hm0, hm1, hm2, hm3, hm4, hm5⟩ := hm
    cases hfl : fl
    · go_wp2
      go_ret
      exact ⟨rfl, by (repeat' (first | (with_reducible exact Below.refl _ _) | (with_reducible assumption) | (with_reducible refine Below.setCell ?_ (by first | omega | (simp; done) | (simp; omega)) _) | (with_reducible refine Below.alloc ?_ (by first | omega | (simp; done) | (simp; omega)) _) | (with_reducible refine below_drewN ?_ _) | (with_reducible refine Below.drew ?_)))⟩
    have hok := Lib.hid (H3.out hfl)
    have H1 := Lib.hid (H1.out hfl)
    have H2 := Lib.hid (H2.out hfl)
    clear H3 HC hfl
    go_wp2_with (go_at_call 26; (with_reducible refine (back_t A1 _ c1 xs _ hO.read hok.out).mono ?_); clear hm0 hm1 hm2 hm3 hm4 hm5; rintro e w4 ⟨v4, rfl, hO4, hb⟩; refine Hid.out ?_)
    refine Lib.hid ?_
    obtain ⟨A4, c4, rfl, -⟩ := hO4.secs
    have hJ := hJ.below hb hJ.lt
    have hM := hM.below hb hM.lt
    have hB : Below w.heap.size w w4 := bstep hB hb hB.size
    clear hb
    clear hO
    have hm := hM
    obtain ⟨hm0, hm1, hm2, hm3, hm4, hm5⟩ := hm
    go_wp2_with (go_at_call 34; (with_reducible refine (fibRun_m A4 _ c4 (backI xs) M X gl _ hO4.read (hGO.below hB) (hGZ.below hB) (hGT.below hB) (hGS.below hB) HX.out).mono ?_); clear hm0 hm1 hm2 hm3 hm4 hm5; rintro e w5 ⟨rfl, hb⟩; refine Hid.out ?_)
    refine Lib.hid ?_
    clear hO4
    have hJ := hJ.below hb hJ.lt
    have hM := hM.below hb hM.lt
    have hB : Below w.heap.size w w5 := bstep hB hb hB.size
    clear hb
    have hzB := hB.size
    have hJ := hJ.alloc (.cells #[.int .i64 X.x.re, .int .i64 X.x.im, .int .i64 X.x.den, .int .i64 X.y.re, .int .i64 X.y.im, .int .i64 X.y.den] 54)
    have hM := hM.alloc (.cells #[.int .i64 X.x.re, .int .i64 X.x.im, .int .i64 X.x.den, .int .i64 X.y.re, .int .i64 X.y.im, .int .i64 X.y.den] 54)
    have hX := JnAt.new w5 X 54
    have hB : Below w.heap.size w (w5.alloc (.cells #[.int .i64 X.x.re, .int .i64 X.x.im, .int .i64 X.x.den, .int .i64 X.y.re, .int .i64 X.y.im, .int .i64 X.y.den] 54)) := hB.alloc hzB _
    clear hzB
    have hj := hJ
    obtain ⟨hj0, hj1, hj2, hj3, hj4, hj5⟩ := hj
    go_wp2_with (go_at_call 45; (with_reducible refine (jpower_m j N nl _ HN.out).mono ?_); clear hj0 hj1 hj2 hj3 hj4 hj5; rintro e w6 ⟨rfl, hb⟩; refine Hid.out ?_)
    refine Lib.hid ?_
    have hJ := hJ.below hb hJ.lt
    have hM := hM.below hb hM.lt
    have hX := hX.below hb hX.lt
    have hB : Below w.heap.size w w6 := bstep hB hb hB.size
    clear hb
    have hzB := hB.size
    have hJ := hJ.alloc (.cells #[.int .i64 N.re, .int .i64 N.im, .int .i64 N.den] 29)
    have hM := hM.alloc (.cells #[.int .i64 N.re, .int .i64 N.im, .int .i64 N.den] 29)
    have hX := hX.alloc (.cells #[.int .i64 N.re, .int .i64 N.im, .int .i64 N.den] 29)
    have hN := FrAt.new w6 N 29
    have hB : Below w.heap.size w (w6.alloc (.cells #[.int .i64 N.re, .int .i64 N.im, .int .i64 N.den] 29)) := hB.alloc hzB _
    clear hzB
    have hm := hM
    obtain ⟨hm0, hm1, hm2, hm3, hm4, hm5⟩ := hm
    go_wp2_with (go_at_call 45; (with_reducible refine (jpower_m M K kl _ HK.out).mono ?_); clear hm0 hm1 hm2 hm3 hm4 hm5; rintro e w7 ⟨rfl, hb⟩; refine Hid.out ?_)
    refine Lib.hid ?_
    clear hM
    have hJ := hJ.below hb hJ.lt
    have hX := hX.below hb hX.lt
    have hN := hN.below hb hN.lt
    have hB : Below w.heap.size w w7 := bstep hB hb hB.size
    clear hb
    have hzB := hB.size
    have hJ := hJ.alloc (.cells #[.int .i64 K.re, .int .i64 K.im, .int .i64 K.den] 29)
    have hX := hX.alloc (.cells #[.int .i64 K.re, .int .i64 K.im, .int .i64 K.den] 29)
    have hN := hN.alloc (.cells #[.int .i64 K.re, .int .i64 K.im, .int .i64 K.den] 29)
    have hK := FrAt.new w7 K 29
    have hB : Below w.heap.size w (w7.alloc (.cells #[.int .i64 K.re, .int .i64 K.im, .int .i64 K.den] 29)) := hB.alloc hzB _
    clear hzB
    obtain ⟨hJ0, hJ1, hJ2, hJ3, hJ4, hJ5⟩ := hJ
    obtain ⟨hX0, hX1, hX2, hX3, hX4, hX5⟩ := hX
    obtain ⟨hN0, hN1, hN2⟩ := hN
    cases hgl : gl
    · cases hnl : nl
      · go_wp2
        go_ret
        exact ⟨rfl, by (repeat' (first | (with_reducible exact Below.refl _ _) | (with_reducible assumption) | (with_reducible refine Below.setCell ?_ (by first | omega | (simp; done) | (simp; omega)) _) | (with_reducible refine Below.alloc ?_ (by first | omega | (simp; done) | (simp; omega)) _) | (with_reducible refine below_drewN ?_ _) | (with_reducible refine Below.drew ?_)))⟩
      cases hkl : kl
      · go_wp2
        go_ret
        exact ⟨rfl, by (repeat' (first | (with_reducible exact Below.refl _ _) | (with_reducible assumption) | (with_reducible refine Below.setCell ?_ (by first | omega | (simp; done) | (simp; omega)) _) | (with_reducible refine Below.alloc ?_ (by first | omega | (simp; done) | (simp; omega)) _) | (with_reducible refine below_drewN ?_ _) | (with_reducible refine Below.drew ?_)))⟩
      obtain rfl := H2.out hnl hkl
      go_wp2
      go_ret
      exact ⟨rfl, by (repeat' (first | (with_reducible exact Below.refl _ _) | (with_reducible assumption) | (with_reducible refine Below.setCell ?_ (by first | omega | (simp; done) | (simp; omega)) _) | (with_reducible refine Below.alloc ?_ (by first | omega | (simp; done) | (simp; omega)) _) | (with_reducible refine below_drewN ?_ _) | (with_reducible refine Below.drew ?_)))⟩
    obtain rfl := H1.out hgl
    cases hnl : nl
    · go_wp2
      go_ret
      exact ⟨rfl, by (repeat' (first | (with_reducible exact Below.refl _ _) | (with_reducible assumption) | (with_reducible refine Below.setCell ?_ (by first | omega | (simp; done) | (simp; omega)) _) | (with_reducible refine Below.alloc ?_ (by first | omega | (simp; done) | (simp; omega)) _) | (with_reducible refine below_drewN ?_ _) | (with_reducible refine Below.drew ?_)))⟩
    cases hkl : kl
    · go_wp2
      go_ret
      exact ⟨rfl, by (repeat' (first | (with_reducible exact Below.refl _ _) | (with_reducible assumption) | (with_reducible refine Below.setCell ?_ (by first | omega | (simp; done) | (simp; omega)) _) | (with_reducible refine Below.alloc ?_ (by first | omega | (simp; done) | (simp; omega)) _) | (with_reducible refine below_drewN ?_ _) | (with_reducible refine Below.drew ?_)))⟩
    obtain rfl := H2.out hnl hkl
    go_wp2
    go_ret
    exact ⟨rfl, by (repeat' (first | (with_reducible exact Below.refl _ _) | (with_reducible assumption) | (with_reducible refine Below.setCell ?_ (by first | omega | (simp; done) | (simp; omega)) _) | (with_reducible refine Below.alloc ?_ (by first | omega | (simp; done) | (simp; omega)) _) | (with_reducible refine below_drewN ?_ _) | (with_reducible refine Below.drew ?_)))⟩
  · have hd : decide ((1048576 : Int) < (len : Int)) = true := by simp; omega
    go_enter Tryd.func11, Tryd.ntmps11
    go_wp2
    go_ret
    exact ⟨rfl, by (repeat' (first | (with_reducible exact Below.refl _ _) | (with_reducible assumption) | (with_reducible refine Below.setCell ?_ (by first | omega | (simp; done) | (simp; omega)) _) | (with_reducible refine Below.alloc ?_ (by first | omega | (simp; done) | (simp; omega)) _) | (with_reducible refine below_drewN ?_ _) | (with_reducible refine Below.drew ?_)))⟩
end Go.Proofs.YtmaifiakjlbooaaDoor
