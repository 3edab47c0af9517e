/-
  The walk of the statement on the power that fibres keep: it returns true, whatever the bytes.
-/
import Derived.Test.YtmaifiakjlbooaaDoorVp
import Derived.Test.YtmaifiakjlbooaaDoorVe
import Derived.Test.YtmaifiakjlbooaaDoorGc
import Derived.Test.YtmaifiakjlbooaaDoorDf
import Derived.Test.YtmaifiakjlbooaaDoorEq
namespace Go.Proofs.YtmaifiakjlbooaaDoor
set_option linter.unusedSimpArgs false
set_option linter.unusedVariables false
open Go.RowKit
attribute [local go_sem ↓] Go.wp_at_zero Go.wp_at_succ
attribute [local go_sem] eqM_run eq_oneM
theorem eq_lit (w : World) : (Op.equalIn 9999 30 (.agg #[.int .i64 1, .int .i64 0, .int .i64 1, .int .i64 0, .int .i64 0, .int .i64 1, .int .i64 0, .int .i64 0, .int .i64 1, .int .i64 1, .int .i64 0, .int .i64 1]) (.agg #[.int .i64 1, .int .i64 0, .int .i64 1, .int .i64 0, .int .i64 0, .int .i64 1, .int .i64 0, .int .i64 0, .int .i64 1, .int .i64 1, .int .i64 0, .int .i64 1])).run Tryd.prog w = .ok true w := by kernel_rfl
attribute [local go_sem] eq_lit
theorem back_tr (A : Option Addr) (len cap : Nat) (xs : List Sec) (w : World) (h : Secs A len cap xs w) (hf : fibOk xs = true) :
    Calls Tryd.prog 26 #[.slice A len cap] w fun e w' => ∃ v, e = .returned (.tuple #[v, .bool true]) ∧ Own w.heap.size v (backI xs) w' ∧ Below w.heap.size w w' := by rw [← hf]; exact back_any A len cap xs w h
theorem madj_m (m N : Mt) (nl : Bool) (w : World) (e : mtb (madjI m) = .tuple #[mtv N, .bool nl]) :
    Calls Tryd.prog 24 #[mtv m] w fun e w' => e = .returned (.tuple #[mtv N, .bool nl]) ∧ Below w.heap.size w w' := by rw [← e]; exact madj_any m w
theorem mtimes_m (m n N : Mt) (nl : Bool) (w : World) (e : mtb (mtimesI m n) = .tuple #[mtv N, .bool nl]) :
    Calls Tryd.prog 25 #[mtv m, mtv n] w fun e w' => e = .returned (.tuple #[mtv N, .bool nl]) ∧ Below w.heap.size w w' := by rw [← e]; exact mtimes_any m n w
theorem sfibMat_m (A : Option Addr) (len cap : Nat) (xs : List Sec) (M : Mt) (fl : Bool) (w : World) (h : Secs A len cap xs w) (e : mtb (fibMatI xs) = .tuple #[mtv M, .bool fl]) :
    Calls Tryd.prog 23 #[.slice A len cap] w fun e w' => e = .returned (.tuple #[mtv M, .bool fl]) ∧ Below w.heap.size w w' := by rw [← e]; exact sfibMat_any A len cap xs w h
set_option maxRecDepth 100000 in
set_option maxHeartbeats 4000000 in
/-- A matrix that loses no light. -/
theorem lossless_t (m a : Mt) (w : World) (hGS : GS w) (ha : madjI m = some a) (hr : mtimesI m a = some oneM) :
    Calls Tryd.prog 27 #[mtv m] w fun e w' => e = .returned (.bool true) ∧ Below w.heap.size w w' := by
  have HA := Lib.hid (show mtb (madjI m) = .tuple #[mtv a, .bool true] by rw [ha]; rfl)
  have HR := Lib.hid (show mtb (mtimesI m a) = .tuple #[mtv (⟨⟨1, 0, 1⟩, ⟨0, 0, 1⟩, ⟨0, 0, 1⟩, ⟨1, 0, 1⟩⟩ : Mt), .bool true] by rw [hr]; rfl)
  clear ha hr
  have hJ := MtAt.new w m 32
  have hB : Below w.heap.size w (w.alloc (.cells #[.int .i64 m.a.re, .int .i64 m.a.im, .int .i64 m.a.den, .int .i64 m.b.re, .int .i64 m.b.im, .int .i64 m.b.den, .int .i64 m.c.re, .int .i64 m.c.im, .int .i64 m.c.den, .int .i64 m.d.re, .int .i64 m.d.im, .int .i64 m.d.den] 32)) := (Below.refl _ _).alloc (Nat.le_refl _) _
  go_enter Tryd.func27, Tryd.ntmps27
  go_wp2_with (go_at_call 24; (with_reducible refine (madj_m m a true _ HA.out).mono ?_); rintro e w1 ⟨rfl, hb⟩; refine Hid.out ?_)
  refine Lib.hid ?_
  have hJ := hJ.below hb hJ.lt
  have hB : Below w.heap.size w w1 := bstep hB hb hB.size
  clear hb
  have hzB := hB.size
  have hJ := hJ.alloc (.cells #[.int .i64 a.a.re, .int .i64 a.a.im, .int .i64 a.a.den, .int .i64 a.b.re, .int .i64 a.b.im, .int .i64 a.b.den, .int .i64 a.c.re, .int .i64 a.c.im, .int .i64 a.c.den, .int .i64 a.d.re, .int .i64 a.d.im, .int .i64 a.d.den] 32)
  have hB : Below w.heap.size w (w1.alloc (.cells #[.int .i64 a.a.re, .int .i64 a.a.im, .int .i64 a.a.den, .int .i64 a.b.re, .int .i64 a.b.im, .int .i64 a.b.den, .int .i64 a.c.re, .int .i64 a.c.im, .int .i64 a.c.den, .int .i64 a.d.re, .int .i64 a.d.im, .int .i64 a.d.den] 32)) := hB.alloc hzB _
  clear hzB
  obtain ⟨j0, j1, j2, j3, j4, j5, j6, j7, j8, j9, j10, j11⟩ := hJ
  go_wp2_with (go_at_call 25; (with_reducible refine (mtimes_m m a (⟨⟨1, 0, 1⟩, ⟨0, 0, 1⟩, ⟨0, 0, 1⟩, ⟨1, 0, 1⟩⟩ : Mt) true _ HR.out).mono ?_); rintro e w2 ⟨rfl, hb⟩; refine Hid.out ?_)
  refine Lib.hid ?_
  have hB : Below w.heap.size w w2 := bstep hB hb hB.size
  have hz := hB.size
  have hG := hGS.below hB
  clear hb j0 j1 j2 j3 j4 j5 j6 j7 j8 j9 j10 j11
  obtain ⟨hlt2, ⟨g0, g1, g2⟩, ⟨g3, g4, g5⟩, ⟨g6, g7, g8⟩, ⟨g9, g10, g11⟩⟩ := hG
  go_wp2
  go_ret
  exact ⟨rfl, by (repeat' (first | (with_reducible exact Below.refl _ _) | (with_reducible assumption) | (with_reducible refine Below.setCell ?_ (by first | omega | (simp; done) | (simp; omega)) _) | (with_reducible refine Below.alloc ?_ (by first | omega | (simp; done) | (simp; omega)) _) | (with_reducible refine below_drewN ?_ _) | (with_reducible refine Below.drew ?_)))⟩
set_option maxRecDepth 100000 in
set_option maxHeartbeats 4000000 in
theorem fnFibreMat_walk (A : Option Addr) (len cap : Nat) (w : World) (hby : Bytes A len cap w) (hGO : GO w) (hGZ : GZ w) (hGT : GT w) (hGS : GS w) :
    Calls Tryd.prog 5 #[.slice A len cap] w fun e w' => e = .returned (.bool true) ∧ Below w.heap.size w w' := by
  by_cases hl : len ≤ 1048576
  · have hd : decide ((1048576 : Int) < (len : Int)) = false := by simp; omega
    go_enter Tryd.func5, Tryd.ntmps5
    go_wp2_with (go_at_call 22; (with_reducible refine (drawFibreMat_any A len cap _ hby).mono ?_); rintro e w1 ⟨xs, v, rfl, ⟨hO, hl7⟩, hB⟩; refine Hid.out ?_)
    refine Lib.hid ?_
    obtain ⟨A1, c1, rfl, -⟩ := hO.secs
    obtain ⟨M, hM⟩ : ∃ M : Mt, M = (fibMatI xs).getD ⟨⟨0, 0, 0⟩, ⟨0, 0, 0⟩, ⟨0, 0, 0⟩, ⟨0, 0, 0⟩⟩ := ⟨_, rfl⟩
    obtain ⟨fl, hfl⟩ : ∃ fl : Bool, fl = (fibMatI xs).isSome := ⟨_, rfl⟩
    obtain ⟨J, hJ⟩ : ∃ J : Mt, J = (madjI M).getD ⟨⟨0, 0, 0⟩, ⟨0, 0, 0⟩, ⟨0, 0, 0⟩, ⟨0, 0, 0⟩⟩ := ⟨_, rfl⟩
    obtain ⟨al, hal⟩ : ∃ al : Bool, al = (madjI M).isSome := ⟨_, rfl⟩
    obtain ⟨R, hR⟩ : ∃ R : Mt, R = (mtimesI M J).getD ⟨⟨0, 0, 0⟩, ⟨0, 0, 0⟩, ⟨0, 0, 0⟩, ⟨0, 0, 0⟩⟩ := ⟨_, rfl⟩
    obtain ⟨rl, hrl⟩ : ∃ rl : Bool, rl = (mtimesI M J).isSome := ⟨_, rfl⟩
    obtain ⟨N, hN⟩ : ∃ N : Mt, N = (fibMatI (backI xs)).getD ⟨⟨0, 0, 0⟩, ⟨0, 0, 0⟩, ⟨0, 0, 0⟩, ⟨0, 0, 0⟩⟩ := ⟨_, rfl⟩
    obtain ⟨nl, hnl⟩ : ∃ nl : Bool, nl = (fibMatI (backI xs)).isSome := ⟨_, rfl⟩
    obtain ⟨X, hX⟩ : ∃ X : Mt, X = (mtimesI N M).getD ⟨⟨0, 0, 0⟩, ⟨0, 0, 0⟩, ⟨0, 0, 0⟩, ⟨0, 0, 0⟩⟩ := ⟨_, rfl⟩
    obtain ⟨xl, hxl⟩ : ∃ xl : Bool, xl = (mtimesI N M).isSome := ⟨_, rfl⟩
    have HC := Lib.hid (show mtb (fibMatI xs) = .tuple #[mtv M, .bool fl] by rw [hM, hfl])
    have HA := Lib.hid (show mtb (madjI M) = .tuple #[mtv J, .bool al] by rw [hJ, hal])
    have HR := Lib.hid (show mtb (mtimesI M J) = .tuple #[mtv R, .bool rl] by rw [hR, hrl])
    have HN := Lib.hid (show mtb (fibMatI (backI xs)) = .tuple #[mtv N, .bool nl] by rw [hN, hnl])
    have HX := Lib.hid (show mtb (mtimesI N M) = .tuple #[mtv X, .bool xl] by rw [hX, hxl])
    have hS : ∀ {α : Type} {o : Option α} {z a : α}, a = o.getD z → o.isSome = true → o = some a := by
      intro α o z a h1 h2
      cases o with
      | none => cases h2
      | some x => rw [h1]; rfl
    have H0 := Lib.hid (show fl = true → al = true by
      intro h1
      obtain ⟨a, ha, -⟩ := fib_adj (hS hM (hfl ▸ h1))
      rw [hal, ha]; rfl)
    have H1 := Lib.hid (show fl = true → rl = true → madjI M = some J ∧ mtimesI M J = some oneM by
      intro h1 h2
      obtain ⟨a, ha, hr⟩ := fib_adj (hS hM (hfl ▸ h1))
      obtain rfl : J = a := by rw [hJ, ha]; rfl
      have := hS hR (hrl ▸ h2)
      rw [hr R this] at this
      exact ⟨ha, this⟩)
    have H2 := Lib.hid (show fl = true → nl = true → xl = true → X = oneM by
      intro h1 h2 h3
      exact back_one (hS hM (hfl ▸ h1)) (hS hN (hnl ▸ h2)) (hS hX (hxl ▸ h3)))
    have H3 := Lib.hid (show fl = true → fibOk xs = true by
      intro h1
      exact fib_ok (hS hM (hfl ▸ h1)))
    clear hM hfl hJ hal hR hrl hN hnl hX hxl hS
    go_wp2_with (go_at_call 16; (with_reducible refine (fibMat_m A1 _ c1 xs M fl _ hO.read (hGO.below hB) (hGZ.below hB) (hGT.below hB) (hGS.below hB) HC.out).mono ?_); rintro e w2 ⟨rfl, hb⟩; refine Hid.out ?_)
    refine Lib.hid ?_
    have hO := hO.below hb
    have hB : Below w.heap.size w w2 := bstep hB hb hB.size
    clear hb
    have hzB := hB.size
    have hO := hO.alloc (.cells #[.int .i64 M.a.re, .int .i64 M.a.im, .int .i64 M.a.den, .int .i64 M.b.re, .int .i64 M.b.im, .int .i64 M.b.den, .int .i64 M.c.re, .int .i64 M.c.im, .int .i64 M.c.den, .int .i64 M.d.re, .int .i64 M.d.im, .int .i64 M.d.den] 32)
    have hM := MtAt.new w2 M 32
    have hB : Below w.heap.size w (w2.alloc (.cells #[.int .i64 M.a.re, .int .i64 M.a.im, .int .i64 M.a.den, .int .i64 M.b.re, .int .i64 M.b.im, .int .i64 M.b.den, .int .i64 M.c.re, .int .i64 M.c.im, .int .i64 M.c.den, .int .i64 M.d.re, .int .i64 M.d.im, .int .i64 M.d.den] 32)) := hB.alloc hzB _
    clear hzB
    go_wp2_with (go_at_call 23; (with_reducible refine (sfibMat_m A1 _ c1 xs M fl _ hO.read HC.out).mono ?_); rintro e w3 ⟨rfl, hb⟩; refine Hid.out ?_)
    refine Lib.hid ?_
    have hM := hM.below hb hM.lt
    have hO := hO.below hb
    have hB : Below w.heap.size w w3 := bstep hB hb hB.size
    clear hb
    have hzB := hB.size
    have hM := hM.alloc (.cells #[.int .i64 M.a.re, .int .i64 M.a.im, .int .i64 M.a.den, .int .i64 M.b.re, .int .i64 M.b.im, .int .i64 M.b.den, .int .i64 M.c.re, .int .i64 M.c.im, .int .i64 M.c.den, .int .i64 M.d.re, .int .i64 M.d.im, .int .i64 M.d.den] 32)
    have hO := hO.alloc (.cells #[.int .i64 M.a.re, .int .i64 M.a.im, .int .i64 M.a.den, .int .i64 M.b.re, .int .i64 M.b.im, .int .i64 M.b.den, .int .i64 M.c.re, .int .i64 M.c.im, .int .i64 M.c.den, .int .i64 M.d.re, .int .i64 M.d.im, .int .i64 M.d.den] 32)
    have hB : Below w.heap.size w (w3.alloc (.cells #[.int .i64 M.a.re, .int .i64 M.a.im, .int .i64 M.a.den, .int .i64 M.b.re, .int .i64 M.b.im, .int .i64 M.b.den, .int .i64 M.c.re, .int .i64 M.c.im, .int .i64 M.c.den, .int .i64 M.d.re, .int .i64 M.d.im, .int .i64 M.d.den] 32)) := hB.alloc hzB _
    clear hzB
    have hm := hM
    obtain ⟨hm0, hm1, hm2, hm3, hm4, hm5, hm6, hm7, hm8, hm9, hm10, hm11⟩ := hm
    cases hfl : fl
    · go_wp2
      go_ret
      exact ⟨rfl, by (repeat' (first | (with_reducible exact Below.refl _ _) | (with_reducible assumption) | (with_reducible refine Below.setCell ?_ (by first | omega | (simp; done) | (simp; omega)) _) | (with_reducible refine Below.alloc ?_ (by first | omega | (simp; done) | (simp; omega)) _) | (with_reducible refine below_drewN ?_ _) | (with_reducible refine Below.drew ?_)))⟩
    have hok := Lib.hid (H3.out hfl)
    obtain rfl := H0.out hfl
    have H1 := Lib.hid (H1.out hfl)
    have H2 := Lib.hid (H2.out hfl)
    clear H3 H0 HC hfl
    go_wp2_with (go_at_call 24; (with_reducible refine (madj_m M J true _ HA.out).mono ?_); clear hm0 hm1 hm2 hm3 hm4 hm5 hm6 hm7 hm8 hm9 hm10 hm11; rintro e w4 ⟨rfl, hb⟩; refine Hid.out ?_)
    refine Lib.hid ?_
    have hM := hM.below hb hM.lt
    have hO := hO.below hb
    have hB : Below w.heap.size w w4 := bstep hB hb hB.size
    clear hb
    have hzB := hB.size
    have hM := hM.alloc (.cells #[.int .i64 J.a.re, .int .i64 J.a.im, .int .i64 J.a.den, .int .i64 J.b.re, .int .i64 J.b.im, .int .i64 J.b.den, .int .i64 J.c.re, .int .i64 J.c.im, .int .i64 J.c.den, .int .i64 J.d.re, .int .i64 J.d.im, .int .i64 J.d.den] 32)
    have hO := hO.alloc (.cells #[.int .i64 J.a.re, .int .i64 J.a.im, .int .i64 J.a.den, .int .i64 J.b.re, .int .i64 J.b.im, .int .i64 J.b.den, .int .i64 J.c.re, .int .i64 J.c.im, .int .i64 J.c.den, .int .i64 J.d.re, .int .i64 J.d.im, .int .i64 J.d.den] 32)
    have hB : Below w.heap.size w (w4.alloc (.cells #[.int .i64 J.a.re, .int .i64 J.a.im, .int .i64 J.a.den, .int .i64 J.b.re, .int .i64 J.b.im, .int .i64 J.b.den, .int .i64 J.c.re, .int .i64 J.c.im, .int .i64 J.c.den, .int .i64 J.d.re, .int .i64 J.d.im, .int .i64 J.d.den] 32)) := hB.alloc hzB _
    clear hzB
    have hm := hM
    obtain ⟨hm0, hm1, hm2, hm3, hm4, hm5, hm6, hm7, hm8, hm9, hm10, hm11⟩ := hm
    go_wp2_with (go_at_call 25; (with_reducible refine (mtimes_m M J R rl _ HR.out).mono ?_); clear hm0 hm1 hm2 hm3 hm4 hm5 hm6 hm7 hm8 hm9 hm10 hm11; rintro e w5 ⟨rfl, hb⟩; refine Hid.out ?_)
    refine Lib.hid ?_
    have hM := hM.below hb hM.lt
    have hO := hO.below hb
    have hB : Below w.heap.size w w5 := bstep hB hb hB.size
    clear hb
    have hzB := hB.size
    have hM := hM.alloc (.cells #[.int .i64 R.a.re, .int .i64 R.a.im, .int .i64 R.a.den, .int .i64 R.b.re, .int .i64 R.b.im, .int .i64 R.b.den, .int .i64 R.c.re, .int .i64 R.c.im, .int .i64 R.c.den, .int .i64 R.d.re, .int .i64 R.d.im, .int .i64 R.d.den] 32)
    have hO := hO.alloc (.cells #[.int .i64 R.a.re, .int .i64 R.a.im, .int .i64 R.a.den, .int .i64 R.b.re, .int .i64 R.b.im, .int .i64 R.b.den, .int .i64 R.c.re, .int .i64 R.c.im, .int .i64 R.c.den, .int .i64 R.d.re, .int .i64 R.d.im, .int .i64 R.d.den] 32)
    have hB : Below w.heap.size w (w5.alloc (.cells #[.int .i64 R.a.re, .int .i64 R.a.im, .int .i64 R.a.den, .int .i64 R.b.re, .int .i64 R.b.im, .int .i64 R.b.den, .int .i64 R.c.re, .int .i64 R.c.im, .int .i64 R.c.den, .int .i64 R.d.re, .int .i64 R.d.im, .int .i64 R.d.den] 32)) := hB.alloc hzB _
    clear hzB
    go_wp2_with (go_at_call 26; (with_reducible refine (back_tr A1 _ c1 xs _ hO.read hok.out).mono ?_); rintro e w6 ⟨v6, rfl, hO6, hb⟩; refine Hid.out ?_)
    refine Lib.hid ?_
    obtain ⟨A6, c6, rfl, -⟩ := hO6.secs
    have hM := hM.below hb hM.lt
    have hB : Below w.heap.size w w6 := bstep hB hb hB.size
    clear hb
    clear hO hok
    go_wp2_with (go_at_call 16; (with_reducible refine (fibMat_m A6 _ c6 (backI xs) N nl _ hO6.read (hGO.below hB) (hGZ.below hB) (hGT.below hB) (hGS.below hB) HN.out).mono ?_); rintro e w7 ⟨rfl, hb⟩; refine Hid.out ?_)
    refine Lib.hid ?_
    clear hO6 HN
    have hM := hM.below hb hM.lt
    have hB : Below w.heap.size w w7 := bstep hB hb hB.size
    clear hb
    have hzB := hB.size
    have hM := hM.alloc (.cells #[.int .i64 N.a.re, .int .i64 N.a.im, .int .i64 N.a.den, .int .i64 N.b.re, .int .i64 N.b.im, .int .i64 N.b.den, .int .i64 N.c.re, .int .i64 N.c.im, .int .i64 N.c.den, .int .i64 N.d.re, .int .i64 N.d.im, .int .i64 N.d.den] 32)
    have hB : Below w.heap.size w (w7.alloc (.cells #[.int .i64 N.a.re, .int .i64 N.a.im, .int .i64 N.a.den, .int .i64 N.b.re, .int .i64 N.b.im, .int .i64 N.b.den, .int .i64 N.c.re, .int .i64 N.c.im, .int .i64 N.c.den, .int .i64 N.d.re, .int .i64 N.d.im, .int .i64 N.d.den] 32)) := hB.alloc hzB _
    clear hzB
    have hm := hM
    obtain ⟨hm0, hm1, hm2, hm3, hm4, hm5, hm6, hm7, hm8, hm9, hm10, hm11⟩ := hm
    go_wp2_with (go_at_call 25; (with_reducible refine (mtimes_m N M X xl _ HX.out).mono ?_); clear hm0 hm1 hm2 hm3 hm4 hm5 hm6 hm7 hm8 hm9 hm10 hm11; rintro e w8 ⟨rfl, hb⟩; refine Hid.out ?_)
    refine Lib.hid ?_
    have hM := hM.below hb hM.lt
    have hB : Below w.heap.size w w8 := bstep hB hb hB.size
    clear hb
    have hzB := hB.size
    have hM := hM.alloc (.cells #[.int .i64 X.a.re, .int .i64 X.a.im, .int .i64 X.a.den, .int .i64 X.b.re, .int .i64 X.b.im, .int .i64 X.b.den, .int .i64 X.c.re, .int .i64 X.c.im, .int .i64 X.c.den, .int .i64 X.d.re, .int .i64 X.d.im, .int .i64 X.d.den] 32)
    have hX := MtAt.new w8 X 32
    have hB : Below w.heap.size w (w8.alloc (.cells #[.int .i64 X.a.re, .int .i64 X.a.im, .int .i64 X.a.den, .int .i64 X.b.re, .int .i64 X.b.im, .int .i64 X.b.den, .int .i64 X.c.re, .int .i64 X.c.im, .int .i64 X.c.den, .int .i64 X.d.re, .int .i64 X.d.im, .int .i64 X.d.den] 32)) := hB.alloc hzB _
    clear hzB
    go_wp2_with (go_at_call 17; (with_reducible refine (rot_10 _).mono ?_); rintro e w9 ⟨rfl, hb⟩; refine Hid.out ?_)
    refine Lib.hid ?_
    have hM := hM.below hb hM.lt
    have hX := hX.below hb hX.lt
    have hB : Below w.heap.size w w9 := bstep hB hb hB.size
    clear hb
    have hzB := hB.size
    have hM := hM.alloc (.cells #[.int .i64 oneM.a.re, .int .i64 oneM.a.im, .int .i64 oneM.a.den, .int .i64 oneM.b.re, .int .i64 oneM.b.im, .int .i64 oneM.b.den, .int .i64 oneM.c.re, .int .i64 oneM.c.im, .int .i64 oneM.c.den, .int .i64 oneM.d.re, .int .i64 oneM.d.im, .int .i64 oneM.d.den] 32)
    have hX := hX.alloc (.cells #[.int .i64 oneM.a.re, .int .i64 oneM.a.im, .int .i64 oneM.a.den, .int .i64 oneM.b.re, .int .i64 oneM.b.im, .int .i64 oneM.b.den, .int .i64 oneM.c.re, .int .i64 oneM.c.im, .int .i64 oneM.c.den, .int .i64 oneM.d.re, .int .i64 oneM.d.im, .int .i64 oneM.d.den] 32)
    have hY := MtAt.new w9 oneM 32
    have hB : Below w.heap.size w (w9.alloc (.cells #[.int .i64 oneM.a.re, .int .i64 oneM.a.im, .int .i64 oneM.a.den, .int .i64 oneM.b.re, .int .i64 oneM.b.im, .int .i64 oneM.b.den, .int .i64 oneM.c.re, .int .i64 oneM.c.im, .int .i64 oneM.c.den, .int .i64 oneM.d.re, .int .i64 oneM.d.im, .int .i64 oneM.d.den] 32)) := hB.alloc hzB _
    clear hzB
    obtain ⟨hM0, hM1, hM2, hM3, hM4, hM5, hM6, hM7, hM8, hM9, hM10, hM11⟩ := hM
    have hx := hX
    have hy := hY
    cases hrl : rl
    · obtain ⟨hx0, hx1, hx2, hx3, hx4, hx5, hx6, hx7, hx8, hx9, hx10, hx11⟩ := hx
      obtain ⟨hy0, hy1, hy2, hy3, hy4, hy5, hy6, hy7, hy8, hy9, hy10, hy11⟩ := hy
      cases hnl : nl
      · go_wp2
        go_ret
        exact ⟨rfl, by (repeat' (first | (with_reducible exact Below.refl _ _) | (with_reducible assumption) | (with_reducible refine Below.setCell ?_ (by first | omega | (simp; done) | (simp; omega)) _) | (with_reducible refine Below.alloc ?_ (by first | omega | (simp; done) | (simp; omega)) _) | (with_reducible refine below_drewN ?_ _) | (with_reducible refine Below.drew ?_)))⟩
      cases hxl : xl
      · go_wp2
        go_ret
        exact ⟨rfl, by (repeat' (first | (with_reducible exact Below.refl _ _) | (with_reducible assumption) | (with_reducible refine Below.setCell ?_ (by first | omega | (simp; done) | (simp; omega)) _) | (with_reducible refine Below.alloc ?_ (by first | omega | (simp; done) | (simp; omega)) _) | (with_reducible refine below_drewN ?_ _) | (with_reducible refine Below.drew ?_)))⟩
      obtain rfl := H2.out hnl hxl
      go_wp2
      go_ret
      exact ⟨rfl, by (repeat' (first | (with_reducible exact Below.refl _ _) | (with_reducible assumption) | (with_reducible refine Below.setCell ?_ (by first | omega | (simp; done) | (simp; omega)) _) | (with_reducible refine Below.alloc ?_ (by first | omega | (simp; done) | (simp; omega)) _) | (with_reducible refine below_drewN ?_ _) | (with_reducible refine Below.drew ?_)))⟩
    have HL := Lib.hid (H1.out hrl)
    clear hx hy
    go_wp2_with (go_at_call 27; (with_reducible refine (lossless_t M J _ (hGS.below hB) HL.out.1 HL.out.2).mono ?_); rintro e w10 ⟨rfl, hb⟩; refine Hid.out ?_)
    refine Lib.hid ?_
    clear hM0 hM1 hM2 hM3 hM4 hM5 hM6 hM7 hM8 hM9 hM10 hM11
    have hX := hX.below hb hX.lt
    have hY := hY.below hb hY.lt
    have hB : Below w.heap.size w w10 := bstep hB hb hB.size
    clear hb
    obtain ⟨hX0, hX1, hX2, hX3, hX4, hX5, hX6, hX7, hX8, hX9, hX10, hX11⟩ := hX
    obtain ⟨hY0, hY1, hY2, hY3, hY4, hY5, hY6, hY7, hY8, hY9, hY10, hY11⟩ := hY
    cases hnl : nl
    · go_wp2
      go_ret
      exact ⟨rfl, by (repeat' (first | (with_reducible exact Below.refl _ _) | (with_reducible assumption) | (with_reducible refine Below.setCell ?_ (by first | omega | (simp; done) | (simp; omega)) _) | (with_reducible refine Below.alloc ?_ (by first | omega | (simp; done) | (simp; omega)) _) | (with_reducible refine below_drewN ?_ _) | (with_reducible refine Below.drew ?_)))⟩
    cases hxl : xl
    · go_wp2
      go_ret
      exact ⟨rfl, by (repeat' (first | (with_reducible exact Below.refl _ _) | (with_reducible assumption) | (with_reducible refine Below.setCell ?_ (by first | omega | (simp; done) | (simp; omega)) _) | (with_reducible refine Below.alloc ?_ (by first | omega | (simp; done) | (simp; omega)) _) | (with_reducible refine below_drewN ?_ _) | (with_reducible refine Below.drew ?_)))⟩
    obtain rfl := H2.out hnl hxl
    go_wp2
    go_ret
    exact ⟨rfl, by (repeat' (first | (with_reducible exact Below.refl _ _) | (with_reducible assumption) | (with_reducible refine Below.setCell ?_ (by first | omega | (simp; done) | (simp; omega)) _) | (with_reducible refine Below.alloc ?_ (by first | omega | (simp; done) | (simp; omega)) _) | (with_reducible refine below_drewN ?_ _) | (with_reducible refine Below.drew ?_)))⟩
  · have hd : decide ((1048576 : Int) < (len : Int)) = true := by simp; omega
    go_enter Tryd.func5, Tryd.ntmps5
    go_wp2
    go_ret
    exact ⟨rfl, by (repeat' (first | (with_reducible exact Below.refl _ _) | (with_reducible assumption) | (with_reducible refine Below.setCell ?_ (by first | omega | (simp; done) | (simp; omega)) _) | (with_reducible refine Below.alloc ?_ (by first | omega | (simp; done) | (simp; omega)) _) | (with_reducible refine below_drewN ?_ _) | (with_reducible refine Below.drew ?_)))⟩
end Go.Proofs.YtmaifiakjlbooaaDoor
