/-
  The walk of the statement on light that stays: it returns true, whatever the bytes.
-/
import Derived.Test.YtiagnnmnaakmoaaDoorHg
import Derived.Test.YtiagnnmnaakmoaaDoorHi
namespace Go.Proofs.YtiagnnmnaakmoaaDoor
set_option linter.unusedSimpArgs false
set_option linter.unusedVariables false
open Go.RowKit
attribute [local go_sem ↓] Go.wp_at_zero Go.wp_at_succ
theorem times_m (a b N : Fr) (nl : Bool) (w : World) (e : frb (timesI a b) = .tuple #[frv N, .bool nl]) :
    Calls Tryd.prog 18 #[frv a, frv b] w fun e w' => e = .returned (.tuple #[frv N, .bool nl]) ∧ Below w.heap.size w w' := by rw [← e]; exact times_any a b w
set_option maxRecDepth 100000 in
set_option maxHeartbeats 4000000 in
theorem fnStays_walk (A : Option Addr) (len cap : Nat) (w : World) (hby : Bytes A len cap w) (hGO : GO w) (hGZ : GZ w) (hGT : GT w) (hGS : GS w) :
    Calls Tryd.prog 6 #[.slice A len cap] w fun e w' => e = .returned (.bool true) ∧ Below w.heap.size w w' := by
  by_cases hl : len ≤ 1048576
  · have hd : decide ((1048576 : Int) < (len : Int)) = false := by simp; omega
    go_enter Tryd.func6, Tryd.ntmps6
    go_wp2_with (go_at_call 20; (with_reducible refine (drawFibreStays_any A len cap _ hby).mono ?_); rintro e w1 ⟨A1, n1, c1, xs, j, rfl, hO, hB⟩; refine Hid.out ?_)
    refine Lib.hid ?_
    have hz1 := hB.size
    obtain ⟨bv, hbv⟩ : ∃ bv, fibStaysI xs j = bv := ⟨_, rfl⟩
    obtain ⟨T, hT⟩ : ∃ T, T = jJ j := ⟨_, rfl⟩
    obtain ⟨M, hM⟩ : ∃ M : Jn, M = (fibRunI xs T).getD ⟨⟨0, 0, 0⟩, ⟨0, 0, 0⟩⟩ := ⟨_, rfl⟩
    obtain ⟨ql, hql⟩ : ∃ ql : Bool, ql = (fibRunI xs T).isSome := ⟨_, rfl⟩
    obtain ⟨N, hN⟩ : ∃ N : Fr, N = (timesI T.x M.y).getD ⟨0, 0, 0⟩ := ⟨_, rfl⟩
    obtain ⟨rl, hrl⟩ : ∃ rl : Bool, rl = (timesI T.x M.y).isSome := ⟨_, rfl⟩
    obtain ⟨K, hK⟩ : ∃ K : Fr, K = (timesI T.y M.x).getD ⟨0, 0, 0⟩ := ⟨_, rfl⟩
    obtain ⟨sl, hsl⟩ : ∃ sl : Bool, sl = (timesI T.y M.x).isSome := ⟨_, rfl⟩
    have HB := Lib.hid hbv
    have HC := Lib.hid (show jnb (fibRunI xs T) = .tuple #[jnv M, .bool ql] by rw [hM, hql])
    have HN := Lib.hid (show frb (timesI T.x M.y) = .tuple #[frv N, .bool rl] by rw [hN, hrl])
    have HK := Lib.hid (show frb (timesI T.y M.x) = .tuple #[frv K, .bool sl] by rw [hK, hsl])
    have hS : ∀ {α : Type} {o : Option α} {z a : α}, a = o.getD z → o.isSome = true → o = some a := by
      intro α o z a h1 h2
      cases o with
      | none => cases h2
      | some x => rw [h1]; rfl
    have H1 := Lib.hid (show bv = true → jvalid j = true by
      intro h
      rw [← hbv] at h
      unfold fibStaysI at h
      cases hx : fibRunI xs j with
      | none => rw [hx] at h; cases h
      | some u => exact (run_valid hx).1)
    have H2 := Lib.hid (show bv = true → ql = true → rl = true → sl = true → fibStaysI xs T = true by
      intro h h1 h2 h3
      rw [← hbv] at h
      have ht := stays_told h
      rw [← hT] at ht
      exact stays_turn h ht (hS hM (hql ▸ h1)) (hS hN (hrl ▸ h2)) (hS hK (hsl ▸ h3)))
    have HT := Lib.hid hT
    clear hbv hM hql hN hrl hK hsl hS hT
    have hJ := JnAt.new w1 j 33
    have hO := hO.alloc (.cells #[.int .i64 j.x.re, .int .i64 j.x.im, .int .i64 j.x.den, .int .i64 j.y.re, .int .i64 j.y.im, .int .i64 j.y.den] 33)
    have hB : Below w.heap.size w (w1.alloc (.cells #[.int .i64 j.x.re, .int .i64 j.x.im, .int .i64 j.x.den, .int .i64 j.y.re, .int .i64 j.y.im, .int .i64 j.y.den] 33)) := hB.alloc hz1 _
    clear hz1
    go_wp2_with (go_at_call 11; (with_reducible refine (stays_m A1 _ c1 xs j bv _ hO (hGO.below hB) (hGZ.below hB) (hGT.below hB) (hGS.below hB) HB).mono ?_); rintro e w2 ⟨rfl, hb⟩; refine Hid.out ?_)
    refine Lib.hid ?_
    have hJ := hJ.below hb hJ.lt
    have hO := hO.below hb
    have hB : Below w.heap.size w w2 := bstep hB hb hB.size
    clear hb
    have hj := hJ
    obtain ⟨hj0, hj1, hj2, hj3, hj4, hj5⟩ := hj
    go_wp2_with (go_at_call 8; (with_reducible refine (sstays_m A1 _ c1 xs j bv _ hO HB).mono ?_); clear hj0 hj1 hj2 hj3 hj4 hj5; rintro e w3 ⟨rfl, hb⟩; refine Hid.out ?_)
    refine Lib.hid ?_
    have hJ := hJ.below hb hJ.lt
    have hO := hO.below hb
    have hB : Below w.heap.size w w3 := bstep hB hb hB.size
    clear hb
    cases hbv : bv
    · go_wp2
      go_ret
      exact ⟨rfl, by exact below_⟩
    have hvj := Lib.hid (H1.out hbv)
    have H2 := Lib.hid (H2.out hbv)
    clear H1 HB hbv
    have hj := hJ
    obtain ⟨hj0, hj1, hj2, hj3, hj4, hj5⟩ := hj
    go_wp2_with (go_at_call 21; (with_reducible refine (jtimes_any j _ hvj.out).mono ?_); clear hj0 hj1 hj2 hj3 hj4 hj5; rintro e w4 ⟨rfl, hb⟩; rw [← HT.out]; refine Hid.out ?_)
    refine Lib.hid ?_
    clear hJ
    have hO := hO.below hb
    have hB : Below w.heap.size w w4 := bstep hB hb hB.size
    clear hb
    have hzB := hB.size
    have hO := hO.alloc (.cells #[.int .i64 T.x.re, .int .i64 T.x.im, .int .i64 T.x.den, .int .i64 T.y.re, .int .i64 T.y.im, .int .i64 T.y.den] 33)
    have hT := JnAt.new w4 T 33
    have hB : Below w.heap.size w (w4.alloc (.cells #[.int .i64 T.x.re, .int .i64 T.x.im, .int .i64 T.x.den, .int .i64 T.y.re, .int .i64 T.y.im, .int .i64 T.y.den] 33)) := hB.alloc hzB _
    clear hzB
    go_wp2_with (go_at_call 22; (with_reducible refine (fibRun_m A1 _ c1 xs T M ql _ hO (hGO.below hB) (hGZ.below hB) (hGT.below hB) (hGS.below hB) HC.out).mono ?_); rintro e w5 ⟨rfl, hb⟩; refine Hid.out ?_)
    refine Lib.hid ?_
    have hT := hT.below hb hT.lt
    have hO := hO.below hb
    have hB : Below w.heap.size w w5 := bstep hB hb hB.size
    clear hb
    have hzB := hB.size
    have hT := hT.alloc (.cells #[.int .i64 M.x.re, .int .i64 M.x.im, .int .i64 M.x.den, .int .i64 M.y.re, .int .i64 M.y.im, .int .i64 M.y.den] 33)
    have hO := hO.alloc (.cells #[.int .i64 M.x.re, .int .i64 M.x.im, .int .i64 M.x.den, .int .i64 M.y.re, .int .i64 M.y.im, .int .i64 M.y.den] 33)
    have hM := JnAt.new w5 M 33
    have hB : Below w.heap.size w (w5.alloc (.cells #[.int .i64 M.x.re, .int .i64 M.x.im, .int .i64 M.x.den, .int .i64 M.y.re, .int .i64 M.y.im, .int .i64 M.y.den] 33)) := hB.alloc hzB _
    clear hzB
    have ht := hT
    obtain ⟨ht0, ht1, ht2, ht3, ht4, ht5⟩ := ht
    go_wp2_with (go_at_call 18; (with_reducible refine (times_m T.x M.y N rl _ HN.out).mono ?_); clear ht0 ht1 ht2 ht3 ht4 ht5; rintro e w6 ⟨rfl, hb⟩; refine Hid.out ?_)
    refine Lib.hid ?_
    have hT := hT.below hb hT.lt
    have hM := hM.below hb hM.lt
    have hO := hO.below hb
    have hB : Below w.heap.size w w6 := bstep hB hb hB.size
    clear hb
    have hzB := hB.size
    have hT := hT.alloc (.cells #[.int .i64 N.re, .int .i64 N.im, .int .i64 N.den] 31)
    have hM := hM.alloc (.cells #[.int .i64 N.re, .int .i64 N.im, .int .i64 N.den] 31)
    have hO := hO.alloc (.cells #[.int .i64 N.re, .int .i64 N.im, .int .i64 N.den] 31)
    have hB : Below w.heap.size w (w6.alloc (.cells #[.int .i64 N.re, .int .i64 N.im, .int .i64 N.den] 31)) := hB.alloc hzB _
    clear hzB
    have ht := hT
    obtain ⟨ht0, ht1, ht2, ht3, ht4, ht5⟩ := ht
    obtain ⟨hM0, hM1, hM2, hM3, hM4, hM5⟩ := hM
    go_wp2_with (go_at_call 18; (with_reducible refine (times_m T.y M.x K sl _ HK.out).mono ?_); clear ht0 ht1 ht2 ht3 ht4 ht5 hM0 hM1 hM2 hM3 hM4 hM5; rintro e w7 ⟨rfl, hb⟩; refine Hid.out ?_)
    refine Lib.hid ?_
    have hT := hT.below hb hT.lt
    have hO := hO.below hb
    have hB : Below w.heap.size w w7 := bstep hB hb hB.size
    clear hb
    have hzB := hB.size
    have hT := hT.alloc (.cells #[.int .i64 K.re, .int .i64 K.im, .int .i64 K.den] 31)
    have hO := hO.alloc (.cells #[.int .i64 K.re, .int .i64 K.im, .int .i64 K.den] 31)
    have hB : Below w.heap.size w (w7.alloc (.cells #[.int .i64 K.re, .int .i64 K.im, .int .i64 K.den] 31)) := hB.alloc hzB _
    clear hzB
    obtain ⟨hT0, hT1, hT2, hT3, hT4, hT5⟩ := hT
    cases hql : ql
    · go_wp2
      go_ret
      exact ⟨rfl, by exact below_⟩
    cases hrl : rl
    · go_wp2
      go_ret
      exact ⟨rfl, by exact below_⟩
    cases hsl : sl
    · go_wp2
      go_ret
      exact ⟨rfl, by exact below_⟩
    have HZ := Lib.hid (H2.out hql hrl hsl)
    clear H2
    go_wp2_with (go_at_call 11; (with_reducible refine (stays_m A1 _ c1 xs T true _ hO (hGO.below hB) (hGZ.below hB) (hGT.below hB) (hGS.below hB) HZ).mono ?_); rintro e w8 ⟨rfl, hb⟩; have hB8 : Below w.heap.size w w8 := bstep hB hb hB.size; clear hb)
    go_ret
    exact ⟨rfl, by exact below_⟩
  · have hd : decide ((1048576 : Int) < (len : Int)) = true := by simp; omega
    go_enter Tryd.func6, Tryd.ntmps6
    go_wp2
    go_ret
    exact ⟨rfl, by exact below_⟩
end Go.Proofs.YtiagnnmnaakmoaaDoor
