/-
  The walks of the statements that compare the matrix of a fibre with the reference's: they return true, for every list.
-/
import Derived.Test.YtmaifiakjlbooaaDoorFm
import Derived.Test.YtmaifiakjlbooaaDoorFn
import Derived.Test.YtmaifiakjlbooaaDoorGa
namespace Go.Proofs.YtmaifiakjlbooaaDoor
set_option linter.unusedSimpArgs false
set_option linter.unusedVariables false
open Go.RowKit
attribute [local go_sem ↓] Go.wp_at_zero Go.wp_at_succ
theorem Own.read {base n cap : Nat} {A : Option Addr} {xs : List Sec} {w : World} (h : Own base (.slice A n cap) xs w) : Secs A n cap xs w := by
  obtain ⟨A', cap', e, hS⟩ := h.secs
  simp only [Value.slice.injEq] at e
  obtain ⟨rfl, rfl, rfl⟩ := e
  exact hS
set_option maxRecDepth 100000 in
set_option maxHeartbeats 2000000 in
theorem fnExactFibreMat_walk (A : Option Addr) (len cap : Nat) (xs : List Sec) (w : World) (hS0 : Secs A len cap xs w) (hGO : GO w) (hGZ : GZ w) (hGT : GT w) (hGS : GS w) :
    Calls Tryd.prog 6 #[.slice A len cap] w fun e w' => e = .returned (.bool true) ∧ Below w.heap.size w w' := by
  have hcap := hS0.2.2.1
  have hlc := hS0.2.1
  have hgt := hGT.lts
  obtain ⟨M, hM⟩ : ∃ M, M = (fibMatI xs).getD ⟨⟨0, 0, 0⟩, ⟨0, 0, 0⟩, ⟨0, 0, 0⟩, ⟨0, 0, 0⟩⟩ := ⟨_, rfl⟩
  obtain ⟨fl, hfl⟩ : ∃ fl, fl = (fibMatI xs).isSome := ⟨_, rfl⟩
  have HC : mtb (fibMatI xs) = .tuple #[mtv M, .bool fl] := by rw [hM, hfl]
  have HC := Lib.hid HC
  clear hM hfl
  by_cases hbig : 1048576 < len
  · go_enter Tryd.func6, Tryd.ntmps6
    go_wp2_with (go_at_call 28; (with_reducible refine (sz_far A len cap _ hbig (by omega)).mono ?_); rintro e w1 ⟨rfl, hb⟩)
    go_ret
    exact ⟨rfl, hb⟩
  have hlen : len ≤ 1048576 := by omega
  clear hbig
  go_enter Tryd.func6, Tryd.ntmps6
  go_wp2_with (go_at_call 28; (with_reducible refine (sz_any A len cap 1048576 _ (by omega) (by omega)).mono ?_); rintro e w1 ⟨rfl, hb⟩; refine Hid.out ?_)
  refine Lib.hid ?_
  have hB := hb
  clear hb
  go_wp2_with (go_at_call 29; (with_reducible refine (toSecs_any A len cap xs _ (hS0.below hB) hlen).mono ?_); rintro e w2 ⟨va, rfl, Oa, hb⟩; refine Hid.out ?_)
  refine Lib.hid ?_
  have hB : Below w.heap.size w w2 := bstep hB hb hB.size
  obtain ⟨A1, c1, rfl, -⟩ := Oa.secs
  clear hb
  go_wp2_with (go_at_call 23; (with_reducible refine (sfibMat_any A1 _ c1 xs _ Oa.read).mono ?_); rintro e w3 ⟨rfl, hb⟩; refine Hid.out ?_)
  refine Lib.hid ?_
  have hB : Below w.heap.size w w3 := bstep hB hb hB.size
  have hz3 := hB.size
  have hM1 := MtAt.new w3 M 32
  have hB3 : Below w.heap.size w (w3.alloc (.cells #[.int .i64 M.a.re, .int .i64 M.a.im, .int .i64 M.a.den, .int .i64 M.b.re, .int .i64 M.b.im, .int .i64 M.b.den, .int .i64 M.c.re, .int .i64 M.c.im, .int .i64 M.c.den, .int .i64 M.d.re, .int .i64 M.d.im, .int .i64 M.d.den] 32)) := hB.alloc hz3 _
  clear hb hB Oa
  go_wp2_with (go_at_call 29; (with_reducible refine (toSecs_any A len cap xs _ (hS0.below hB3) hlen).mono ?_); rintro e w4 ⟨vx, rfl, Ox, hb⟩; refine Hid.out ?_)
  refine Lib.hid ?_
  have hM4 := hM1.below hb (by simp)
  have hB : Below w.heap.size w w4 := bstep hB3 hb (by simp; omega)
  obtain ⟨A2, c2, rfl, -⟩ := Ox.secs
  clear hb hM1 hB3
  go_wp2_with (go_at_call 16; (with_reducible refine (fibMat_any A2 _ c2 xs _ Ox.read (hGO.below hB) (hGZ.below hB) (hGT.below hB) (hGS.below hB)).mono ?_); rintro e w5 ⟨rfl, hb⟩; refine Hid.out ?_)
  refine Lib.hid ?_
  have hM5 := hM4.below hb hM4.lt
  have hlt5 := hM5.lt
  have hB : Below w.heap.size w w5 := bstep hB hb hB.size
  have Ox := Ox.below hb
  have hz5 := hB.size
  obtain ⟨z0, z1, z2, z3, z4, z5, z6, z7, z8, z9, z10, z11⟩ := hM5
  have hB6 : Below w.heap.size w (w5.alloc (.cells #[.int .i64 M.a.re, .int .i64 M.a.im, .int .i64 M.a.den, .int .i64 M.b.re, .int .i64 M.b.im, .int .i64 M.b.den, .int .i64 M.c.re, .int .i64 M.c.im, .int .i64 M.c.den, .int .i64 M.d.re, .int .i64 M.d.im, .int .i64 M.d.den] 32)) := hB.alloc hz5 _
  have Ox := Ox.alloc (.cells #[.int .i64 M.a.re, .int .i64 M.a.im, .int .i64 M.a.den, .int .i64 M.b.re, .int .i64 M.b.im, .int .i64 M.b.den, .int .i64 M.c.re, .int .i64 M.c.im, .int .i64 M.c.den, .int .i64 M.d.re, .int .i64 M.d.im, .int .i64 M.d.den] 32)
  clear hb hM4
  go_wp2_with (go_at_call 30; (with_reducible refine (eqMat_refl M _).mono ?_); rintro e w6 ⟨rfl, hb⟩; refine Hid.out ?_)
  refine Lib.hid ?_
  have Ox := Ox.below hb
  have hB : Below w.heap.size w w6 := bstep hB6 hb (by simp; omega)
  clear hb hB6 z0 z1 z2 z3 z4 z5 z6 z7 z8 z9 z10 z11
  go_wp2_with (go_at_call 29; (with_reducible refine (toSecs_any A len cap xs _ (hS0.below hB) hlen).mono ?_); rintro e w7 ⟨vy, rfl, Oy, hb⟩; refine Hid.out ?_)
  refine Lib.hid ?_
  have Ox := Ox.below hb
  have hB : Below w.heap.size w w7 := bstep hB hb hB.size
  obtain ⟨A3, c3, rfl, -⟩ := Oy.secs
  clear hb
  go_wp2_with (go_at_call 31; (with_reducible refine (eqSecs_refl A2 A3 _ c2 c3 _ _ Ox.read Oy.read).mono ?_); rintro e w8 ⟨rfl, hb⟩; have hB8 : Below w.heap.size w w8 := bstep hB hb hB.size; clear hb)
  go_ret
  exact ⟨rfl, by (repeat' (first | (with_reducible exact Below.refl _ _) | (with_reducible assumption) | (with_reducible refine Below.setCell ?_ (by first | omega | (simp; done) | (simp; omega)) _) | (with_reducible refine Below.alloc ?_ (by first | omega | (simp; done) | (simp; omega)) _) | (with_reducible refine below_drewN ?_ _) | (with_reducible refine Below.drew ?_)))⟩
end Go.Proofs.YtmaifiakjlbooaaDoor
