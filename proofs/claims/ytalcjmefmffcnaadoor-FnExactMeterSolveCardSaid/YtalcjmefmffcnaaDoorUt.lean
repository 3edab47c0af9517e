/-
  The walk of the statement that compares MeterSolve with the reference's: it returns true, for all lists.
-/
import Derived.Test.YtalcjmefmffcnaaDoorUs
namespace Go.Proofs.YtalcjmefmffcnaaDoor
set_option linter.unusedSimpArgs false
set_option linter.unusedVariables false
open Go.RowKit
attribute [local go_sem ↓] Go.wp_at_zero Go.wp_at_succ
theorem OwF.readK {base n cap : Nat} {A : Option Addr} {xs : List Fr} {w : World} (h : OwF base (.slice A n cap) xs w) : Frs A xs.length cap xs w := by
  obtain ⟨A1, c1, e, hF⟩ := h.frs
  simp only [Value.slice.injEq] at e
  obtain ⟨rfl, rfl, rfl⟩ := e
  exact hF
theorem szF_neg (A : Option Addr) (len cap : Nat) (n : Int) (w : World) (h : n < (len : Int)) (h0 : 0 ≤ n) (hn : n ≤ 1048576) (h2 : len ≤ 9223372036854775807) :
    Calls Tryd.prog 45 #[.slice A len cap, .int .i64 n] w fun e w' => e = .returned (.int .i64 (-1)) ∧ Below w.heap.size w w' := by
  go_enter Tryd.func45, Tryd.ntmps45
  go_wp2
  all_goals go_ret
  all_goals exact ⟨by go_num, by exact below_⟩
theorem msolve_m (A : Option Addr) (len cap : Nat) (xs : List Sta) (A2 : Option Addr) (len2 cap2 : Nat) (rs : List Fr) (q : Mt) (ok : Bool) (w : World) (hS : Sas A len cap xs w) (hF : Frs A2 len2 cap2 rs w) (hO : GO w) (hZ : GZ w) (hT : GT w) (e : Hid (arrV (solM xs rs) = .tuple #[mtv q, .bool ok])) :
    Calls Tryd.prog 48 #[.slice A len cap, .slice A2 len2 cap2] w fun e w' => e = .returned (.tuple #[mtv q, .bool ok]) ∧ Below w.heap.size w w' := by
  rw [← e.out]; exact msolve_any A len cap xs w hS A2 len2 cap2 rs hF hO hZ hT
theorem smsolve_m (A : Option Addr) (len cap : Nat) (xs : List Sta) (A2 : Option Addr) (len2 cap2 : Nat) (rs : List Fr) (q : Mt) (ok : Bool) (w : World) (hS : Sas A len cap xs w) (hF : Frs A2 len2 cap2 rs w) (e : Hid (arrV (solM xs rs) = .tuple #[mtv q, .bool ok])) :
    Calls Tryd.prog 46 #[.slice A len cap, .slice A2 len2 cap2] w fun e w' => e = .returned (.tuple #[mtv q, .bool ok]) ∧ Below w.heap.size w w' := by
  rw [← e.out]; exact smsolve_any A len cap xs w hS A2 len2 cap2 rs hF
set_option maxRecDepth 100000 in
set_option maxHeartbeats 8000000 in
theorem fnExactMeterSolve_walk (A : Option Addr) (len cap : Nat) (xs : List Sta) (A2 : Option Addr) (len2 cap2 : Nat) (rs : List Fr) (w : World) (hS0 : Sas A len cap xs w) (hF0 : Frs A2 len2 cap2 rs w) (hGO : GO w) (hGZ : GZ w) (hGT : GT w) :
    Calls Tryd.prog 13 #[.slice A len cap, .slice A2 len2 cap2] w fun e w' => e = .returned (.bool true) ∧ Below w.heap.size w w' := by
  have hcap := hS0.2.2.1
  have hlc := hS0.2.1
  have hcap2 := hF0.2.2.1
  have hlc2 := hF0.2.1
  obtain ⟨q, ok, hq⟩ := arrV_form (solM xs rs)
  have HC := Lib.hid hq
  clear hq
  by_cases hbig : 1048576 < len
  · go_enter Tryd.func13, Tryd.ntmps13
    go_wp2_with (go_at_call 30; (with_reducible refine (szA_far A len cap _ hbig (by omega)).mono ?_); rintro e w1 ⟨rfl, hb⟩)
    go_ret
    exact ⟨rfl, hb⟩
  have hlen : len ≤ 1048576 := by omega
  clear hbig
  by_cases hbig2 : 1048576 - (len : Int) < (len2 : Int)
  · go_enter Tryd.func13, Tryd.ntmps13
    go_wp2_with (first | (go_at_call 30; (with_reducible refine (szA_any A len cap 1048576 _ (by omega) (by omega)).mono ?_); rintro e w1 ⟨rfl, hb⟩; have hB : Below w.heap.size w w1 := hb; clear hb) | (go_at_call 45; (with_reducible refine (szF_neg A2 len2 cap2 (1048576 - (len : Int)) _ hbig2 (by omega) (by omega) (by omega)).mono ?_); rintro e w2 ⟨rfl, hb⟩; have hB2 : Below w.heap.size w w2 := bstep hB hb hB.size; clear hb))
    go_ret
    exact ⟨rfl, by exact below_⟩
  have hlen2 : (len2 : Int) ≤ 1048576 - (len : Int) := by omega
  have hlen3 : len2 ≤ 1048576 := by omega
  clear hbig2
  go_enter Tryd.func13, Tryd.ntmps13
  go_wp2_with (go_at_call 30; (with_reducible refine (szA_any A len cap 1048576 _ (by omega) (by omega)).mono ?_); rintro e w1 ⟨rfl, hB⟩; refine Hid.out ?_)
  refine Lib.hid ?_
  go_wp2_with (go_at_call 45; (with_reducible refine (szF_any A2 len2 cap2 (1048576 - (len : Int)) _ hlen2 (by omega)).mono ?_); rintro e w2 ⟨rfl, hb⟩; refine Hid.out ?_)
  refine Lib.hid ?_
  have hB : Below w.heap.size w w2 := bstep hB hb hB.size
  clear hb
  go_wp2_with (go_at_call 31; (with_reducible refine (toSas_any A len cap xs _ (hS0.below hB) hlen).mono ?_); rintro e w3 ⟨va, rfl, Oa, hb⟩; refine Hid.out ?_)
  refine Lib.hid ?_
  have hB : Below w.heap.size w w3 := bstep hB hb hB.size
  obtain ⟨A3, c3, rfl, -⟩ := Oa.frs
  clear hb
  go_wp2_with (go_at_call 47; (with_reducible refine (toFrs_any A2 len2 cap2 rs _ (hF0.below hB) hlen3).mono ?_); rintro e w4 ⟨vb, rfl, Ob, hb⟩; refine Hid.out ?_)
  refine Lib.hid ?_
  have Oa := Oa.below hb
  have hB : Below w.heap.size w w4 := bstep hB hb hB.size
  obtain ⟨A4, c4, rfl, -⟩ := Ob.frs
  have hkl := hlen
  clear hb
  go_wp2_with (go_at_call 46; (with_reducible refine (smsolve_m A3 _ c3 xs A4 _ c4 rs q ok _ Oa.frsK Ob.readK HC).mono ?_); rintro e w5 ⟨rfl, hb⟩; refine Hid.out ?_)
  refine Lib.hid ?_
  have hB : Below w.heap.size w w5 := bstep hB hb hB.size
  have hM := MtAt.new w5 q 44
  have hB : Below w.heap.size w (w5.alloc (.cells #[.int .i64 q.a.re, .int .i64 q.a.im, .int .i64 q.a.den, .int .i64 q.b.re, .int .i64 q.b.im, .int .i64 q.b.den, .int .i64 q.c.re, .int .i64 q.c.im, .int .i64 q.c.den, .int .i64 q.d.re, .int .i64 q.d.im, .int .i64 q.d.den] 44)) := hB.alloc hB.size _
  obtain ⟨ba, hba⟩ : ∃ ba, ba = w5.heap.size := ⟨_, rfl⟩
  clear hb Oa Ob
  go_wp2_with (go_at_call 31; (with_reducible refine (toSas_any A len cap xs _ (hS0.below hB) hlen).mono ?_); rintro e w6 ⟨vx, rfl, Ox, hb⟩; refine Hid.out ?_)
  refine Lib.hid ?_
  have hM := hM.below hb hM.lt
  rw [← hba] at hM ⊢
  have hB : Below w.heap.size w w6 := bstep hB hb hB.size
  obtain ⟨A5, c5, rfl, -⟩ := Ox.frs
  clear hb hba
  go_wp2_with (go_at_call 47; (with_reducible refine (toFrs_any A2 len2 cap2 rs _ (hF0.below hB) hlen3).mono ?_); rintro e w7 ⟨vy, rfl, Oy, hb⟩; refine Hid.out ?_)
  refine Lib.hid ?_
  have hM := hM.below hb hM.lt
  have Ox := Ox.below hb
  have hB : Below w.heap.size w w7 := bstep hB hb hB.size
  obtain ⟨A6, c6, rfl, -⟩ := Oy.frs
  clear hb
  go_wp2_with (go_at_call 48; (with_reducible refine (msolve_m A5 _ c5 xs A6 _ c6 rs q ok _ Ox.frsK Oy.readK (hGO.below hB) (hGZ.below hB) (hGT.below hB) HC).mono ?_); rintro e w8 ⟨rfl, hb⟩; refine Hid.out ?_)
  refine Lib.hid ?_
  have hM := (hM.below hb hM.lt).alloc (.cells #[.int .i64 q.a.re, .int .i64 q.a.im, .int .i64 q.a.den, .int .i64 q.b.re, .int .i64 q.b.im, .int .i64 q.b.den, .int .i64 q.c.re, .int .i64 q.c.im, .int .i64 q.c.den, .int .i64 q.d.re, .int .i64 q.d.im, .int .i64 q.d.den] 44)
  have hN := MtAt.new w8 q 44
  have Ox := (Ox.below hb).alloc (.cells #[.int .i64 q.a.re, .int .i64 q.a.im, .int .i64 q.a.den, .int .i64 q.b.re, .int .i64 q.b.im, .int .i64 q.b.den, .int .i64 q.c.re, .int .i64 q.c.im, .int .i64 q.c.den, .int .i64 q.d.re, .int .i64 q.d.im, .int .i64 q.d.den] 44)
  have Oy := (Oy.below hb).alloc (.cells #[.int .i64 q.a.re, .int .i64 q.a.im, .int .i64 q.a.den, .int .i64 q.b.re, .int .i64 q.b.im, .int .i64 q.b.den, .int .i64 q.c.re, .int .i64 q.c.im, .int .i64 q.c.den, .int .i64 q.d.re, .int .i64 q.d.im, .int .i64 q.d.den] 44)
  have hB : Below w.heap.size w w8 := bstep hB hb hB.size
  have hB : Below w.heap.size w (w8.alloc (.cells #[.int .i64 q.a.re, .int .i64 q.a.im, .int .i64 q.a.den, .int .i64 q.b.re, .int .i64 q.b.im, .int .i64 q.b.den, .int .i64 q.c.re, .int .i64 q.c.im, .int .i64 q.c.den, .int .i64 q.d.re, .int .i64 q.d.im, .int .i64 q.d.den] 44)) := hB.alloc hB.size _
  obtain ⟨m0, m1, m2, m3, m4, m5, m6, m7, m8, m9, m10, m11⟩ := hM
  clear hb hN
  go_wp2_with (go_at_call 49; (with_reducible refine (eqStk_refl q _).mono ?_); rintro e w9 ⟨rfl, hb⟩; refine Hid.out ?_)
  refine Lib.hid ?_
  have Ox := Ox.below hb
  have Oy := Oy.below hb
  have hB : Below w.heap.size w w9 := bstep hB hb hB.size
  clear hb m0 m1 m2 m3 m4 m5 m6 m7 m8 m9 m10 m11
  go_wp2_with (go_at_call 31; (with_reducible refine (toSas_any A len cap xs _ (hS0.below hB) hlen).mono ?_); rintro e w10 ⟨vz, rfl, Oz, hb⟩; refine Hid.out ?_)
  refine Lib.hid ?_
  have Ox := Ox.below hb
  have Oy := Oy.below hb
  have hB : Below w.heap.size w w10 := bstep hB hb hB.size
  obtain ⟨A7, c7, rfl, -⟩ := Oz.frs
  clear hb
  go_wp2_with (go_at_call 32; (with_reducible refine (eqSas_refl A5 A7 _ c5 c7 _ _ Ox.frsK Oz.frsK).mono ?_); rintro e w11 ⟨rfl, hb⟩; refine Hid.out ?_)
  refine Lib.hid ?_
  have Oy := Oy.below hb
  have hB : Below w.heap.size w w11 := bstep hB hb hB.size
  clear hb Ox Oz
  go_wp2_with (go_at_call 47; (with_reducible refine (toFrs_any A2 len2 cap2 rs _ (hF0.below hB) hlen3).mono ?_); rintro e w12 ⟨vu, rfl, Ou, hb⟩; refine Hid.out ?_)
  refine Lib.hid ?_
  have Oy := Oy.below hb
  have hB : Below w.heap.size w w12 := bstep hB hb hB.size
  obtain ⟨A8, c8, rfl, -⟩ := Ou.frs
  clear hb
  go_wp2_with (go_at_call 37; (with_reducible refine (eqFrs_refl A6 A8 _ c6 c8 _ _ Oy.readK Ou.readK).mono ?_); rintro e w13 ⟨rfl, hb⟩; have hB13 : Below w.heap.size w w13 := bstep hB hb hB.size; clear hb)
  go_ret
  exact ⟨rfl, by exact below_⟩
end Go.Proofs.YtalcjmefmffcnaaDoor
