/-
  The walks of the statements that compare MeterDet and MeterGood with the reference's: they return true, for all lists.
-/
import Derived.Test.YtalcjmefmffcnaaDoorUo
namespace Go.Proofs.YtalcjmefmffcnaaDoor
set_option linter.unusedSimpArgs false
set_option linter.unusedVariables false
open Go.RowKit
attribute [local go_sem ↓] Go.wp_at_zero Go.wp_at_succ
theorem OwA.frsK {base n cap : Nat} {A : Option Addr} {xs : List Sta} {w : World} (h : OwA base (.slice A n cap) xs w) : Sas A xs.length cap xs w := by
  obtain ⟨A1, c1, e, hF⟩ := h.frs
  simp only [Value.slice.injEq] at e
  obtain ⟨rfl, rfl, rfl⟩ := e
  exact hF
theorem good_any_m (A : Option Addr) (len cap : Nat) (xs : List Sta) (w : World) (hS : Sas A len cap xs w) (hO : GO w) (hZ : GZ w) (hT : GT w) (ok : Bool) (e : Hid (goodM xs = ok)) :
    Calls Tryd.prog 28 #[.slice A len cap] w fun e w' => e = .returned (.bool ok) ∧ Below w.heap.size w w' := by
  rw [← e.out]; exact good_any A len cap xs w hS hO hZ hT
theorem sgood_any_m (A : Option Addr) (len cap : Nat) (xs : List Sta) (w : World) (hS : Sas A len cap xs w) (ok : Bool) (e : Hid (goodM xs = ok)) :
    Calls Tryd.prog 29 #[.slice A len cap] w fun e w' => e = .returned (.bool ok) ∧ Below w.heap.size w w' := by
  rw [← e.out]; exact sgood_any A len cap xs w hS
set_option maxRecDepth 100000 in
set_option maxHeartbeats 8000000 in
theorem fnExactMeterDet_walk (A : Option Addr) (len cap : Nat) (xs : List Sta) (w : World) (hS0 : Sas A len cap xs w) (hGO : GO w) (hGZ : GZ w) (hGT : GT w) :
    Calls Tryd.prog 9 #[.slice A len cap] w fun e w' => e = .returned (.bool true) ∧ Below w.heap.size w w' := by
  have hcap := hS0.2.2.1
  have hlc := hS0.2.1
  have hxl := hS0.1
  obtain ⟨f, ok, hq⟩ : ∃ f ok, frb (detM xs) = .tuple #[frv f, .bool ok] := ⟨_, _, rfl⟩
  have HC := Lib.hid hq
  clear hq
  by_cases hbig : 1048576 < len
  · go_enter Tryd.func9, Tryd.ntmps9
    go_wp2_with (go_at_call 30; (with_reducible refine (szA_far A len cap _ hbig (by omega)).mono ?_); rintro e w1 ⟨rfl, hb⟩)
    go_ret
    exact ⟨rfl, hb⟩
  have hlen : len ≤ 1048576 := by omega
  clear hbig
  have HXL := Lib.hid hxl
  clear hxl
  go_enter Tryd.func9, Tryd.ntmps9
  go_wp2_with (go_at_call 30; (with_reducible refine (szA_any A len cap 1048576 _ (by omega) (by omega)).mono ?_); rintro e w1 ⟨rfl, hB⟩; refine Hid.out ?_)
  refine Lib.hid ?_
  go_wp2_with (go_at_call 31; (with_reducible refine (toSas_any A len cap xs _ (hS0.below hB) hlen).mono ?_); rintro e w2 ⟨va, rfl, Oa, hb⟩; refine Hid.out ?_)
  refine Lib.hid ?_
  have hB : Below w.heap.size w w2 := bstep hB hb hB.size
  obtain ⟨A2, c2, rfl, hSa⟩ := Oa.frs
  clear hb
  go_wp2_with (go_at_call 26; (with_reducible refine (sdet_any_m A2 _ c2 xs _ hSa f ok HC).mono ?_); rintro e w3 ⟨rfl, hb⟩; refine Hid.out ?_)
  refine Lib.hid ?_
  have hB : Below w.heap.size w w3 := bstep hB hb hB.size
  have hM := FrG.new w3 f 25
  have hB : Below w.heap.size w (w3.alloc (.cells #[.int .i64 f.re, .int .i64 f.im, .int .i64 f.den] 25)) := hB.alloc hB.size _
  obtain ⟨ba, hba⟩ : ∃ ba, ba = w3.heap.size := ⟨_, rfl⟩
  clear hb Oa hSa
  go_wp2_with (go_at_call 31; (with_reducible refine (toSas_any A len cap xs _ (hS0.below hB) hlen).mono ?_); rintro e w4 ⟨vx, rfl, Ox, hb⟩; refine Hid.out ?_)
  refine Lib.hid ?_
  have hM := hM.below hb
  rw [← hba] at hM ⊢
  have hB : Below w.heap.size w w4 := bstep hB hb hB.size
  obtain ⟨A4, c4, rfl, hSx⟩ := Ox.frs
  clear hb hba
  go_wp2_with (go_at_call 25; (with_reducible refine (det_any_m A4 _ c4 xs _ hSx (hGO.below hB) (hGZ.below hB) (hGT.below hB) f ok HC).mono ?_); rintro e w5 ⟨rfl, hb⟩; refine Hid.out ?_)
  refine Lib.hid ?_
  have hM := (hM.below hb).alloc (.cells #[.int .i64 f.re, .int .i64 f.im, .int .i64 f.den] 25)
  have Ox := (Ox.below hb).alloc (.cells #[.int .i64 f.re, .int .i64 f.im, .int .i64 f.den] 25)
  have hB : Below w.heap.size w w5 := bstep hB hb hB.size
  have hB : Below w.heap.size w (w5.alloc (.cells #[.int .i64 f.re, .int .i64 f.im, .int .i64 f.den] 25)) := hB.alloc hB.size _
  obtain ⟨m0, m1, m2, -⟩ := hM
  clear hb hSx
  go_wp2_with (go_at_call 33; (with_reducible refine (eqFrac_refl f _).mono ?_); rintro e w6 ⟨rfl, hb⟩; refine Hid.out ?_)
  refine Lib.hid ?_
  have Ox := Ox.below hb
  have hB : Below w.heap.size w w6 := bstep hB hb hB.size
  clear hb m0 m1 m2
  go_wp2_with (go_at_call 31; (with_reducible refine (toSas_any A len cap xs _ (hS0.below hB) hlen).mono ?_); rintro e w7 ⟨vz, rfl, Oz, hb⟩; refine Hid.out ?_)
  refine Lib.hid ?_
  have Ox := Ox.below hb
  have hB : Below w.heap.size w w7 := bstep hB hb hB.size
  obtain ⟨A7, c7, rfl, hSz⟩ := Oz.frs
  have hSx := Ox.frsK
  clear hb
  go_wp2_with (go_at_call 32; (with_reducible refine (eqSas_refl A4 A7 _ c4 c7 xs _ hSx hSz).mono ?_); rintro e w8 ⟨rfl, hb⟩; have hB8 : Below w.heap.size w w8 := bstep hB hb hB.size; clear hb)
  go_ret
  exact ⟨rfl, by exact below_⟩
set_option maxRecDepth 100000 in
set_option maxHeartbeats 8000000 in
theorem fnExactMeterGood_walk (A : Option Addr) (len cap : Nat) (xs : List Sta) (w : World) (hS0 : Sas A len cap xs w) (hGO : GO w) (hGZ : GZ w) (hGT : GT w) :
    Calls Tryd.prog 8 #[.slice A len cap] w fun e w' => e = .returned (.bool true) ∧ Below w.heap.size w w' := by
  have hcap := hS0.2.2.1
  have hlc := hS0.2.1
  have hxl := hS0.1
  obtain ⟨ok, hq⟩ : ∃ ok, goodM xs = ok := ⟨_, rfl⟩
  have HC := Lib.hid hq
  clear hq
  by_cases hbig : 1048576 < len
  · go_enter Tryd.func8, Tryd.ntmps8
    go_wp2_with (go_at_call 30; (with_reducible refine (szA_far A len cap _ hbig (by omega)).mono ?_); rintro e w1 ⟨rfl, hb⟩)
    go_ret
    exact ⟨rfl, hb⟩
  have hlen : len ≤ 1048576 := by omega
  clear hbig
  have HXL := Lib.hid hxl
  clear hxl
  go_enter Tryd.func8, Tryd.ntmps8
  go_wp2_with (go_at_call 30; (with_reducible refine (szA_any A len cap 1048576 _ (by omega) (by omega)).mono ?_); rintro e w1 ⟨rfl, hB⟩; refine Hid.out ?_)
  refine Lib.hid ?_
  go_wp2_with (go_at_call 31; (with_reducible refine (toSas_any A len cap xs _ (hS0.below hB) hlen).mono ?_); rintro e w2 ⟨va, rfl, Oa, hb⟩; refine Hid.out ?_)
  refine Lib.hid ?_
  have hB : Below w.heap.size w w2 := bstep hB hb hB.size
  obtain ⟨A2, c2, rfl, hSa⟩ := Oa.frs
  clear hb
  go_wp2_with (go_at_call 29; (with_reducible refine (sgood_any_m A2 _ c2 xs _ hSa ok HC).mono ?_); rintro e w3 ⟨rfl, hb⟩; refine Hid.out ?_)
  refine Lib.hid ?_
  have hB : Below w.heap.size w w3 := bstep hB hb hB.size
  clear hb Oa hSa
  go_wp2_with (go_at_call 31; (with_reducible refine (toSas_any A len cap xs _ (hS0.below hB) hlen).mono ?_); rintro e w4 ⟨vx, rfl, Ox, hb⟩; refine Hid.out ?_)
  refine Lib.hid ?_
  have hB : Below w.heap.size w w4 := bstep hB hb hB.size
  obtain ⟨A4, c4, rfl, hSx⟩ := Ox.frs
  clear hb
  go_wp2_with (go_at_call 28; (with_reducible refine (good_any_m A4 _ c4 xs _ hSx (hGO.below hB) (hGZ.below hB) (hGT.below hB) ok HC).mono ?_); rintro e w6 ⟨rfl, hb⟩; refine Hid.out ?_)
  refine Lib.hid ?_
  have Ox := Ox.below hb
  have hB : Below w.heap.size w w6 := bstep hB hb hB.size
  clear hb hSx
  go_wp2_with (go_at_call 31; (with_reducible refine (toSas_any A len cap xs _ (hS0.below hB) hlen).mono ?_); rintro e w7 ⟨vz, rfl, Oz, hb⟩; refine Hid.out ?_)
  refine Lib.hid ?_
  have Ox := Ox.below hb
  have hB : Below w.heap.size w w7 := bstep hB hb hB.size
  obtain ⟨A7, c7, rfl, hSz⟩ := Oz.frs
  have hSx := Ox.frsK
  clear hb
  go_wp2_with (go_at_call 32; (with_reducible refine (eqSas_refl A4 A7 _ c4 c7 xs _ hSx hSz).mono ?_); rintro e w8 ⟨rfl, hb⟩; have hB8 : Below w.heap.size w w8 := bstep hB hb hB.size; clear hb)
  go_ret
  exact ⟨rfl, by exact below_⟩
end Go.Proofs.YtalcjmefmffcnaaDoor
