/-
  The walk of the statement that compares MeterMean with the reference's: it returns true, for every list.
-/
import Derived.Test.YtmaacdfbhilegaaDoorMp
import Derived.Test.YtmaacdfbhilegaaDoorLh
namespace Go.Proofs.YtmaacdfbhilegaaDoor
set_option linter.unusedSimpArgs false
set_option linter.unusedVariables false
open Go.RowKit
attribute [local go_sem ↓] Go.wp_at_zero Go.wp_at_succ
theorem OwF.read {base n cap : Nat} {A : Option Addr} {xs : List Fr} {w : World} (h : OwF base (.slice A n cap) xs w) : n = xs.length ∧ Frs A xs.length cap xs w := by
  obtain ⟨A1, c1, e, hF⟩ := h.frs
  simp only [Value.slice.injEq] at e
  obtain ⟨rfl, rfl, rfl⟩ := e
  exact ⟨rfl, hF⟩
theorem mean_m (A : Option Addr) (len cap : Nat) (xs : List Fr) (x : Fr) (b : Bool) (w : World) (h : Frs A len cap xs w) (hG : GZ w) (e : Hid (frb (meanI xs) = .tuple #[frv x, .bool b])) :
    Calls Tryd.prog 8 #[.slice A len cap] w fun e w' => e = .returned (.tuple #[frv x, .bool b]) ∧ Below w.heap.size w w' := by rw [← e.out]; exact mean_any A len cap xs w h hG
theorem smean_m (A : Option Addr) (len cap : Nat) (xs : List Fr) (x : Fr) (b : Bool) (w : World) (h : Frs A len cap xs w) (e : Hid (frb (meanI xs) = .tuple #[frv x, .bool b])) :
    Calls Tryd.prog 6 #[.slice A len cap] w fun e w' => e = .returned (.tuple #[frv x, .bool b]) ∧ Below w.heap.size w w' := by rw [← e.out]; exact smean_any A len cap xs w h
set_option maxRecDepth 100000 in
set_option maxHeartbeats 4000000 in
theorem fnExactMeterMean_walk (A : Option Addr) (len cap : Nat) (xs : List Fr) (w : World) (hS0 : Frs A len cap xs w) (hGZ : GZ w) :
    Calls Tryd.prog 3 #[.slice A len cap] w fun e w' => e = .returned (.bool true) ∧ Below w.heap.size w w' := by
  have hcap := hS0.2.2.1
  have hlc := hS0.2.1
  obtain ⟨n, hn⟩ : ∃ n, n = (meanI xs).getD ⟨0, 0, 0⟩ := ⟨_, rfl⟩
  obtain ⟨b, hb0⟩ : ∃ b, b = (meanI xs).isSome := ⟨_, rfl⟩
  have HC := Lib.hid (show frb (meanI xs) = .tuple #[frv n, .bool b] by rw [hn, hb0])
  clear hn hb0
  by_cases hbig : 1048576 < len
  · go_enter Tryd.func3, Tryd.ntmps3
    go_wp2_with (go_at_call 5; (with_reducible refine (szF_far A len cap _ hbig (by omega)).mono ?_); rintro e w1 ⟨rfl, hb⟩)
    go_ret
    exact ⟨rfl, hb⟩
  have hlen : len ≤ 1048576 := by omega
  clear hbig
  go_enter Tryd.func3, Tryd.ntmps3
  go_wp2_with (go_at_call 5; (with_reducible refine (szF_any A len cap 1048576 _ (by omega) (by omega)).mono ?_); rintro e w1 ⟨rfl, hb⟩; refine Hid.out ?_)
  refine Lib.hid ?_
  have hB := hb
  clear hb
  go_wp2_with (go_at_call 7; (with_reducible refine (toFrs_any A len cap xs _ (hS0.below hB) hlen).mono ?_); rintro e w2 ⟨va, rfl, Oa, hb⟩; refine Hid.out ?_)
  refine Lib.hid ?_
  have hB : Below w.heap.size w w2 := bstep hB hb hB.size
  obtain ⟨A1, c1, rfl, Sa⟩ := Oa.frs
  clear hb Oa
  go_wp2_with (go_at_call 6; (with_reducible refine (smean_m A1 _ c1 xs n b _ Sa HC).mono ?_); rintro e w3 ⟨rfl, hb⟩; refine Hid.out ?_)
  refine Lib.hid ?_
  have hB : Below w.heap.size w w3 := bstep hB hb hB.size
  have hN3 := FrG.new w3 n 25
  have hB : Below w.heap.size w (w3.alloc (.cells #[.int .i64 n.re, .int .i64 n.im, .int .i64 n.den] 25)) := hB.alloc hB.size _
  obtain ⟨ba, hba⟩ : ∃ ba, ba = w3.heap.size := ⟨_, rfl⟩
  clear hb Sa
  go_wp2_with (go_at_call 7; (with_reducible refine (toFrs_any A len cap xs _ (hS0.below hB) hlen).mono ?_); rintro e w4 ⟨vx, rfl, Ox, hb⟩; refine Hid.out ?_)
  refine Lib.hid ?_
  have hA := hN3.below hb
  rw [← hba] at hA ⊢
  have hB : Below w.heap.size w w4 := bstep hB hb hB.size
  obtain ⟨A2, c2, rfl, -⟩ := Ox.frs
  clear hb hN3 hba
  go_wp2_with (go_at_call 8; (with_reducible refine (mean_m A2 _ c2 xs n b _ Ox.read.2 (hGZ.below hB) HC).mono ?_); rintro e w5 ⟨rfl, hb⟩; refine Hid.out ?_)
  refine Lib.hid ?_
  have Ox := (Ox.below hb).alloc (.cells #[.int .i64 n.re, .int .i64 n.im, .int .i64 n.den] 25)
  have hA := (hA.below hb).alloc (.cells #[.int .i64 n.re, .int .i64 n.im, .int .i64 n.den] 25)
  have hZ := FrG.new w5 n 25
  have hB : Below w.heap.size w w5 := bstep hB hb hB.size
  have hB : Below w.heap.size w (w5.alloc (.cells #[.int .i64 n.re, .int .i64 n.im, .int .i64 n.den] 25)) := hB.alloc hB.size _
  clear hb
  obtain ⟨a0, a1, a2, af⟩ := hA
  go_wp2_with (go_at_call 9; (with_reducible refine (eqFrac_refl n _).mono ?_); rintro e w6 ⟨rfl, hb⟩; refine Hid.out ?_)
  refine Lib.hid ?_
  have Ox := Ox.below hb
  have hB : Below w.heap.size w w6 := bstep hB hb hB.size
  clear hb a0 a1 a2 af hZ
  go_wp2_with (go_at_call 7; (with_reducible refine (toFrs_any A len cap xs _ (hS0.below hB) hlen).mono ?_); rintro e w9 ⟨vy, rfl, Oy, hb⟩; refine Hid.out ?_)
  refine Lib.hid ?_
  have Ox := Ox.below hb
  have hB : Below w.heap.size w w9 := bstep hB hb hB.size
  obtain ⟨A3, c3, rfl, -⟩ := Oy.frs
  clear hb
  go_wp2_with (go_at_call 10; (with_reducible refine (eqFrs_refl A2 A3 _ c2 c3 _ _ Ox.read.2 Oy.read.2).mono ?_); rintro e w10 ⟨rfl, hb⟩; have hB10 : Below w.heap.size w w10 := bstep hB hb hB.size; clear hb)
  go_ret
  exact ⟨rfl, by (repeat' (first | (with_reducible exact Below.refl _ _) | (with_reducible assumption) | (with_reducible refine Below.setCell ?_ (by first | omega | (simp; done) | (simp; omega)) _) | (with_reducible refine Below.alloc ?_ (by first | omega | (simp; done) | (simp; omega)) _) | (with_reducible refine below_drewN ?_ _) | (with_reducible refine Below.drew ?_)))⟩
end Go.Proofs.YtmaacdfbhilegaaDoor
