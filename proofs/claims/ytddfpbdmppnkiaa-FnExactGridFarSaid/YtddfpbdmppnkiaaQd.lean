/-
  The walk of the statement that compares GridFar with the reference's: it returns true, for all fractions.
-/
import Derived.Test.YtddfpbdmppnkiaaQc
import Derived.Deep.RegionHeld3
import Derived.Deep.CutRange
namespace Go.Proofs.Ytddfpbdmppnkiaa
set_option linter.unusedSimpArgs false
set_option linter.unusedVariables false
open Go.RowKit
attribute [local go_sem ↓] Go.wp_at_zero Go.wp_at_succ
/-- Both fractions lie in their boxes. -/
structure T2 (w : World) (a b : Fr) (W : World) : Prop where
  six : W.cell? ⟨w.heap.size, 0, none⟩ = some (.int .i64 a.re) ∧ W.cell? ⟨w.heap.size, 1, none⟩ = some (.int .i64 a.im) ∧ W.cell? ⟨w.heap.size, 2, none⟩ = some (.int .i64 a.den) ∧ W.cell? ⟨w.heap.size + 1, 0, none⟩ = some (.int .i64 b.re) ∧ W.cell? ⟨w.heap.size + 1, 1, none⟩ = some (.int .i64 b.im) ∧ W.cell? ⟨w.heap.size + 1, 2, none⟩ = some (.int .i64 b.den)
  l : w.heap.size + 1 < W.heap.size
  B : Below w.heap.size w W
section
variable {w W w1 : World} {a b : Fr}
theorem T2.below (h : T2 w a b W) (hb : Below W.heap.size W w1) : T2 w a b w1 := by
  have hl := h.l
  obtain ⟨h1, h2, h3, h4, h5, h6⟩ := h.six
  exact ⟨⟨(hb.cell (by simp; omega)).trans h1, (hb.cell (by simp; omega)).trans h2, (hb.cell (by simp; omega)).trans h3, (hb.cell (by simp; omega)).trans h4, (hb.cell (by simp; omega)).trans h5, (hb.cell (by simp; omega)).trans h6⟩, Nat.lt_of_lt_of_le hl hb.size, bstep h.B hb h.B.size⟩
theorem T2.alloc (h : T2 w a b W) (o : Obj) : T2 w a b (W.alloc o) := h.below ((Below.refl _ _).alloc (Nat.le_refl _) o)
theorem T2.drew (h : T2 w a b W) : T2 w a b W.drew := ⟨h.six, h.l, h.B.drew⟩
theorem T2.drewN (h : T2 w a b W) (n : Nat) : T2 w a b (W.drewN n) := ⟨h.six, h.l, below_drewN h.B n⟩
theorem t2_to (x : Fr) (h : T2 w a b W) : Calls Try.prog 7 #[frv x] W fun e w' => e = .returned (frv x) ∧ T2 w a b w' :=
  (toFrac_any x W).mono fun e w1 ⟨h1, hb⟩ => ⟨h1, h.below hb⟩
theorem t2_far (x : Nat) (v : Bool) (hx : Hid (farV a b = x)) (hv : Hid ((fvalid a && fvalid b) = v)) (h : T2 w a b W) : Calls Try.prog 8 #[frv a, frv b] W fun e w' => e = .returned (.tuple #[.float .f32 x, .bool v]) ∧ T2 w a b w' := by
  rw [← hx.out, ← hv.out]
  exact (far_any a b W).mono fun e w1 ⟨h1, hb⟩ => ⟨h1, h.below hb⟩
theorem t2_sfar (x : Nat) (v : Bool) (hx : Hid (farV a b = x)) (hv : Hid ((fvalid a && fvalid b) = v)) (h : T2 w a b W) : Calls Try.prog 6 #[frv a, frv b] W fun e w' => e = .returned (.tuple #[.float .f32 x, .bool v]) ∧ T2 w a b w' := by
  rw [← hx.out, ← hv.out]
  exact (sfar_any a b W).mono fun e w1 ⟨h1, hb⟩ => ⟨h1, h.below hb⟩
end
set_option maxRecDepth 100000 in
set_option maxHeartbeats 4000000 in
theorem fnExactGridFar_walk (a b : Fr) (w : World) :
    Calls Try.prog 3 #[frv a, frv b] w fun e w' => e = .returned (.bool true) ∧ Below w.heap.size w w' := by
  obtain ⟨x, hx⟩ : ∃ x, farV a b = x := ⟨_, rfl⟩
  obtain ⟨v, hv⟩ : ∃ v, (fvalid a && fvalid b) = v := ⟨_, rfl⟩
  obtain ⟨hw1, hw2⟩ := widen_some (hx ▸ farV_lo a b) (by omega) (by omega)
  have hs := order_self hw2
  have hq := quo_one hw2
  have o1 : ∀ W, (convert 24 30 (.float .f32 x)).run Try.prog W = .ok (.float .f64 (widen x)) W := fun W => run_convert_float_float W 24 30 .f32 .f64 x _ (by rw [Try.underlying24]; rfl) Try.underlying30 hw1
  have HX := Lib.hid hx
  have HV := Lib.hid hv
  have HS : Hid (FloatKind.f64.format.order (widen x) (widen x) = some .eq) := Lib.hid hs
  have HQ := Lib.hid hq
  clear hx hv hw1 hw2 hs hq
  have hD : T2 w a b ((w.alloc (.cells #[.int .i64 a.re, .int .i64 a.im, .int .i64 a.den] 23)).alloc (.cells #[.int .i64 b.re, .int .i64 b.im, .int .i64 b.den] 23)) :=
    ⟨by refine ⟨?_, ?_, ?_, ?_, ?_, ?_⟩ <;> simp [go_sem], by simp, by (repeat' (first | (with_reducible exact Below.refl _ _) | (with_reducible assumption) | (with_reducible refine Below.setCell ?_ (by first | omega | (simp; done) | (simp; omega)) _) | (with_reducible refine Below.alloc ?_ (by first | omega | (simp; done) | (simp; omega)) _) | (with_reducible refine below_drewN ?_ _) | (with_reducible refine Below.drew ?_)))⟩
  go_enter Try.func3, Try.ntmps3
  go_wp2
  go_region_held3 (fun w' => w'.cell? ⟨w.heap.size, 0, none⟩ = some (.int .i64 a.re) ∧ w'.cell? ⟨w.heap.size, 1, none⟩ = some (.int .i64 a.im) ∧ w'.cell? ⟨w.heap.size, 2, none⟩ = some (.int .i64 a.den) ∧ w'.cell? ⟨w.heap.size + 1, 0, none⟩ = some (.int .i64 b.re) ∧ w'.cell? ⟨w.heap.size + 1, 1, none⟩ = some (.int .i64 b.im) ∧ w'.cell? ⟨w.heap.size + 1, 2, none⟩ = some (.int .i64 b.den)) ((refine T2.six ?_; (repeat' (first | (with_reducible assumption) | (with_reducible apply T2.alloc) | (with_reducible apply T2.drewN) | (with_reducible apply T2.drew))))) (first | (go_at_call 7; (with_reducible refine (t2_to _ (by (repeat' (first | (with_reducible assumption) | (with_reducible apply T2.alloc) | (with_reducible apply T2.drewN) | (with_reducible apply T2.drew))))).mono ?_); rintro e wd ⟨rfl, hD⟩; have hB := hD.B) | (go_at_call 6; (with_reducible refine (t2_sfar x v HX HV (by (repeat' (first | (with_reducible assumption) | (with_reducible apply T2.alloc) | (with_reducible apply T2.drewN) | (with_reducible apply T2.drew))))).mono ?_); rintro e wd ⟨rfl, hD⟩; have hB := hD.B))
  all_goals (
    go_wp2
    go_region_held3 (fun w' => w'.cell? ⟨w.heap.size, 0, none⟩ = some (.int .i64 a.re) ∧ w'.cell? ⟨w.heap.size, 1, none⟩ = some (.int .i64 a.im) ∧ w'.cell? ⟨w.heap.size, 2, none⟩ = some (.int .i64 a.den) ∧ w'.cell? ⟨w.heap.size + 1, 0, none⟩ = some (.int .i64 b.re) ∧ w'.cell? ⟨w.heap.size + 1, 1, none⟩ = some (.int .i64 b.im) ∧ w'.cell? ⟨w.heap.size + 1, 2, none⟩ = some (.int .i64 b.den)) ((refine T2.six ?_; (repeat' (first | (with_reducible assumption) | (with_reducible apply T2.alloc) | (with_reducible apply T2.drewN) | (with_reducible apply T2.drew))))) (first | (go_at_call 7; (with_reducible refine (t2_to _ (by (repeat' (first | (with_reducible assumption) | (with_reducible apply T2.alloc) | (with_reducible apply T2.drewN) | (with_reducible apply T2.drew))))).mono ?_); rintro e wd ⟨rfl, hD⟩; have hB := hD.B) | (go_at_call 8; (with_reducible refine (t2_far x v HX HV (by (repeat' (first | (with_reducible assumption) | (with_reducible apply T2.alloc) | (with_reducible apply T2.drewN) | (with_reducible apply T2.drew))))).mono ?_); rintro e wd ⟨rfl, hD⟩; have hB := hD.B))
    all_goals (
      go_wp2_with (first | (go_at_call 9; (with_reducible refine (same_t (widen x) _ HS.out HQ.out).mono ?_); rintro e w9 ⟨rfl, hb⟩; have hB9 : Below w.heap.size w w9 := bstep hB hb hB.size; clear hb) | (simp only [o1]))
      go_ret
      exact ⟨rfl, by (repeat' (first | (with_reducible exact Below.refl _ _) | (with_reducible assumption) | (with_reducible refine Below.setCell ?_ (by first | omega | (simp; done) | (simp; omega)) _) | (with_reducible refine Below.alloc ?_ (by first | omega | (simp; done) | (simp; omega)) _) | (with_reducible refine below_drewN ?_ _) | (with_reducible refine Below.drew ?_)))⟩))
end Go.Proofs.Ytddfpbdmppnkiaa
