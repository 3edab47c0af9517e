/-
  The walks of the functions on vectors of light, program and reference.
-/
import Derived.Test.YtddfpbdmppnkiaaSm
import Derived.Deep.RegionHeld3
import Derived.Deep.DrawnRows
namespace Go.Proofs.Ytddfpbdmppnkiaa
set_option linter.unusedSimpArgs false
set_option linter.unusedVariables false
open Go.RowKit
attribute [local go_sem ↓] Go.wp_at_zero Go.wp_at_succ
/-- A vector of light. -/
structure Jn where
  x : Fr
  y : Fr
  deriving DecidableEq
abbrev jnv (a : Jn) : Value := .agg #[.int .i64 a.x.re, .int .i64 a.x.im, .int .i64 a.x.den, .int .i64 a.y.re, .int .i64 a.y.im, .int .i64 a.y.den]
abbrev jnb (o : Option Jn) : Value := .tuple #[jnv (o.getD ⟨⟨0, 0, 0⟩, ⟨0, 0, 0⟩⟩), .bool o.isSome]
abbrev Z3 : Fr := ⟨0, 0, 0⟩
def jvalid (a : Jn) : Bool := fvalid a.x && fvalid a.y
def jpowerI (a : Jn) : Option Fr := if jvalid a then (powerI a.x).bind fun x => (powerI a.y).bind fun y => addI x y else none
def jaddI (a b : Jn) : Option Jn := (addI a.x b.x).bind fun x => (addI a.y b.y).bind fun y => some ⟨x, y⟩
def jlessI (a b : Jn) : Option Jn := (lessI a.x b.x).bind fun x => (lessI a.y b.y).bind fun y => some ⟨x, y⟩
def jtimesI (a : Jn) (c : Fr) : Option Jn := (timesI a.x c).bind fun x => (timesI a.y c).bind fun y => some ⟨x, y⟩
def jdark (a : Jn) : Bool := a.x == ⟨0, 0, 1⟩ && a.y == ⟨0, 0, 1⟩
/-- The sum of two products. -/
def innerI (a b c d : Fr) : Option Fr := (timesI a b).bind fun x => (timesI c d).bind fun y => addI x y
def jalikeI (a b : Jn) : Bool := jvalid a && jvalid b && (timesI a.x b.y).isSome && (timesI a.y b.x).isSome && (timesI a.x b.y == timesI a.y b.x) && (jdark a == jdark b)
set_option maxHeartbeats 400000 in
theorem jvalid_any (a : Jn) (w : World) :
    Calls Try.prog 27 #[jnv a] w fun e w' => e = .returned (.bool (jvalid a)) ∧ Below w.heap.size w w' := by
  cases ha : fvalid a.x
  · go_enter Try.func27, Try.ntmps27
    go_wp2_with (first | (go_at_call 31; (with_reducible refine (fvalid_f a.x _ (by assumption)).mono ?_); rintro e w1 ⟨rfl, hb⟩; obtain ⟨hc, hf⟩ := bf hb (w.heap.size + 1) (by first | omega | (simp; done) | (simp; omega)); have hs := hb.size; (try simp only [World.size_alloc, World.size_setCell, World.size_drew, World.heap_drewN] at hs); have hl : w.heap.size ≤ w1.heap.size ∧ w.heap.size < w1.heap.size := ⟨by omega, by omega⟩; have hB : Below w.heap.size w w1 := bstep (by (repeat' (first | (with_reducible exact Below.refl _ _) | (with_reducible assumption) | (with_reducible refine Below.setCell ?_ (by first | omega | (simp; done) | (simp; omega)) _) | (with_reducible refine Below.alloc ?_ (by first | omega | (simp; done) | (simp; omega)) _) | (with_reducible refine below_drewN ?_ _) | (with_reducible refine Below.drew ?_)))) hb (by first | omega | (simp; done) | (simp; omega)); clear hs hb))
    go_ret
    exact ⟨by simp [jvalid, ha], by (repeat' (first | (with_reducible exact Below.refl _ _) | (with_reducible assumption) | (with_reducible refine Below.setCell ?_ (by first | omega | (simp; done) | (simp; omega)) _) | (with_reducible refine Below.alloc ?_ (by first | omega | (simp; done) | (simp; omega)) _) | (with_reducible refine below_drewN ?_ _) | (with_reducible refine Below.drew ?_)))⟩
  · go_enter Try.func27, Try.ntmps27
    go_wp2_with (first | (go_at_call 31; (with_reducible refine (fvalid_t a.x _ (by assumption)).mono ?_); rintro e w1 ⟨rfl, hb⟩; obtain ⟨hc, hf⟩ := bf hb (w.heap.size + 1) (by first | omega | (simp; done) | (simp; omega)); have hs := hb.size; (try simp only [World.size_alloc, World.size_setCell, World.size_drew, World.heap_drewN] at hs); have hl : w.heap.size ≤ w1.heap.size ∧ w.heap.size < w1.heap.size := ⟨by omega, by omega⟩; have hB : Below w.heap.size w w1 := bstep (by (repeat' (first | (with_reducible exact Below.refl _ _) | (with_reducible assumption) | (with_reducible refine Below.setCell ?_ (by first | omega | (simp; done) | (simp; omega)) _) | (with_reducible refine Below.alloc ?_ (by first | omega | (simp; done) | (simp; omega)) _) | (with_reducible refine below_drewN ?_ _) | (with_reducible refine Below.drew ?_)))) hb (by first | omega | (simp; done) | (simp; omega)); clear hs hb) | (go_at_call 31; (with_reducible refine (fvalid_any a.y _).mono ?_); rintro e w1 ⟨rfl, hb⟩; obtain ⟨hc, hf⟩ := bf hb (w.heap.size + 1) (by first | omega | (simp; done) | (simp; omega)); have hs := hb.size; (try simp only [World.size_alloc, World.size_setCell, World.size_drew, World.heap_drewN] at hs); have hl : w.heap.size ≤ w1.heap.size ∧ w.heap.size < w1.heap.size := ⟨by omega, by omega⟩; have hB : Below w.heap.size w w1 := bstep (by (repeat' (first | (with_reducible exact Below.refl _ _) | (with_reducible assumption) | (with_reducible refine Below.setCell ?_ (by first | omega | (simp; done) | (simp; omega)) _) | (with_reducible refine Below.alloc ?_ (by first | omega | (simp; done) | (simp; omega)) _) | (with_reducible refine below_drewN ?_ _) | (with_reducible refine Below.drew ?_)))) hb (by first | omega | (simp; done) | (simp; omega)); clear hs hb))
    go_ret
    exact ⟨by simp [jvalid, ha], by (repeat' (first | (with_reducible exact Below.refl _ _) | (with_reducible assumption) | (with_reducible refine Below.setCell ?_ (by first | omega | (simp; done) | (simp; omega)) _) | (with_reducible refine Below.alloc ?_ (by first | omega | (simp; done) | (simp; omega)) _) | (with_reducible refine below_drewN ?_ _) | (with_reducible refine Below.drew ?_)))⟩
theorem jvalid_t (a : Jn) (w : World) (h : jvalid a = true) : Calls Try.prog 27 #[jnv a] w fun e w' => e = .returned (.bool true) ∧ Below w.heap.size w w' := by
  rw [← h]; exact jvalid_any a w
theorem jvalid_f (a : Jn) (w : World) (h : jvalid a = false) : Calls Try.prog 27 #[jnv a] w fun e w' => e = .returned (.bool false) ∧ Below w.heap.size w w' := by
  rw [← h]; exact jvalid_any a w
end Go.Proofs.Ytddfpbdmppnkiaa
