/-
  The walks of the functions on vectors of light, program and reference.
-/
import Derived.Test.YtiagnnmnaakmoaaDoorSm
import Derived.Deep.RegionHeld3
import Derived.Deep.DrawnRows
namespace Go.Proofs.YtiagnnmnaakmoaaDoor
set_option linter.unusedSimpArgs false
set_option linter.unusedVariables false
open Go.RowKit
attribute [local go_sem ↓] Go.wp_at_zero Go.wp_at_succ
/-- A vector of light. -/
structure Jn where
  x : Fr
  y : Fr
  deriving DecidableEq
abbrev jnv (a : Jn) : Value := .agg #[.int .i64 a.x.re, .int .i64 a.x.im, .int .i64 a.x.den, .int .i64 a.y.re, .int .i64 a.y.im, .int .i64 a.y.den]
abbrev jnb (o : Option Jn) : Value := .tuple #[jnv (o.getD ⟨⟨0, 0, 0⟩, ⟨0, 0, 0⟩⟩), .bool o.isSome]
abbrev Z3 : Fr := ⟨0, 0, 0⟩
def jvalid (a : Jn) : Bool := fvalid a.x && fvalid a.y
def jtimesI (a : Jn) (c : Fr) : Option Jn := (timesI a.x c).bind fun x => (timesI a.y c).bind fun y => some ⟨x, y⟩
def jdark (a : Jn) : Bool := a.x == ⟨0, 0, 1⟩ && a.y == ⟨0, 0, 1⟩
/-- The sum of two products. -/
def innerI (a b c d : Fr) : Option Fr := (timesI a b).bind fun x => (timesI c d).bind fun y => addI x y
def jalikeI (a b : Jn) : Bool := jvalid a && jvalid b && (timesI a.x b.y).isSome && (timesI a.y b.x).isSome && (timesI a.x b.y == timesI a.y b.x) && (jdark a == jdark b)
set_option maxHeartbeats 400000 in
theorem jvalid_any (a : Jn) (w : World) :
    Calls Tryd.prog 43 #[jnv a] w fun e w' => e = .returned (.bool (jvalid a)) ∧ Below w.heap.size w w' := by
  cases ha : fvalid a.x
  · go_enter Tryd.func43, Tryd.ntmps43
    go_wp2_with (first | (go_at_call 48; (with_reducible refine (fvalid_f a.x _ (by assumption)).mono ?_); rintro e w1 ⟨rfl, hb⟩; obtain ⟨hc, hf⟩ := bf hb (w.heap.size + 1) side_; have hs := hb.size; (try simp only [World.size_alloc, World.size_setCell, World.size_drew, World.heap_drewN] at hs); have hl : w.heap.size ≤ w1.heap.size ∧ w.heap.size < w1.heap.size := ⟨by omega, by omega⟩; have hB : Below w.heap.size w w1 := bstep (by exact below_) hb side_; clear hs hb))
    go_ret
    exact ⟨by simp [jvalid, ha], by exact below_⟩
  · go_enter Tryd.func43, Tryd.ntmps43
    go_wp2_with (first | (go_at_call 48; (with_reducible refine (fvalid_t a.x _ (by assumption)).mono ?_); rintro e w1 ⟨rfl, hb⟩; obtain ⟨hc, hf⟩ := bf hb (w.heap.size + 1) side_; have hs := hb.size; (try simp only [World.size_alloc, World.size_setCell, World.size_drew, World.heap_drewN] at hs); have hl : w.heap.size ≤ w1.heap.size ∧ w.heap.size < w1.heap.size := ⟨by omega, by omega⟩; have hB : Below w.heap.size w w1 := bstep (by exact below_) hb side_; clear hs hb) | (go_at_call 48; (with_reducible refine (fvalid_any a.y _).mono ?_); rintro e w1 ⟨rfl, hb⟩; obtain ⟨hc, hf⟩ := bf hb (w.heap.size + 1) side_; have hs := hb.size; (try simp only [World.size_alloc, World.size_setCell, World.size_drew, World.heap_drewN] at hs); have hl : w.heap.size ≤ w1.heap.size ∧ w.heap.size < w1.heap.size := ⟨by omega, by omega⟩; have hB : Below w.heap.size w w1 := bstep (by exact below_) hb side_; clear hs hb))
    go_ret
    exact ⟨by simp [jvalid, ha], by exact below_⟩
theorem jvalid_t (a : Jn) (w : World) (h : jvalid a = true) : Calls Tryd.prog 43 #[jnv a] w fun e w' => e = .returned (.bool true) ∧ Below w.heap.size w w' := by
  rw [← h]; exact jvalid_any a w
set_option maxHeartbeats 400000 in
theorem sjvalid_any (a : Jn) (w : World) :
    Calls Tryd.prog 55 #[jnv a] w fun e w' => e = .returned (.bool (jvalid a)) ∧ Below w.heap.size w w' := by
  cases ha : fvalid a.x
  · go_enter Tryd.func55, Tryd.ntmps55
    go_wp2_with (first | (go_at_call 76; (with_reducible refine (sfvalid_f a.x _ (by assumption)).mono ?_); rintro e w1 ⟨rfl, hb⟩; obtain ⟨hc, hf⟩ := bf hb (w.heap.size + 1) side_; have hs := hb.size; (try simp only [World.size_alloc, World.size_setCell, World.size_drew, World.heap_drewN] at hs); have hl : w.heap.size ≤ w1.heap.size ∧ w.heap.size < w1.heap.size := ⟨by omega, by omega⟩; have hB : Below w.heap.size w w1 := bstep (by exact below_) hb side_; clear hs hb))
    go_ret
    exact ⟨by simp [jvalid, ha], by exact below_⟩
  · go_enter Tryd.func55, Tryd.ntmps55
    go_wp2_with (first | (go_at_call 76; (with_reducible refine (sfvalid_t a.x _ (by assumption)).mono ?_); rintro e w1 ⟨rfl, hb⟩; obtain ⟨hc, hf⟩ := bf hb (w.heap.size + 1) side_; have hs := hb.size; (try simp only [World.size_alloc, World.size_setCell, World.size_drew, World.heap_drewN] at hs); have hl : w.heap.size ≤ w1.heap.size ∧ w.heap.size < w1.heap.size := ⟨by omega, by omega⟩; have hB : Below w.heap.size w w1 := bstep (by exact below_) hb side_; clear hs hb) | (go_at_call 76; (with_reducible refine (sfvalid_any a.y _).mono ?_); rintro e w1 ⟨rfl, hb⟩; obtain ⟨hc, hf⟩ := bf hb (w.heap.size + 1) side_; have hs := hb.size; (try simp only [World.size_alloc, World.size_setCell, World.size_drew, World.heap_drewN] at hs); have hl : w.heap.size ≤ w1.heap.size ∧ w.heap.size < w1.heap.size := ⟨by omega, by omega⟩; have hB : Below w.heap.size w w1 := bstep (by exact below_) hb side_; clear hs hb))
    go_ret
    exact ⟨by simp [jvalid, ha], by exact below_⟩
theorem sjvalid_t (a : Jn) (w : World) (h : jvalid a = true) : Calls Tryd.prog 55 #[jnv a] w fun e w' => e = .returned (.bool true) ∧ Below w.heap.size w w' := by
  rw [← h]; exact sjvalid_any a w
theorem sjvalid_f (a : Jn) (w : World) (h : jvalid a = false) : Calls Tryd.prog 55 #[jnv a] w fun e w' => e = .returned (.bool false) ∧ Below w.heap.size w w' := by
  rw [← h]; exact sjvalid_any a w
end Go.Proofs.YtiagnnmnaakmoaaDoor
