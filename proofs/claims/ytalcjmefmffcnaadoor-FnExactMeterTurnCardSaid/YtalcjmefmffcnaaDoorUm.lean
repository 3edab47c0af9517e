/-
  The walk of the statement that compares MeterRow with the reference's: it returns true, for all stations.
-/
import Derived.Test.YtalcjmefmffcnaaDoorUl
import Derived.Test.YtalcjmefmffcnaaDoorSb
import Derived.Test.YtalcjmefmffcnaaDoorPh
namespace Go.Proofs.YtalcjmefmffcnaaDoor
set_option linter.unusedSimpArgs false
set_option linter.unusedVariables false
open Go.RowKit
attribute [local go_sem ↓] Go.wp_at_zero Go.wp_at_succ
theorem rwb_form (s : Sta) : ∃ (q : Mt) (ok : Bool), rwb (rowI s) = .tuple #[mtv q, .bool ok] ∧ ok = (rowI s).isSome ∧ (ok = true → rowI s = some (row4 q)) := by
  cases h : rowI s with
  | none => exact ⟨zm, false, rfl, rfl, fun h => by cases h⟩
  | some r =>
    obtain ⟨h1, -⟩ := row_some h
    match r, h1 with
    | [a, b, c, d], _ => exact ⟨⟨a, b, c, d⟩, true, rfl, rfl, fun _ => rfl⟩
/-- What the row's value and its mark say. -/
theorem row_parts (s : Sta) : ∃ (q : Mt) (ok : Bool), rwb (rowI s) = .tuple #[mtv q, .bool ok] ∧ ok = rowOk s ∧ (ok = true → rowG s = row4 q) := by
  obtain ⟨q, ok, h1, h2, h3⟩ := rwb_form s
  exact ⟨q, ok, h1, h2, fun h => by rw [rowG, h3 h]; rfl⟩
theorem row_m (s : Sta) (q : Mt) (ok : Bool) (w : World) (hO : GO w) (hZ : GZ w) (hT : GT w) (e : Hid (rwb (rowI s) = .tuple #[mtv q, .bool ok])) :
    Calls Tryd.prog 16 #[stv s] w fun e w' => e = .returned (.tuple #[mtv q, .bool ok]) ∧ Below w.heap.size w w' := by
  rw [← e.out]; exact meterRow_any s w hO hZ hT
theorem srow_m (s : Sta) (q : Mt) (ok : Bool) (w : World) (e : Hid (rwb (rowI s) = .tuple #[mtv q, .bool ok])) :
    Calls Tryd.prog 14 #[stv s] w fun e w' => e = .returned (.tuple #[mtv q, .bool ok]) ∧ Below w.heap.size w w' := by
  rw [← e.out]; exact smeterRow_any s w
set_option maxRecDepth 100000 in
set_option maxHeartbeats 8000000 in
theorem fnExactMeterRow_walk (s : Sta) (w : World) (hGO : GO w) (hGZ : GZ w) (hGT : GT w) :
    Calls Tryd.prog 3 #[stv s] w fun e w' => e = .returned (.bool true) ∧ Below w.heap.size w w' := by
  obtain ⟨q, ok, hq, -⟩ := rwb_form s
  have HC := Lib.hid hq
  clear hq
  have hS0 : ((w.alloc (.cells #[.int .i64 s.p, .int .i64 s.q] 23))).cell? ⟨w.heap.size, 0, none⟩ = some (.int .i64 s.p) ∧ ((w.alloc (.cells #[.int .i64 s.p, .int .i64 s.q] 23))).cell? ⟨w.heap.size, 1, none⟩ = some (.int .i64 s.q) := by
    constructor <;> simp [go_sem]
  go_enter Tryd.func3, Tryd.ntmps3
  go_wp2_with (go_at_call 15; (with_reducible refine (toSta_any s _).mono ?_); rintro e w1 ⟨rfl, hb⟩; refine Hid.out ?_)
  refine Lib.hid ?_
  have hB : Below w.heap.size w w1 := bstep (by exact below_) hb (by simp)
  have c0 := (hb.cell (p := ⟨w.heap.size, 0, none⟩) (by simp)).trans hS0.1
  have c1 := (hb.cell (p := ⟨w.heap.size, 1, none⟩) (by simp)).trans hS0.2
  clear hb hS0
  go_wp2_with (go_at_call 14; (with_reducible refine (srow_m s q ok _ HC).mono ?_); rintro e w2 ⟨rfl, hb⟩; refine Hid.out ?_)
  refine Lib.hid ?_
  have hlt := World.block_lt_of_cell? w1 _ c0
  simp only at hlt
  have d0 : (w2.alloc (.cells #[.int .i64 q.a.re, .int .i64 q.a.im, .int .i64 q.a.den, .int .i64 q.b.re, .int .i64 q.b.im, .int .i64 q.b.den, .int .i64 q.c.re, .int .i64 q.c.im, .int .i64 q.c.den, .int .i64 q.d.re, .int .i64 q.d.im, .int .i64 q.d.den] 26)).cell? ⟨w.heap.size, 0, none⟩ = some (.int .i64 s.p) := ((((Below.refl _ _).alloc (Nat.le_refl _) _).cell (p := ⟨w.heap.size, 0, none⟩) (by have := hb.size; show w.heap.size < w2.heap.size; omega)).trans (hb.cell (p := ⟨w.heap.size, 0, none⟩) hlt)).trans c0
  have d1 : (w2.alloc (.cells #[.int .i64 q.a.re, .int .i64 q.a.im, .int .i64 q.a.den, .int .i64 q.b.re, .int .i64 q.b.im, .int .i64 q.b.den, .int .i64 q.c.re, .int .i64 q.c.im, .int .i64 q.c.den, .int .i64 q.d.re, .int .i64 q.d.im, .int .i64 q.d.den] 26)).cell? ⟨w.heap.size, 1, none⟩ = some (.int .i64 s.q) := ((((Below.refl _ _).alloc (Nat.le_refl _) _).cell (p := ⟨w.heap.size, 1, none⟩) (by have := hb.size; show w.heap.size < w2.heap.size; omega)).trans (hb.cell (p := ⟨w.heap.size, 1, none⟩) hlt)).trans c1
  have hB : Below w.heap.size w w2 := bstep hB hb hB.size
  have hM := MtAt.new w2 q 26
  have hB : Below w.heap.size w (w2.alloc (.cells #[.int .i64 q.a.re, .int .i64 q.a.im, .int .i64 q.a.den, .int .i64 q.b.re, .int .i64 q.b.im, .int .i64 q.b.den, .int .i64 q.c.re, .int .i64 q.c.im, .int .i64 q.c.den, .int .i64 q.d.re, .int .i64 q.d.im, .int .i64 q.d.den] 26)) := hB.alloc hB.size _
  obtain ⟨ba, hba⟩ : ∃ ba, ba = w2.heap.size := ⟨_, rfl⟩
  clear hb c0 c1 hlt
  go_wp2_with (go_at_call 15; (with_reducible refine (toSta_any s _).mono ?_); rintro e w3 ⟨rfl, hb⟩; refine Hid.out ?_)
  refine Lib.hid ?_
  have hM := hM.below hb hM.lt
  rw [← hba] at hM ⊢
  have hB : Below w.heap.size w w3 := bstep hB hb hB.size
  clear hb hba d0 d1
  go_wp2_with (go_at_call 16; (with_reducible refine (row_m s q ok _ (hGO.below hB) (hGZ.below hB) (hGT.below hB) HC).mono ?_); rintro e w4 ⟨rfl, hb⟩; refine Hid.out ?_)
  refine Lib.hid ?_
  have hM := (hM.below hb hM.lt).alloc (.cells #[.int .i64 q.a.re, .int .i64 q.a.im, .int .i64 q.a.den, .int .i64 q.b.re, .int .i64 q.b.im, .int .i64 q.b.den, .int .i64 q.c.re, .int .i64 q.c.im, .int .i64 q.c.den, .int .i64 q.d.re, .int .i64 q.d.im, .int .i64 q.d.den] 26)
  have hN := MtAt.new w4 q 26
  have hB : Below w.heap.size w w4 := bstep hB hb hB.size
  have hB : Below w.heap.size w (w4.alloc (.cells #[.int .i64 q.a.re, .int .i64 q.a.im, .int .i64 q.a.den, .int .i64 q.b.re, .int .i64 q.b.im, .int .i64 q.b.den, .int .i64 q.c.re, .int .i64 q.c.im, .int .i64 q.c.den, .int .i64 q.d.re, .int .i64 q.d.im, .int .i64 q.d.den] 26)) := hB.alloc hB.size _
  obtain ⟨m0, m1, m2, m3, m4, m5, m6, m7, m8, m9, m10, m11⟩ := hM
  clear hb hN
  go_wp2_with (go_at_call 17; (with_reducible refine (eqA4_refl q _).mono ?_); rintro e w5 ⟨rfl, hb⟩; have hB5 : Below w.heap.size w w5 := bstep hB hb hB.size; clear hb)
  go_ret
  exact ⟨rfl, by exact below_⟩
end Go.Proofs.YtalcjmefmffcnaaDoor
