/-
  The walks of the products of matrices, and of a matrix and a vector (program).
-/
import Derived.Test.YtiagnnmnaakmoaaDoorMu
namespace Go.Proofs.YtiagnnmnaakmoaaDoor
set_option linter.unusedSimpArgs false
set_option linter.unusedVariables false
open Go.RowKit
attribute [local go_sem ↓] Go.wp_at_zero Go.wp_at_succ
/-- A matrix in a block. -/
def MtAt (w : World) (b : Nat) (m : Mt) : Prop := w.cell? ⟨b, 0, none⟩ = some (.int .i64 m.a.re) ∧ w.cell? ⟨b, 1, none⟩ = some (.int .i64 m.a.im) ∧ w.cell? ⟨b, 2, none⟩ = some (.int .i64 m.a.den) ∧ w.cell? ⟨b, 3, none⟩ = some (.int .i64 m.b.re) ∧ w.cell? ⟨b, 4, none⟩ = some (.int .i64 m.b.im) ∧ w.cell? ⟨b, 5, none⟩ = some (.int .i64 m.b.den) ∧ w.cell? ⟨b, 6, none⟩ = some (.int .i64 m.c.re) ∧ w.cell? ⟨b, 7, none⟩ = some (.int .i64 m.c.im) ∧ w.cell? ⟨b, 8, none⟩ = some (.int .i64 m.c.den) ∧ w.cell? ⟨b, 9, none⟩ = some (.int .i64 m.d.re) ∧ w.cell? ⟨b, 10, none⟩ = some (.int .i64 m.d.im) ∧ w.cell? ⟨b, 11, none⟩ = some (.int .i64 m.d.den)
def JnAt (w : World) (b : Nat) (v : Jn) : Prop := w.cell? ⟨b, 0, none⟩ = some (.int .i64 v.x.re) ∧ w.cell? ⟨b, 1, none⟩ = some (.int .i64 v.x.im) ∧ w.cell? ⟨b, 2, none⟩ = some (.int .i64 v.x.den) ∧ w.cell? ⟨b, 3, none⟩ = some (.int .i64 v.y.re) ∧ w.cell? ⟨b, 4, none⟩ = some (.int .i64 v.y.im) ∧ w.cell? ⟨b, 5, none⟩ = some (.int .i64 v.y.den)
def cellV (p q r s : Fr) : Fr := (addI ((timesI p q).getD ⟨0, 0, 0⟩) ((timesI r s).getD ⟨0, 0, 0⟩)).getD ⟨0, 0, 0⟩
def cellN (p q r s : Fr) : Bool := (timesI p q).isNone || (timesI r s).isNone || (addI ((timesI p q).getD ⟨0, 0, 0⟩) ((timesI r s).getD ⟨0, 0, 0⟩)).isNone
theorem inner_eq (p q r s : Fr) : innerI p q r s = if cellN p q r s then none else some (cellV p q r s) := by
  unfold innerI cellN cellV
  cases hx : timesI p q
  · simp
  cases hy : timesI r s
  · simp
  rename_i x y
  cases hz : addI x y <;> simp [hz]
set_option maxRecDepth 100000 in
set_option maxHeartbeats 2000000 in
theorem mcell00 (bp ba bb bs : Nat) (bad : Bool) (m n : Mt) (w : World) (hs : SumIs w bs bad) (ha : ba < bs) (hb : bb < bs) (hp : bs < bp) (hpw : bp < w.heap.size) (hP : w.cell? ⟨bp, 0, none⟩ = some (.pointer (some ⟨bs, 0, none⟩))) (hA : MtAt w ba m) (hB : MtAt w bb n) :
    Calls Tryd.prog 63 #[.int .i64 0, .int .i64 0, .pointer (some ⟨bp, 0, none⟩), .pointer (some ⟨ba, 0, none⟩), .pointer (some ⟨bb, 0, none⟩)] w fun e w' => e = .returned (frv (cellV (m.a) (n.a) (m.b) (n.c))) ∧ SumIs w' bs (bad || cellN (m.a) (n.a) (m.b) (n.c)) ∧ BelX w.heap.size bs w w' := by
  have hlt := hs.lt
  have hla : ba < w.heap.size := by omega
  have hlb : bb < w.heap.size := by omega
  obtain ⟨a0, a1, a2, a3, a4, a5, a6, a7, a8, a9, a10, a11⟩ := hA
  obtain ⟨b0, b1, b2, b3, b4, b5, b6, b7, b8, b9, b10, b11⟩ := hB
  have hX : BelX w.heap.size bs w w := BelX.refl _ _ _
  have hpw1 : bp < w.heap.size + 1 := by omega
  have q0 : IntKind.i64.wrap 0 = 0 := by decide
  have q1 : IntKind.i64.wrap 1 = 1 := by decide
  have q2 : IntKind.i64.wrap 2 = 2 := by decide
  have q3 : IntKind.i64.wrap 3 = 3 := by decide
  go_enter Tryd.func63, Tryd.ntmps63
  go_wp2
  go_region_held3 (fun w' => w'.cell? ⟨ba, 0, none⟩ = some (.int .i64 (m.a.re)) ∧ w'.cell? ⟨ba, 1, none⟩ = some (.int .i64 (m.a.im)) ∧ w'.cell? ⟨ba, 2, none⟩ = some (.int .i64 (m.a.den)) ∧ w'.cell? ⟨ba, 3, none⟩ = some (.int .i64 (m.b.re)) ∧ w'.cell? ⟨ba, 4, none⟩ = some (.int .i64 (m.b.im)) ∧ w'.cell? ⟨ba, 5, none⟩ = some (.int .i64 (m.b.den)) ∧ w'.cell? ⟨bb, 0, none⟩ = some (.int .i64 (n.a.re)) ∧ w'.cell? ⟨bb, 1, none⟩ = some (.int .i64 (n.a.im)) ∧ w'.cell? ⟨bb, 2, none⟩ = some (.int .i64 (n.a.den)) ∧ w'.cell? ⟨bb, 6, none⟩ = some (.int .i64 (n.c.re)) ∧ w'.cell? ⟨bb, 7, none⟩ = some (.int .i64 (n.c.im)) ∧ w'.cell? ⟨bb, 8, none⟩ = some (.int .i64 (n.c.den)) ∧ w'.cell? ⟨bp, 0, none⟩ = some (.pointer (some ⟨bs, 0, none⟩))) ((first | go_keep | (simp [go_sem, *]; done))) (first | (go_at_call 46; (with_reducible refine (x_times (m.a) (n.a) bs _ (by exact sum_)).mono ?_); rintro e w1 ⟨rfl, hu, hx⟩; have hs1 := hu _ (by exact sum_); clear hu; obtain ⟨hc, hf⟩ := bfxL hx side_; obtain ⟨hc3, hf3⟩ := bfxU hx (w.heap.size + 1) side_; have hs2 := hx.size; (try simp only [World.size_alloc, World.size_setCell, World.size_drew, World.heap_drewN] at hs2); have hl : w.heap.size ≤ w1.heap.size ∧ w.heap.size < w1.heap.size := ⟨by omega, by omega⟩; have hcs1 := hs1.cell; have hfs1 := hs1.frozen; have hX : BelX w.heap.size bs w w1 := BelX.step (by exact belx_) hx side_; clear hs2 hx) | (go_at_call 46; (with_reducible refine (x_times (m.b) (n.c) bs _ (by exact sum_)).mono ?_); rintro e w1 ⟨rfl, hu, hx⟩; have hs1 := hu _ (by exact sum_); clear hu; obtain ⟨hc, hf⟩ := bfxL hx side_; obtain ⟨hc3, hf3⟩ := bfxU hx (w.heap.size + 1) side_; have hs2 := hx.size; (try simp only [World.size_alloc, World.size_setCell, World.size_drew, World.heap_drewN] at hs2); have hl : w.heap.size ≤ w1.heap.size ∧ w.heap.size < w1.heap.size := ⟨by omega, by omega⟩; have hcs1 := hs1.cell; have hfs1 := hs1.frozen; have hX : BelX w.heap.size bs w w1 := BelX.step (by exact belx_) hx side_; clear hs2 hx) | (go_at_call 45; (with_reducible refine (x_add _ _ bs _ (by exact sum_)).mono ?_); rintro e w1 ⟨rfl, hu, hx⟩; have hs1 := hu _ (by exact sum_); clear hu; obtain ⟨hc, hf⟩ := bfxL hx side_; obtain ⟨hc3, hf3⟩ := bfxU hx (w.heap.size + 1) side_; have hs2 := hx.size; (try simp only [World.size_alloc, World.size_setCell, World.size_drew, World.heap_drewN] at hs2); have hl : w.heap.size ≤ w1.heap.size ∧ w.heap.size < w1.heap.size := ⟨by omega, by omega⟩; have hcs1 := hs1.cell; have hfs1 := hs1.frozen; have hX : BelX w.heap.size bs w w1 := BelX.step (by exact belx_) hx side_; clear hs2 hx))
  go_wp2
  exact bodyPost_ret (v := frv (cellV (m.a) (n.a) (m.b) (n.c))) (by simp [results, Tryd.results63, go_sem, cellV, *]) rfl ⟨rfl, by rw [show (bad || cellN (m.a) (n.a) (m.b) (n.c)) = (bad || (timesI (m.a) (n.a)).isNone || (timesI (m.b) (n.c)).isNone || (addI ((timesI (m.a) (n.a)).getD ⟨0, 0, 0⟩) ((timesI (m.b) (n.c)).getD ⟨0, 0, 0⟩)).isNone) by simp [cellN, Bool.or_assoc]]; exact sum_, by exact belx_⟩
theorem x_mcell00 (bp ba bb bs : Nat) (m n : Mt) (w : World) (hs : SumEx w bs) (ha : ba < bs) (hb : bb < bs) (hp : bs < bp) (hpw : bp < w.heap.size) (hP : w.cell? ⟨bp, 0, none⟩ = some (.pointer (some ⟨bs, 0, none⟩))) (hA : MtAt w ba m) (hB : MtAt w bb n) :
    Calls Tryd.prog 63 #[.int .i64 0, .int .i64 0, .pointer (some ⟨bp, 0, none⟩), .pointer (some ⟨ba, 0, none⟩), .pointer (some ⟨bb, 0, none⟩)] w fun e w' => e = .returned (frv (cellV (m.a) (n.a) (m.b) (n.c))) ∧ (∀ c, SumIs w bs c → SumIs w' bs (c || cellN (m.a) (n.a) (m.b) (n.c))) ∧ BelX w.heap.size bs w w' := by
  obtain ⟨b0, h0⟩ := hs
  exact (mcell00 bp ba bb bs b0 m n w h0 ha hb hp hpw hP hA hB).mono fun e w' ⟨h1, h2, h3⟩ => ⟨h1, fun c hc => by rw [← h0.uniq hc]; exact h2, h3⟩
set_option maxRecDepth 100000 in
set_option maxHeartbeats 2000000 in
theorem mcell01 (bp ba bb bs : Nat) (bad : Bool) (m n : Mt) (w : World) (hs : SumIs w bs bad) (ha : ba < bs) (hb : bb < bs) (hp : bs < bp) (hpw : bp < w.heap.size) (hP : w.cell? ⟨bp, 0, none⟩ = some (.pointer (some ⟨bs, 0, none⟩))) (hA : MtAt w ba m) (hB : MtAt w bb n) :
    Calls Tryd.prog 63 #[.int .i64 0, .int .i64 1, .pointer (some ⟨bp, 0, none⟩), .pointer (some ⟨ba, 0, none⟩), .pointer (some ⟨bb, 0, none⟩)] w fun e w' => e = .returned (frv (cellV (m.a) (n.b) (m.b) (n.d))) ∧ SumIs w' bs (bad || cellN (m.a) (n.b) (m.b) (n.d)) ∧ BelX w.heap.size bs w w' := by
  have hlt := hs.lt
  have hla : ba < w.heap.size := by omega
  have hlb : bb < w.heap.size := by omega
  obtain ⟨a0, a1, a2, a3, a4, a5, a6, a7, a8, a9, a10, a11⟩ := hA
  obtain ⟨b0, b1, b2, b3, b4, b5, b6, b7, b8, b9, b10, b11⟩ := hB
  have hX : BelX w.heap.size bs w w := BelX.refl _ _ _
  have hpw1 : bp < w.heap.size + 1 := by omega
  have q0 : IntKind.i64.wrap 0 = 0 := by decide
  have q1 : IntKind.i64.wrap 1 = 1 := by decide
  have q2 : IntKind.i64.wrap 2 = 2 := by decide
  have q3 : IntKind.i64.wrap 3 = 3 := by decide
  go_enter Tryd.func63, Tryd.ntmps63
  go_wp2
  go_region_held3 (fun w' => w'.cell? ⟨ba, 0, none⟩ = some (.int .i64 (m.a.re)) ∧ w'.cell? ⟨ba, 1, none⟩ = some (.int .i64 (m.a.im)) ∧ w'.cell? ⟨ba, 2, none⟩ = some (.int .i64 (m.a.den)) ∧ w'.cell? ⟨ba, 3, none⟩ = some (.int .i64 (m.b.re)) ∧ w'.cell? ⟨ba, 4, none⟩ = some (.int .i64 (m.b.im)) ∧ w'.cell? ⟨ba, 5, none⟩ = some (.int .i64 (m.b.den)) ∧ w'.cell? ⟨bb, 3, none⟩ = some (.int .i64 (n.b.re)) ∧ w'.cell? ⟨bb, 4, none⟩ = some (.int .i64 (n.b.im)) ∧ w'.cell? ⟨bb, 5, none⟩ = some (.int .i64 (n.b.den)) ∧ w'.cell? ⟨bb, 9, none⟩ = some (.int .i64 (n.d.re)) ∧ w'.cell? ⟨bb, 10, none⟩ = some (.int .i64 (n.d.im)) ∧ w'.cell? ⟨bb, 11, none⟩ = some (.int .i64 (n.d.den)) ∧ w'.cell? ⟨bp, 0, none⟩ = some (.pointer (some ⟨bs, 0, none⟩))) ((first | go_keep | (simp [go_sem, *]; done))) (first | (go_at_call 46; (with_reducible refine (x_times (m.a) (n.b) bs _ (by exact sum_)).mono ?_); rintro e w1 ⟨rfl, hu, hx⟩; have hs1 := hu _ (by exact sum_); clear hu; obtain ⟨hc, hf⟩ := bfxL hx side_; obtain ⟨hc3, hf3⟩ := bfxU hx (w.heap.size + 1) side_; have hs2 := hx.size; (try simp only [World.size_alloc, World.size_setCell, World.size_drew, World.heap_drewN] at hs2); have hl : w.heap.size ≤ w1.heap.size ∧ w.heap.size < w1.heap.size := ⟨by omega, by omega⟩; have hcs1 := hs1.cell; have hfs1 := hs1.frozen; have hX : BelX w.heap.size bs w w1 := BelX.step (by exact belx_) hx side_; clear hs2 hx) | (go_at_call 46; (with_reducible refine (x_times (m.b) (n.d) bs _ (by exact sum_)).mono ?_); rintro e w1 ⟨rfl, hu, hx⟩; have hs1 := hu _ (by exact sum_); clear hu; obtain ⟨hc, hf⟩ := bfxL hx side_; obtain ⟨hc3, hf3⟩ := bfxU hx (w.heap.size + 1) side_; have hs2 := hx.size; (try simp only [World.size_alloc, World.size_setCell, World.size_drew, World.heap_drewN] at hs2); have hl : w.heap.size ≤ w1.heap.size ∧ w.heap.size < w1.heap.size := ⟨by omega, by omega⟩; have hcs1 := hs1.cell; have hfs1 := hs1.frozen; have hX : BelX w.heap.size bs w w1 := BelX.step (by exact belx_) hx side_; clear hs2 hx) | (go_at_call 45; (with_reducible refine (x_add _ _ bs _ (by exact sum_)).mono ?_); rintro e w1 ⟨rfl, hu, hx⟩; have hs1 := hu _ (by exact sum_); clear hu; obtain ⟨hc, hf⟩ := bfxL hx side_; obtain ⟨hc3, hf3⟩ := bfxU hx (w.heap.size + 1) side_; have hs2 := hx.size; (try simp only [World.size_alloc, World.size_setCell, World.size_drew, World.heap_drewN] at hs2); have hl : w.heap.size ≤ w1.heap.size ∧ w.heap.size < w1.heap.size := ⟨by omega, by omega⟩; have hcs1 := hs1.cell; have hfs1 := hs1.frozen; have hX : BelX w.heap.size bs w w1 := BelX.step (by exact belx_) hx side_; clear hs2 hx))
  go_wp2
  exact bodyPost_ret (v := frv (cellV (m.a) (n.b) (m.b) (n.d))) (by simp [results, Tryd.results63, go_sem, cellV, *]) rfl ⟨rfl, by rw [show (bad || cellN (m.a) (n.b) (m.b) (n.d)) = (bad || (timesI (m.a) (n.b)).isNone || (timesI (m.b) (n.d)).isNone || (addI ((timesI (m.a) (n.b)).getD ⟨0, 0, 0⟩) ((timesI (m.b) (n.d)).getD ⟨0, 0, 0⟩)).isNone) by simp [cellN, Bool.or_assoc]]; exact sum_, by exact belx_⟩
theorem x_mcell01 (bp ba bb bs : Nat) (m n : Mt) (w : World) (hs : SumEx w bs) (ha : ba < bs) (hb : bb < bs) (hp : bs < bp) (hpw : bp < w.heap.size) (hP : w.cell? ⟨bp, 0, none⟩ = some (.pointer (some ⟨bs, 0, none⟩))) (hA : MtAt w ba m) (hB : MtAt w bb n) :
    Calls Tryd.prog 63 #[.int .i64 0, .int .i64 1, .pointer (some ⟨bp, 0, none⟩), .pointer (some ⟨ba, 0, none⟩), .pointer (some ⟨bb, 0, none⟩)] w fun e w' => e = .returned (frv (cellV (m.a) (n.b) (m.b) (n.d))) ∧ (∀ c, SumIs w bs c → SumIs w' bs (c || cellN (m.a) (n.b) (m.b) (n.d))) ∧ BelX w.heap.size bs w w' := by
  obtain ⟨b0, h0⟩ := hs
  exact (mcell01 bp ba bb bs b0 m n w h0 ha hb hp hpw hP hA hB).mono fun e w' ⟨h1, h2, h3⟩ => ⟨h1, fun c hc => by rw [← h0.uniq hc]; exact h2, h3⟩
set_option maxRecDepth 100000 in
set_option maxHeartbeats 2000000 in
theorem mcell10 (bp ba bb bs : Nat) (bad : Bool) (m n : Mt) (w : World) (hs : SumIs w bs bad) (ha : ba < bs) (hb : bb < bs) (hp : bs < bp) (hpw : bp < w.heap.size) (hP : w.cell? ⟨bp, 0, none⟩ = some (.pointer (some ⟨bs, 0, none⟩))) (hA : MtAt w ba m) (hB : MtAt w bb n) :
    Calls Tryd.prog 63 #[.int .i64 1, .int .i64 0, .pointer (some ⟨bp, 0, none⟩), .pointer (some ⟨ba, 0, none⟩), .pointer (some ⟨bb, 0, none⟩)] w fun e w' => e = .returned (frv (cellV (m.c) (n.a) (m.d) (n.c))) ∧ SumIs w' bs (bad || cellN (m.c) (n.a) (m.d) (n.c)) ∧ BelX w.heap.size bs w w' := by
  have hlt := hs.lt
  have hla : ba < w.heap.size := by omega
  have hlb : bb < w.heap.size := by omega
  obtain ⟨a0, a1, a2, a3, a4, a5, a6, a7, a8, a9, a10, a11⟩ := hA
  obtain ⟨b0, b1, b2, b3, b4, b5, b6, b7, b8, b9, b10, b11⟩ := hB
  have hX : BelX w.heap.size bs w w := BelX.refl _ _ _
  have hpw1 : bp < w.heap.size + 1 := by omega
  have q0 : IntKind.i64.wrap 0 = 0 := by decide
  have q1 : IntKind.i64.wrap 1 = 1 := by decide
  have q2 : IntKind.i64.wrap 2 = 2 := by decide
  have q3 : IntKind.i64.wrap 3 = 3 := by decide
  go_enter Tryd.func63, Tryd.ntmps63
  go_wp2
  go_region_held3 (fun w' => w'.cell? ⟨ba, 6, none⟩ = some (.int .i64 (m.c.re)) ∧ w'.cell? ⟨ba, 7, none⟩ = some (.int .i64 (m.c.im)) ∧ w'.cell? ⟨ba, 8, none⟩ = some (.int .i64 (m.c.den)) ∧ w'.cell? ⟨ba, 9, none⟩ = some (.int .i64 (m.d.re)) ∧ w'.cell? ⟨ba, 10, none⟩ = some (.int .i64 (m.d.im)) ∧ w'.cell? ⟨ba, 11, none⟩ = some (.int .i64 (m.d.den)) ∧ w'.cell? ⟨bb, 0, none⟩ = some (.int .i64 (n.a.re)) ∧ w'.cell? ⟨bb, 1, none⟩ = some (.int .i64 (n.a.im)) ∧ w'.cell? ⟨bb, 2, none⟩ = some (.int .i64 (n.a.den)) ∧ w'.cell? ⟨bb, 6, none⟩ = some (.int .i64 (n.c.re)) ∧ w'.cell? ⟨bb, 7, none⟩ = some (.int .i64 (n.c.im)) ∧ w'.cell? ⟨bb, 8, none⟩ = some (.int .i64 (n.c.den)) ∧ w'.cell? ⟨bp, 0, none⟩ = some (.pointer (some ⟨bs, 0, none⟩))) ((first | go_keep | (simp [go_sem, *]; done))) (first | (go_at_call 46; (with_reducible refine (x_times (m.c) (n.a) bs _ (by exact sum_)).mono ?_); rintro e w1 ⟨rfl, hu, hx⟩; have hs1 := hu _ (by exact sum_); clear hu; obtain ⟨hc, hf⟩ := bfxL hx side_; obtain ⟨hc3, hf3⟩ := bfxU hx (w.heap.size + 1) side_; have hs2 := hx.size; (try simp only [World.size_alloc, World.size_setCell, World.size_drew, World.heap_drewN] at hs2); have hl : w.heap.size ≤ w1.heap.size ∧ w.heap.size < w1.heap.size := ⟨by omega, by omega⟩; have hcs1 := hs1.cell; have hfs1 := hs1.frozen; have hX : BelX w.heap.size bs w w1 := BelX.step (by exact belx_) hx side_; clear hs2 hx) | (go_at_call 46; (with_reducible refine (x_times (m.d) (n.c) bs _ (by exact sum_)).mono ?_); rintro e w1 ⟨rfl, hu, hx⟩; have hs1 := hu _ (by exact sum_); clear hu; obtain ⟨hc, hf⟩ := bfxL hx side_; obtain ⟨hc3, hf3⟩ := bfxU hx (w.heap.size + 1) side_; have hs2 := hx.size; (try simp only [World.size_alloc, World.size_setCell, World.size_drew, World.heap_drewN] at hs2); have hl : w.heap.size ≤ w1.heap.size ∧ w.heap.size < w1.heap.size := ⟨by omega, by omega⟩; have hcs1 := hs1.cell; have hfs1 := hs1.frozen; have hX : BelX w.heap.size bs w w1 := BelX.step (by exact belx_) hx side_; clear hs2 hx) | (go_at_call 45; (with_reducible refine (x_add _ _ bs _ (by exact sum_)).mono ?_); rintro e w1 ⟨rfl, hu, hx⟩; have hs1 := hu _ (by exact sum_); clear hu; obtain ⟨hc, hf⟩ := bfxL hx side_; obtain ⟨hc3, hf3⟩ := bfxU hx (w.heap.size + 1) side_; have hs2 := hx.size; (try simp only [World.size_alloc, World.size_setCell, World.size_drew, World.heap_drewN] at hs2); have hl : w.heap.size ≤ w1.heap.size ∧ w.heap.size < w1.heap.size := ⟨by omega, by omega⟩; have hcs1 := hs1.cell; have hfs1 := hs1.frozen; have hX : BelX w.heap.size bs w w1 := BelX.step (by exact belx_) hx side_; clear hs2 hx))
  go_wp2
  exact bodyPost_ret (v := frv (cellV (m.c) (n.a) (m.d) (n.c))) (by simp [results, Tryd.results63, go_sem, cellV, *]) rfl ⟨rfl, by rw [show (bad || cellN (m.c) (n.a) (m.d) (n.c)) = (bad || (timesI (m.c) (n.a)).isNone || (timesI (m.d) (n.c)).isNone || (addI ((timesI (m.c) (n.a)).getD ⟨0, 0, 0⟩) ((timesI (m.d) (n.c)).getD ⟨0, 0, 0⟩)).isNone) by simp [cellN, Bool.or_assoc]]; exact sum_, by exact belx_⟩
theorem x_mcell10 (bp ba bb bs : Nat) (m n : Mt) (w : World) (hs : SumEx w bs) (ha : ba < bs) (hb : bb < bs) (hp : bs < bp) (hpw : bp < w.heap.size) (hP : w.cell? ⟨bp, 0, none⟩ = some (.pointer (some ⟨bs, 0, none⟩))) (hA : MtAt w ba m) (hB : MtAt w bb n) :
    Calls Tryd.prog 63 #[.int .i64 1, .int .i64 0, .pointer (some ⟨bp, 0, none⟩), .pointer (some ⟨ba, 0, none⟩), .pointer (some ⟨bb, 0, none⟩)] w fun e w' => e = .returned (frv (cellV (m.c) (n.a) (m.d) (n.c))) ∧ (∀ c, SumIs w bs c → SumIs w' bs (c || cellN (m.c) (n.a) (m.d) (n.c))) ∧ BelX w.heap.size bs w w' := by
  obtain ⟨b0, h0⟩ := hs
  exact (mcell10 bp ba bb bs b0 m n w h0 ha hb hp hpw hP hA hB).mono fun e w' ⟨h1, h2, h3⟩ => ⟨h1, fun c hc => by rw [← h0.uniq hc]; exact h2, h3⟩
set_option maxRecDepth 100000 in
set_option maxHeartbeats 2000000 in
theorem mcell11 (bp ba bb bs : Nat) (bad : Bool) (m n : Mt) (w : World) (hs : SumIs w bs bad) (ha : ba < bs) (hb : bb < bs) (hp : bs < bp) (hpw : bp < w.heap.size) (hP : w.cell? ⟨bp, 0, none⟩ = some (.pointer (some ⟨bs, 0, none⟩))) (hA : MtAt w ba m) (hB : MtAt w bb n) :
    Calls Tryd.prog 63 #[.int .i64 1, .int .i64 1, .pointer (some ⟨bp, 0, none⟩), .pointer (some ⟨ba, 0, none⟩), .pointer (some ⟨bb, 0, none⟩)] w fun e w' => e = .returned (frv (cellV (m.c) (n.b) (m.d) (n.d))) ∧ SumIs w' bs (bad || cellN (m.c) (n.b) (m.d) (n.d)) ∧ BelX w.heap.size bs w w' := by
  have hlt := hs.lt
  have hla : ba < w.heap.size := by omega
  have hlb : bb < w.heap.size := by omega
  obtain ⟨a0, a1, a2, a3, a4, a5, a6, a7, a8, a9, a10, a11⟩ := hA
  obtain ⟨b0, b1, b2, b3, b4, b5, b6, b7, b8, b9, b10, b11⟩ := hB
  have hX : BelX w.heap.size bs w w := BelX.refl _ _ _
  have hpw1 : bp < w.heap.size + 1 := by omega
  have q0 : IntKind.i64.wrap 0 = 0 := by decide
  have q1 : IntKind.i64.wrap 1 = 1 := by decide
  have q2 : IntKind.i64.wrap 2 = 2 := by decide
  have q3 : IntKind.i64.wrap 3 = 3 := by decide
  go_enter Tryd.func63, Tryd.ntmps63
  go_wp2
  go_region_held3 (fun w' => w'.cell? ⟨ba, 6, none⟩ = some (.int .i64 (m.c.re)) ∧ w'.cell? ⟨ba, 7, none⟩ = some (.int .i64 (m.c.im)) ∧ w'.cell? ⟨ba, 8, none⟩ = some (.int .i64 (m.c.den)) ∧ w'.cell? ⟨ba, 9, none⟩ = some (.int .i64 (m.d.re)) ∧ w'.cell? ⟨ba, 10, none⟩ = some (.int .i64 (m.d.im)) ∧ w'.cell? ⟨ba, 11, none⟩ = some (.int .i64 (m.d.den)) ∧ w'.cell? ⟨bb, 3, none⟩ = some (.int .i64 (n.b.re)) ∧ w'.cell? ⟨bb, 4, none⟩ = some (.int .i64 (n.b.im)) ∧ w'.cell? ⟨bb, 5, none⟩ = some (.int .i64 (n.b.den)) ∧ w'.cell? ⟨bb, 9, none⟩ = some (.int .i64 (n.d.re)) ∧ w'.cell? ⟨bb, 10, none⟩ = some (.int .i64 (n.d.im)) ∧ w'.cell? ⟨bb, 11, none⟩ = some (.int .i64 (n.d.den)) ∧ w'.cell? ⟨bp, 0, none⟩ = some (.pointer (some ⟨bs, 0, none⟩))) ((first | go_keep | (simp [go_sem, *]; done))) (first | (go_at_call 46; (with_reducible refine (x_times (m.c) (n.b) bs _ (by exact sum_)).mono ?_); rintro e w1 ⟨rfl, hu, hx⟩; have hs1 := hu _ (by exact sum_); clear hu; obtain ⟨hc, hf⟩ := bfxL hx side_; obtain ⟨hc3, hf3⟩ := bfxU hx (w.heap.size + 1) side_; have hs2 := hx.size; (try simp only [World.size_alloc, World.size_setCell, World.size_drew, World.heap_drewN] at hs2); have hl : w.heap.size ≤ w1.heap.size ∧ w.heap.size < w1.heap.size := ⟨by omega, by omega⟩; have hcs1 := hs1.cell; have hfs1 := hs1.frozen; have hX : BelX w.heap.size bs w w1 := BelX.step (by exact belx_) hx side_; clear hs2 hx) | (go_at_call 46; (with_reducible refine (x_times (m.d) (n.d) bs _ (by exact sum_)).mono ?_); rintro e w1 ⟨rfl, hu, hx⟩; have hs1 := hu _ (by exact sum_); clear hu; obtain ⟨hc, hf⟩ := bfxL hx side_; obtain ⟨hc3, hf3⟩ := bfxU hx (w.heap.size + 1) side_; have hs2 := hx.size; (try simp only [World.size_alloc, World.size_setCell, World.size_drew, World.heap_drewN] at hs2); have hl : w.heap.size ≤ w1.heap.size ∧ w.heap.size < w1.heap.size := ⟨by omega, by omega⟩; have hcs1 := hs1.cell; have hfs1 := hs1.frozen; have hX : BelX w.heap.size bs w w1 := BelX.step (by exact belx_) hx side_; clear hs2 hx) | (go_at_call 45; (with_reducible refine (x_add _ _ bs _ (by exact sum_)).mono ?_); rintro e w1 ⟨rfl, hu, hx⟩; have hs1 := hu _ (by exact sum_); clear hu; obtain ⟨hc, hf⟩ := bfxL hx side_; obtain ⟨hc3, hf3⟩ := bfxU hx (w.heap.size + 1) side_; have hs2 := hx.size; (try simp only [World.size_alloc, World.size_setCell, World.size_drew, World.heap_drewN] at hs2); have hl : w.heap.size ≤ w1.heap.size ∧ w.heap.size < w1.heap.size := ⟨by omega, by omega⟩; have hcs1 := hs1.cell; have hfs1 := hs1.frozen; have hX : BelX w.heap.size bs w w1 := BelX.step (by exact belx_) hx side_; clear hs2 hx))
  go_wp2
  exact bodyPost_ret (v := frv (cellV (m.c) (n.b) (m.d) (n.d))) (by simp [results, Tryd.results63, go_sem, cellV, *]) rfl ⟨rfl, by rw [show (bad || cellN (m.c) (n.b) (m.d) (n.d)) = (bad || (timesI (m.c) (n.b)).isNone || (timesI (m.d) (n.d)).isNone || (addI ((timesI (m.c) (n.b)).getD ⟨0, 0, 0⟩) ((timesI (m.d) (n.d)).getD ⟨0, 0, 0⟩)).isNone) by simp [cellN, Bool.or_assoc]]; exact sum_, by exact belx_⟩
theorem x_mcell11 (bp ba bb bs : Nat) (m n : Mt) (w : World) (hs : SumEx w bs) (ha : ba < bs) (hb : bb < bs) (hp : bs < bp) (hpw : bp < w.heap.size) (hP : w.cell? ⟨bp, 0, none⟩ = some (.pointer (some ⟨bs, 0, none⟩))) (hA : MtAt w ba m) (hB : MtAt w bb n) :
    Calls Tryd.prog 63 #[.int .i64 1, .int .i64 1, .pointer (some ⟨bp, 0, none⟩), .pointer (some ⟨ba, 0, none⟩), .pointer (some ⟨bb, 0, none⟩)] w fun e w' => e = .returned (frv (cellV (m.c) (n.b) (m.d) (n.d))) ∧ (∀ c, SumIs w bs c → SumIs w' bs (c || cellN (m.c) (n.b) (m.d) (n.d))) ∧ BelX w.heap.size bs w w' := by
  obtain ⟨b0, h0⟩ := hs
  exact (mcell11 bp ba bb bs b0 m n w h0 ha hb hp hpw hP hA hB).mono fun e w' ⟨h1, h2, h3⟩ => ⟨h1, fun c hc => by rw [← h0.uniq hc]; exact h2, h3⟩
end Go.Proofs.YtiagnnmnaakmoaaDoor
