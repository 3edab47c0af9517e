/-
  The walk of what a matrix makes of a vector (program).
-/
import Derived.Test.YtiagnnmnaakmoaaDoorMw
namespace Go.Proofs.YtiagnnmnaakmoaaDoor
set_option linter.unusedSimpArgs false
set_option linter.unusedVariables false
open Go.RowKit
attribute [local go_sem ↓] Go.wp_at_zero Go.wp_at_succ
set_option maxRecDepth 100000 in
set_option maxHeartbeats 2000000 in
theorem vrow0 (bp ba bb bs : Nat) (bad : Bool) (m : Mt) (v : Jn) (w : World) (hs : SumIs w bs bad) (ha : ba < bs) (hb : bb < bs) (hp : bs < bp) (hpw : bp < w.heap.size) (hP : w.cell? ⟨bp, 0, none⟩ = some (.pointer (some ⟨bs, 0, none⟩))) (hA : MtAt w ba m) (hB : JnAt w bb v) :
    Calls Tryd.prog 44 #[.int .i64 0, .pointer (some ⟨bp, 0, none⟩), .pointer (some ⟨ba, 0, none⟩), .pointer (some ⟨bb, 0, none⟩)] w fun e w' => e = .returned (frv (cellV (m.a) (v.x) (m.b) (v.y))) ∧ SumIs w' bs (bad || cellN (m.a) (v.x) (m.b) (v.y)) ∧ BelX w.heap.size bs w w' := by
  have hlt := hs.lt
  have hla : ba < w.heap.size := by omega
  have hlb : bb < w.heap.size := by omega
  obtain ⟨a0, a1, a2, a3, a4, a5, a6, a7, a8, a9, a10, a11⟩ := hA
  obtain ⟨b0, b1, b2, b3, b4, b5⟩ := hB
  have hX : BelX w.heap.size bs w w := BelX.refl _ _ _
  have hpw1 : bp < w.heap.size + 1 := by omega
  have q0 : IntKind.i64.wrap 0 = 0 := by decide
  have q1 : IntKind.i64.wrap 1 = 1 := by decide
  have q2 : IntKind.i64.wrap 2 = 2 := by decide
  have q3 : IntKind.i64.wrap 3 = 3 := by decide
  go_enter Tryd.func44, Tryd.ntmps44
  go_wp2
  go_region_held3 (fun w' => w'.cell? ⟨ba, 0, none⟩ = some (.int .i64 (m.a.re)) ∧ w'.cell? ⟨ba, 1, none⟩ = some (.int .i64 (m.a.im)) ∧ w'.cell? ⟨ba, 2, none⟩ = some (.int .i64 (m.a.den)) ∧ w'.cell? ⟨ba, 3, none⟩ = some (.int .i64 (m.b.re)) ∧ w'.cell? ⟨ba, 4, none⟩ = some (.int .i64 (m.b.im)) ∧ w'.cell? ⟨ba, 5, none⟩ = some (.int .i64 (m.b.den)) ∧ w'.cell? ⟨bb, 0, none⟩ = some (.int .i64 (v.x.re)) ∧ w'.cell? ⟨bb, 1, none⟩ = some (.int .i64 (v.x.im)) ∧ w'.cell? ⟨bb, 2, none⟩ = some (.int .i64 (v.x.den)) ∧ w'.cell? ⟨bb, 3, none⟩ = some (.int .i64 (v.y.re)) ∧ w'.cell? ⟨bb, 4, none⟩ = some (.int .i64 (v.y.im)) ∧ w'.cell? ⟨bb, 5, none⟩ = some (.int .i64 (v.y.den)) ∧ w'.cell? ⟨bp, 0, none⟩ = some (.pointer (some ⟨bs, 0, none⟩))) ((first | go_keep | (simp [go_sem, *]; done))) (first | (go_at_call 46; (with_reducible refine (x_times (m.a) (v.x) bs _ (by exact sum_)).mono ?_); rintro e w1 ⟨rfl, hu, hx⟩; have hs1 := hu _ (by exact sum_); clear hu; obtain ⟨hc, hf⟩ := bfxL hx side_; obtain ⟨hc3, hf3⟩ := bfxU hx (w.heap.size + 1) side_; have hs2 := hx.size; (try simp only [World.size_alloc, World.size_setCell, World.size_drew, World.heap_drewN] at hs2); have hl : w.heap.size ≤ w1.heap.size ∧ w.heap.size < w1.heap.size := ⟨by omega, by omega⟩; have hcs1 := hs1.cell; have hfs1 := hs1.frozen; have hX : BelX w.heap.size bs w w1 := BelX.step (by exact belx_) hx side_; clear hs2 hx) | (go_at_call 46; (with_reducible refine (x_times (m.b) (v.y) bs _ (by exact sum_)).mono ?_); rintro e w1 ⟨rfl, hu, hx⟩; have hs1 := hu _ (by exact sum_); clear hu; obtain ⟨hc, hf⟩ := bfxL hx side_; obtain ⟨hc3, hf3⟩ := bfxU hx (w.heap.size + 1) side_; have hs2 := hx.size; (try simp only [World.size_alloc, World.size_setCell, World.size_drew, World.heap_drewN] at hs2); have hl : w.heap.size ≤ w1.heap.size ∧ w.heap.size < w1.heap.size := ⟨by omega, by omega⟩; have hcs1 := hs1.cell; have hfs1 := hs1.frozen; have hX : BelX w.heap.size bs w w1 := BelX.step (by exact belx_) hx side_; clear hs2 hx) | (go_at_call 45; (with_reducible refine (x_add _ _ bs _ (by exact sum_)).mono ?_); rintro e w1 ⟨rfl, hu, hx⟩; have hs1 := hu _ (by exact sum_); clear hu; obtain ⟨hc, hf⟩ := bfxL hx side_; obtain ⟨hc3, hf3⟩ := bfxU hx (w.heap.size + 1) side_; have hs2 := hx.size; (try simp only [World.size_alloc, World.size_setCell, World.size_drew, World.heap_drewN] at hs2); have hl : w.heap.size ≤ w1.heap.size ∧ w.heap.size < w1.heap.size := ⟨by omega, by omega⟩; have hcs1 := hs1.cell; have hfs1 := hs1.frozen; have hX : BelX w.heap.size bs w w1 := BelX.step (by exact belx_) hx side_; clear hs2 hx))
  go_wp2
  exact bodyPost_ret (v := frv (cellV (m.a) (v.x) (m.b) (v.y))) (by simp [results, Tryd.results44, go_sem, cellV, *]) rfl ⟨rfl, by rw [show (bad || cellN (m.a) (v.x) (m.b) (v.y)) = (bad || (timesI (m.a) (v.x)).isNone || (timesI (m.b) (v.y)).isNone || (addI ((timesI (m.a) (v.x)).getD ⟨0, 0, 0⟩) ((timesI (m.b) (v.y)).getD ⟨0, 0, 0⟩)).isNone) by simp [cellN, Bool.or_assoc]]; exact sum_, by exact belx_⟩
theorem x_vrow0 (bp ba bb bs : Nat) (m : Mt) (v : Jn) (w : World) (hs : SumEx w bs) (ha : ba < bs) (hb : bb < bs) (hp : bs < bp) (hpw : bp < w.heap.size) (hP : w.cell? ⟨bp, 0, none⟩ = some (.pointer (some ⟨bs, 0, none⟩))) (hA : MtAt w ba m) (hB : JnAt w bb v) :
    Calls Tryd.prog 44 #[.int .i64 0, .pointer (some ⟨bp, 0, none⟩), .pointer (some ⟨ba, 0, none⟩), .pointer (some ⟨bb, 0, none⟩)] w fun e w' => e = .returned (frv (cellV (m.a) (v.x) (m.b) (v.y))) ∧ (∀ c, SumIs w bs c → SumIs w' bs (c || cellN (m.a) (v.x) (m.b) (v.y))) ∧ BelX w.heap.size bs w w' := by
  obtain ⟨b0, h0⟩ := hs
  exact (vrow0 bp ba bb bs b0 m v w h0 ha hb hp hpw hP hA hB).mono fun e w' ⟨h1, h2, h3⟩ => ⟨h1, fun c hc => by rw [← h0.uniq hc]; exact h2, h3⟩
set_option maxRecDepth 100000 in
set_option maxHeartbeats 2000000 in
theorem vrow1 (bp ba bb bs : Nat) (bad : Bool) (m : Mt) (v : Jn) (w : World) (hs : SumIs w bs bad) (ha : ba < bs) (hb : bb < bs) (hp : bs < bp) (hpw : bp < w.heap.size) (hP : w.cell? ⟨bp, 0, none⟩ = some (.pointer (some ⟨bs, 0, none⟩))) (hA : MtAt w ba m) (hB : JnAt w bb v) :
    Calls Tryd.prog 44 #[.int .i64 1, .pointer (some ⟨bp, 0, none⟩), .pointer (some ⟨ba, 0, none⟩), .pointer (some ⟨bb, 0, none⟩)] w fun e w' => e = .returned (frv (cellV (m.c) (v.x) (m.d) (v.y))) ∧ SumIs w' bs (bad || cellN (m.c) (v.x) (m.d) (v.y)) ∧ BelX w.heap.size bs w w' := by
  have hlt := hs.lt
  have hla : ba < w.heap.size := by omega
  have hlb : bb < w.heap.size := by omega
  obtain ⟨a0, a1, a2, a3, a4, a5, a6, a7, a8, a9, a10, a11⟩ := hA
  obtain ⟨b0, b1, b2, b3, b4, b5⟩ := hB
  have hX : BelX w.heap.size bs w w := BelX.refl _ _ _
  have hpw1 : bp < w.heap.size + 1 := by omega
  have q0 : IntKind.i64.wrap 0 = 0 := by decide
  have q1 : IntKind.i64.wrap 1 = 1 := by decide
  have q2 : IntKind.i64.wrap 2 = 2 := by decide
  have q3 : IntKind.i64.wrap 3 = 3 := by decide
  go_enter Tryd.func44, Tryd.ntmps44
  go_wp2
  go_region_held3 (fun w' => w'.cell? ⟨ba, 6, none⟩ = some (.int .i64 (m.c.re)) ∧ w'.cell? ⟨ba, 7, none⟩ = some (.int .i64 (m.c.im)) ∧ w'.cell? ⟨ba, 8, none⟩ = some (.int .i64 (m.c.den)) ∧ w'.cell? ⟨ba, 9, none⟩ = some (.int .i64 (m.d.re)) ∧ w'.cell? ⟨ba, 10, none⟩ = some (.int .i64 (m.d.im)) ∧ w'.cell? ⟨ba, 11, none⟩ = some (.int .i64 (m.d.den)) ∧ w'.cell? ⟨bb, 0, none⟩ = some (.int .i64 (v.x.re)) ∧ w'.cell? ⟨bb, 1, none⟩ = some (.int .i64 (v.x.im)) ∧ w'.cell? ⟨bb, 2, none⟩ = some (.int .i64 (v.x.den)) ∧ w'.cell? ⟨bb, 3, none⟩ = some (.int .i64 (v.y.re)) ∧ w'.cell? ⟨bb, 4, none⟩ = some (.int .i64 (v.y.im)) ∧ w'.cell? ⟨bb, 5, none⟩ = some (.int .i64 (v.y.den)) ∧ w'.cell? ⟨bp, 0, none⟩ = some (.pointer (some ⟨bs, 0, none⟩))) ((first | go_keep | (simp [go_sem, *]; done))) (first | (go_at_call 46; (with_reducible refine (x_times (m.c) (v.x) bs _ (by exact sum_)).mono ?_); rintro e w1 ⟨rfl, hu, hx⟩; have hs1 := hu _ (by exact sum_); clear hu; obtain ⟨hc, hf⟩ := bfxL hx side_; obtain ⟨hc3, hf3⟩ := bfxU hx (w.heap.size + 1) side_; have hs2 := hx.size; (try simp only [World.size_alloc, World.size_setCell, World.size_drew, World.heap_drewN] at hs2); have hl : w.heap.size ≤ w1.heap.size ∧ w.heap.size < w1.heap.size := ⟨by omega, by omega⟩; have hcs1 := hs1.cell; have hfs1 := hs1.frozen; have hX : BelX w.heap.size bs w w1 := BelX.step (by exact belx_) hx side_; clear hs2 hx) | (go_at_call 46; (with_reducible refine (x_times (m.d) (v.y) bs _ (by exact sum_)).mono ?_); rintro e w1 ⟨rfl, hu, hx⟩; have hs1 := hu _ (by exact sum_); clear hu; obtain ⟨hc, hf⟩ := bfxL hx side_; obtain ⟨hc3, hf3⟩ := bfxU hx (w.heap.size + 1) side_; have hs2 := hx.size; (try simp only [World.size_alloc, World.size_setCell, World.size_drew, World.heap_drewN] at hs2); have hl : w.heap.size ≤ w1.heap.size ∧ w.heap.size < w1.heap.size := ⟨by omega, by omega⟩; have hcs1 := hs1.cell; have hfs1 := hs1.frozen; have hX : BelX w.heap.size bs w w1 := BelX.step (by exact belx_) hx side_; clear hs2 hx) | (go_at_call 45; (with_reducible refine (x_add _ _ bs _ (by exact sum_)).mono ?_); rintro e w1 ⟨rfl, hu, hx⟩; have hs1 := hu _ (by exact sum_); clear hu; obtain ⟨hc, hf⟩ := bfxL hx side_; obtain ⟨hc3, hf3⟩ := bfxU hx (w.heap.size + 1) side_; have hs2 := hx.size; (try simp only [World.size_alloc, World.size_setCell, World.size_drew, World.heap_drewN] at hs2); have hl : w.heap.size ≤ w1.heap.size ∧ w.heap.size < w1.heap.size := ⟨by omega, by omega⟩; have hcs1 := hs1.cell; have hfs1 := hs1.frozen; have hX : BelX w.heap.size bs w w1 := BelX.step (by exact belx_) hx side_; clear hs2 hx))
  go_wp2
  exact bodyPost_ret (v := frv (cellV (m.c) (v.x) (m.d) (v.y))) (by simp [results, Tryd.results44, go_sem, cellV, *]) rfl ⟨rfl, by rw [show (bad || cellN (m.c) (v.x) (m.d) (v.y)) = (bad || (timesI (m.c) (v.x)).isNone || (timesI (m.d) (v.y)).isNone || (addI ((timesI (m.c) (v.x)).getD ⟨0, 0, 0⟩) ((timesI (m.d) (v.y)).getD ⟨0, 0, 0⟩)).isNone) by simp [cellN, Bool.or_assoc]]; exact sum_, by exact belx_⟩
theorem x_vrow1 (bp ba bb bs : Nat) (m : Mt) (v : Jn) (w : World) (hs : SumEx w bs) (ha : ba < bs) (hb : bb < bs) (hp : bs < bp) (hpw : bp < w.heap.size) (hP : w.cell? ⟨bp, 0, none⟩ = some (.pointer (some ⟨bs, 0, none⟩))) (hA : MtAt w ba m) (hB : JnAt w bb v) :
    Calls Tryd.prog 44 #[.int .i64 1, .pointer (some ⟨bp, 0, none⟩), .pointer (some ⟨ba, 0, none⟩), .pointer (some ⟨bb, 0, none⟩)] w fun e w' => e = .returned (frv (cellV (m.c) (v.x) (m.d) (v.y))) ∧ (∀ c, SumIs w bs c → SumIs w' bs (c || cellN (m.c) (v.x) (m.d) (v.y))) ∧ BelX w.heap.size bs w w' := by
  obtain ⟨b0, h0⟩ := hs
  exact (vrow1 bp ba bb bs b0 m v w h0 ha hb hp hpw hP hA hB).mono fun e w' ⟨h1, h2, h3⟩ => ⟨h1, fun c hc => by rw [← h0.uniq hc]; exact h2, h3⟩
theorem mapply_eq (t : Bool) (m : Mt) (v : Jn) (h : t = (mvalid m && jvalid v)) :
    gotF (!t || cellN m.a v.x m.b v.y || cellN m.c v.x m.d v.y) Z6 ⟨cellV m.a v.x m.b v.y, cellV m.c v.x m.d v.y⟩ = (mapplyI m v).getD Z6 ∧
    (!(!t || cellN m.a v.x m.b v.y || cellN m.c v.x m.d v.y)) = (mapplyI m v).isSome := by
  subst h
  unfold mapplyI
  cases mvalid m && jvalid v
  · exact ⟨rfl, rfl⟩
  simp only [inner_eq, if_true]
  cases cellN m.a v.x m.b v.y <;> cases cellN m.c v.x m.d v.y <;> exact ⟨rfl, rfl⟩
set_option maxRecDepth 100000 in
set_option maxHeartbeats 4000000 in
theorem mapply_any (m : Mt) (v : Jn) (w : World) :
    Calls Tryd.prog 17 #[mtv m, jnv v] w fun e w' => e = .returned (jnb (mapplyI m v)) ∧ Below w.heap.size w w' := by
  cases hm : mvalid m
  · go_enter Tryd.func17, Tryd.ntmps17
    go_wp2_with (first | (go_at_call 42; (with_reducible refine (mvalid_f m _ (by assumption)).mono ?_); rintro e w1 ⟨rfl, hb⟩; obtain ⟨hc, hf⟩ := bf hb (w.heap.size + 1 + 1 + 1 + 1) side_; have hs := hb.size; (try simp only [World.size_alloc, World.size_setCell, World.size_drew, World.heap_drewN] at hs); have hl : w.heap.size ≤ w1.heap.size ∧ w.heap.size < w1.heap.size ∧ w.heap.size + 1 < w1.heap.size ∧ w.heap.size + 1 + 1 < w1.heap.size ∧ w.heap.size + 1 + 1 + 1 < w1.heap.size := ⟨by omega, by omega, by omega, by omega, by omega⟩; have hB : Below w.heap.size w w1 := bstep (by exact below_) hb side_; have hs1 : SumIs w1 (w.heap.size + 1 + 1 + 1) _ := SumIs.below (by exact sum_) hb side_; have hcs1 := hs1.cell; have hfs1 := hs1.frozen; clear hs hb) | (go_at_call 41; (with_reducible refine (x_need (false) (w.heap.size + 1 + 1 + 1) _ (by exact sum_)).mono ?_); rintro e w1 ⟨rfl, hu, hx⟩; have hs1 := hu _ (by exact sum_); clear hu; obtain ⟨hc, hf⟩ := bfxL hx side_; obtain ⟨hc3, hf3⟩ := bfxU hx (w.heap.size + 1 + 1 + 1 + 1) side_; have hs2 := hx.size; (try simp only [World.size_alloc, World.size_setCell, World.size_drew, World.heap_drewN] at hs2); have hl : w.heap.size ≤ w1.heap.size ∧ w.heap.size < w1.heap.size ∧ w.heap.size + 1 < w1.heap.size ∧ w.heap.size + 1 + 1 < w1.heap.size ∧ w.heap.size + 1 + 1 + 1 < w1.heap.size := ⟨by omega, by omega, by omega, by omega, by omega⟩; have hcs1 := hs1.cell; have hfs1 := hs1.frozen; have hB : Below w.heap.size w w1 := (BelX.step (BelX.of (by exact below_)) hx side_).below side_; clear hs2 hx))
    have hA1 : MtAt w1 w.heap.size m := by refine ⟨?_, ?_, ?_, ?_, ?_, ?_, ?_, ?_, ?_, ?_, ?_, ?_⟩ <;> (simp [go_sem, *]; done)
    have hA2 : JnAt w1 (w.heap.size + 1) v := by refine ⟨?_, ?_, ?_, ?_, ?_, ?_⟩ <;> (simp [go_sem, *]; done)
    have hR : ∀ o, o < 6 → ∃ x, w1.cell? ⟨w.heap.size + 1 + 1, o, none⟩ = some x := by
      intro o ho
      refine ⟨.int .i64 0, ?_⟩
      rcases (show o = 0 ∨ o = 1 ∨ o = 2 ∨ o = 3 ∨ o = 4 ∨ o = 5 by omega) with rfl | rfl | rfl | rfl | rfl | rfl <;> simp [go_sem, *]
    have hF : ∀ o, o < 6 → w1.frozen? ⟨w.heap.size + 1 + 1, o, none⟩ = false := by
      intro o ho
      rcases (show o = 0 ∨ o = 1 ∨ o = 2 ∨ o = 3 ∨ o = 4 ∨ o = 5 by omega) with rfl | rfl | rfl | rfl | rfl | rfl <;> simp [go_sem, *]
    have hn3 : ¬ w.heap.size + 1 + 1 + 1 = w1.heap.size := by omega
    have hcz := Lib.hid hc
    have hfz := Lib.hid hf
    clear hc hf hc3 hf3
    have hS0 : ∀ x : Obj, (w1.alloc x).cell? ⟨w1.heap.size, 0, none⟩ = some (.pointer (some ⟨w.heap.size + 1 + 1 + 1, 0, none⟩)) → MS (fun w' => MtAt w' w.heap.size m) (fun w' => JnAt w' (w.heap.size + 1) v) w1.heap.size (w.heap.size + 1 + 1 + 1) (w.heap.size + 1 + 1) 6 (w1.alloc x).drew := by
      intro x hx
      have ho : ∀ (b i : Nat), b < w1.heap.size → (w1.alloc x).cell? ⟨b, i, none⟩ = w1.cell? ⟨b, i, none⟩ := fun b i hb => World.cell?_alloc_lt _ _ _ hb
      have hof : ∀ (b i : Nat), b < w1.heap.size → (w1.alloc x).frozen? ⟨b, i, none⟩ = w1.frozen? ⟨b, i, none⟩ := fun b i hb => frozenAllocNe _ _ _ _ (by intro e; injection e with e1; omega)
      refine ms_drew ?_ ?_ hx (fun o h => ?_) (fun o h => ?_)
      · exact MtAt.keep (w := w1) hA1 fun o => ho _ o (by omega)
      · exact JnAt.keep (w := w1) hA2 fun o => ho _ o (by omega)
      · rw [ho _ o (by omega)]; exact hR o h
      · rw [hof _ o (by omega)]; exact hF o h
    have hcs3 := Lib.hid hcs1
    clear hcs1 hfs1
    go_region_held3 (fun w2 => MS (fun w' => MtAt w' w.heap.size m) (fun w' => JnAt w' (w.heap.size + 1) v) w1.heap.size (w.heap.size + 1 + 1 + 1) (w.heap.size + 1 + 1) 6 w2 ∧ w2.cell? ⟨w1.heap.size, 0, none⟩ = some (.pointer (some ⟨w.heap.size + 1 + 1 + 1, 0, none⟩)) ∧ (∀ o, o < 6 → w2.cell? ⟨w.heap.size + 1 + 1, o, none⟩ = some (rc w2 (w.heap.size + 1 + 1) o)) ∧ (∀ o, o < 6 → w2.frozen? ⟨w.heap.size + 1 + 1, o, none⟩ = false)) ((repeat' (first | (with_reducible assumption) | (with_reducible refine ms_all ?_) | (with_reducible exact ms_base (by with_reducible assumption)) | (with_reducible refine ms_set (fun _ _ hc h => MtAt.keep h hc) (fun _ _ hc h => JnAt.keep h hc) ?_ (by omega) (by omega) (by omega)) | (with_reducible exact hS0 _ (by simp [go_sem, *])) | (with_reducible exact ms_keep (fun _ _ hc h => MtAt.keep h hc) (fun _ _ hc h => JnAt.keep h hc) (by with_reducible assumption) hzx (by omega) (by omega) (by omega) (by omega) side_)))) (first | (go_at_call 44; (with_reducible refine (x_vrow0 _ _ _ (w.heap.size + 1 + 1 + 1) m v _ (by exact sum_) side_ side_ side_ side_ (‹MS _ _ _ _ _ _ _ ∧ _›).1.p (‹MS _ _ _ _ _ _ _ ∧ _›).1.a (‹MS _ _ _ _ _ _ _ ∧ _›).1.b).mono ?_); rintro e w1 ⟨rfl, hu, hx⟩; have hs1 := hu _ (by exact sum_); clear hu; have hB : Below w.heap.size w w1 := (BelX.step (BelX.of (by exact below_)) hx side_).below (by omega); have hz := hx.size; (try simp only [World.size_alloc, World.size_setCell, World.size_drew, World.heap_drewN] at hz); have hzx := Lib.hid hx; clear hx) | (go_at_call 44; (with_reducible refine (x_vrow1 _ _ _ (w.heap.size + 1 + 1 + 1) m v _ (by exact sum_) side_ side_ side_ side_ (‹MS _ _ _ _ _ _ _ ∧ _›).1.p (‹MS _ _ _ _ _ _ _ ∧ _›).1.a (‹MS _ _ _ _ _ _ _ ∧ _›).1.b).mono ?_); rintro e w1 ⟨rfl, hu, hx⟩; have hs1 := hu _ (by exact sum_); clear hu; have hB : Below w.heap.size w w1 := (BelX.step (BelX.of (by exact below_)) hx side_).below (by omega); have hz := hx.size; (try simp only [World.size_alloc, World.size_setCell, World.size_drew, World.heap_drewN] at hz); have hzx := Lib.hid hx; clear hx) | (go_at_call 47; (with_reducible refine (got_jones ⟨_, _⟩ (w.heap.size + 1 + 1 + 1) _ (by exact sum_)).mono ?_); rintro e w1 ⟨b0, hsb, rfl, hb⟩; have hsb2 := Lib.hid hsb; clear hsb; have hq := SumIs.uniq hsb2.out (by exact sum_); clear hsb2; subst hq; have hx := BelX.of (bs := w.heap.size + 1 + 1 + 1) hb; clear hb; have hB : Below w.heap.size w w1 := (BelX.step (BelX.of (by exact below_)) hx side_).below (by omega); have hz := hx.size; (try simp only [World.size_alloc, World.size_setCell, World.size_drew, World.heap_drewN] at hz); have hzx := Lib.hid hx; clear hx; have hZc : Hid (∀ o, o < 6 → ∃ v, w1.cell? ⟨w.heap.size + 1 + 1, o, none⟩ = some v) := Lib.hid (by intro o ho; rw [(bfxL hzx.out side_).1 (w.heap.size + 1 + 1) o (by omega)]; exact ⟨_, (‹MS _ _ _ _ _ _ _ ∧ _›).1.c o ho⟩); have hZf : Hid (∀ o, o < 6 → w1.frozen? ⟨w.heap.size + 1 + 1, o, none⟩ = false) := Lib.hid (by intro o ho; rw [(bfxL hzx.out side_).2 (w.heap.size + 1 + 1) o (by omega)]; exact (‹MS _ _ _ _ _ _ _ ∧ _›).1.f o ho)))
    go_wp2
    have hZc2 : ∀ o, o < 6 → w1.cell? ⟨w.heap.size + 1 + 1, o, none⟩ = some (rc w1 (w.heap.size + 1 + 1) o) := fun o ho => by obtain ⟨v, hv⟩ := hZc.out o ho; exact rc_of hv
    have hZf2 := hZf.out
    repeat (rename MS _ _ _ _ _ _ _ ∧ _ => hMSx; clear hMSx)
    have hq := mapply_eq (false) m v (by simp [*])
    refine bodyPost_ret (v := jnb (mapplyI m v)) (by simp only [jnb, ← hq.1, ← hq.2]; first | (simp [results, Tryd.results17, go_sem, *]; done) | (simp [results, Tryd.results17, go_sem, *]; simpa using hq.2)) rfl ⟨rfl, by exact below_⟩
  · go_enter Tryd.func17, Tryd.ntmps17
    go_wp2_with (first | (go_at_call 42; (with_reducible refine (mvalid_t m _ (by assumption)).mono ?_); rintro e w1 ⟨rfl, hb⟩; obtain ⟨hc, hf⟩ := bf hb (w.heap.size + 1 + 1 + 1 + 1) side_; have hs := hb.size; (try simp only [World.size_alloc, World.size_setCell, World.size_drew, World.heap_drewN] at hs); have hl : w.heap.size ≤ w1.heap.size ∧ w.heap.size < w1.heap.size ∧ w.heap.size + 1 < w1.heap.size ∧ w.heap.size + 1 + 1 < w1.heap.size ∧ w.heap.size + 1 + 1 + 1 < w1.heap.size := ⟨by omega, by omega, by omega, by omega, by omega⟩; have hB : Below w.heap.size w w1 := bstep (by exact below_) hb side_; have hs1 : SumIs w1 (w.heap.size + 1 + 1 + 1) _ := SumIs.below (by exact sum_) hb side_; have hcs1 := hs1.cell; have hfs1 := hs1.frozen; clear hs hb) | (go_at_call 43; (with_reducible refine (jvalid_any v _).mono ?_); rintro e w1 ⟨rfl, hb⟩; obtain ⟨hc, hf⟩ := bf hb (w.heap.size + 1 + 1 + 1 + 1) side_; have hs := hb.size; (try simp only [World.size_alloc, World.size_setCell, World.size_drew, World.heap_drewN] at hs); have hl : w.heap.size ≤ w1.heap.size ∧ w.heap.size < w1.heap.size ∧ w.heap.size + 1 < w1.heap.size ∧ w.heap.size + 1 + 1 < w1.heap.size ∧ w.heap.size + 1 + 1 + 1 < w1.heap.size := ⟨by omega, by omega, by omega, by omega, by omega⟩; have hB : Below w.heap.size w w1 := bstep (by exact below_) hb side_; have hs1 : SumIs w1 (w.heap.size + 1 + 1 + 1) _ := SumIs.below (by exact sum_) hb side_; have hcs1 := hs1.cell; have hfs1 := hs1.frozen; clear hs hb) | (go_at_call 41; (with_reducible refine (x_need (jvalid v) (w.heap.size + 1 + 1 + 1) _ (by exact sum_)).mono ?_); rintro e w1 ⟨rfl, hu, hx⟩; have hs1 := hu _ (by exact sum_); clear hu; obtain ⟨hc, hf⟩ := bfxL hx side_; obtain ⟨hc3, hf3⟩ := bfxU hx (w.heap.size + 1 + 1 + 1 + 1) side_; have hs2 := hx.size; (try simp only [World.size_alloc, World.size_setCell, World.size_drew, World.heap_drewN] at hs2); have hl : w.heap.size ≤ w1.heap.size ∧ w.heap.size < w1.heap.size ∧ w.heap.size + 1 < w1.heap.size ∧ w.heap.size + 1 + 1 < w1.heap.size ∧ w.heap.size + 1 + 1 + 1 < w1.heap.size := ⟨by omega, by omega, by omega, by omega, by omega⟩; have hcs1 := hs1.cell; have hfs1 := hs1.frozen; have hB : Below w.heap.size w w1 := (BelX.step (BelX.of (by exact below_)) hx side_).below side_; clear hs2 hx))
    have hA1 : MtAt w1 w.heap.size m := by refine ⟨?_, ?_, ?_, ?_, ?_, ?_, ?_, ?_, ?_, ?_, ?_, ?_⟩ <;> (simp [go_sem, *]; done)
    have hA2 : JnAt w1 (w.heap.size + 1) v := by refine ⟨?_, ?_, ?_, ?_, ?_, ?_⟩ <;> (simp [go_sem, *]; done)
    have hR : ∀ o, o < 6 → ∃ x, w1.cell? ⟨w.heap.size + 1 + 1, o, none⟩ = some x := by
      intro o ho
      refine ⟨.int .i64 0, ?_⟩
      rcases (show o = 0 ∨ o = 1 ∨ o = 2 ∨ o = 3 ∨ o = 4 ∨ o = 5 by omega) with rfl | rfl | rfl | rfl | rfl | rfl <;> simp [go_sem, *]
    have hF : ∀ o, o < 6 → w1.frozen? ⟨w.heap.size + 1 + 1, o, none⟩ = false := by
      intro o ho
      rcases (show o = 0 ∨ o = 1 ∨ o = 2 ∨ o = 3 ∨ o = 4 ∨ o = 5 by omega) with rfl | rfl | rfl | rfl | rfl | rfl <;> simp [go_sem, *]
    have hn3 : ¬ w.heap.size + 1 + 1 + 1 = w1.heap.size := by omega
    have hcz := Lib.hid hc
    have hfz := Lib.hid hf
    clear hc hf hc3 hf3
    have hS0 : ∀ x : Obj, (w1.alloc x).cell? ⟨w1.heap.size, 0, none⟩ = some (.pointer (some ⟨w.heap.size + 1 + 1 + 1, 0, none⟩)) → MS (fun w' => MtAt w' w.heap.size m) (fun w' => JnAt w' (w.heap.size + 1) v) w1.heap.size (w.heap.size + 1 + 1 + 1) (w.heap.size + 1 + 1) 6 (w1.alloc x).drew := by
      intro x hx
      have ho : ∀ (b i : Nat), b < w1.heap.size → (w1.alloc x).cell? ⟨b, i, none⟩ = w1.cell? ⟨b, i, none⟩ := fun b i hb => World.cell?_alloc_lt _ _ _ hb
      have hof : ∀ (b i : Nat), b < w1.heap.size → (w1.alloc x).frozen? ⟨b, i, none⟩ = w1.frozen? ⟨b, i, none⟩ := fun b i hb => frozenAllocNe _ _ _ _ (by intro e; injection e with e1; omega)
      refine ms_drew ?_ ?_ hx (fun o h => ?_) (fun o h => ?_)
      · exact MtAt.keep (w := w1) hA1 fun o => ho _ o (by omega)
      · exact JnAt.keep (w := w1) hA2 fun o => ho _ o (by omega)
      · rw [ho _ o (by omega)]; exact hR o h
      · rw [hof _ o (by omega)]; exact hF o h
    have hcs3 := Lib.hid hcs1
    clear hcs1 hfs1
    go_region_held3 (fun w2 => MS (fun w' => MtAt w' w.heap.size m) (fun w' => JnAt w' (w.heap.size + 1) v) w1.heap.size (w.heap.size + 1 + 1 + 1) (w.heap.size + 1 + 1) 6 w2 ∧ w2.cell? ⟨w1.heap.size, 0, none⟩ = some (.pointer (some ⟨w.heap.size + 1 + 1 + 1, 0, none⟩)) ∧ (∀ o, o < 6 → w2.cell? ⟨w.heap.size + 1 + 1, o, none⟩ = some (rc w2 (w.heap.size + 1 + 1) o)) ∧ (∀ o, o < 6 → w2.frozen? ⟨w.heap.size + 1 + 1, o, none⟩ = false)) ((repeat' (first | (with_reducible assumption) | (with_reducible refine ms_all ?_) | (with_reducible exact ms_base (by with_reducible assumption)) | (with_reducible refine ms_set (fun _ _ hc h => MtAt.keep h hc) (fun _ _ hc h => JnAt.keep h hc) ?_ (by omega) (by omega) (by omega)) | (with_reducible exact hS0 _ (by simp [go_sem, *])) | (with_reducible exact ms_keep (fun _ _ hc h => MtAt.keep h hc) (fun _ _ hc h => JnAt.keep h hc) (by with_reducible assumption) hzx (by omega) (by omega) (by omega) (by omega) side_)))) (first | (go_at_call 44; (with_reducible refine (x_vrow0 _ _ _ (w.heap.size + 1 + 1 + 1) m v _ (by exact sum_) side_ side_ side_ side_ (‹MS _ _ _ _ _ _ _ ∧ _›).1.p (‹MS _ _ _ _ _ _ _ ∧ _›).1.a (‹MS _ _ _ _ _ _ _ ∧ _›).1.b).mono ?_); rintro e w1 ⟨rfl, hu, hx⟩; have hs1 := hu _ (by exact sum_); clear hu; have hB : Below w.heap.size w w1 := (BelX.step (BelX.of (by exact below_)) hx side_).below (by omega); have hz := hx.size; (try simp only [World.size_alloc, World.size_setCell, World.size_drew, World.heap_drewN] at hz); have hzx := Lib.hid hx; clear hx) | (go_at_call 44; (with_reducible refine (x_vrow1 _ _ _ (w.heap.size + 1 + 1 + 1) m v _ (by exact sum_) side_ side_ side_ side_ (‹MS _ _ _ _ _ _ _ ∧ _›).1.p (‹MS _ _ _ _ _ _ _ ∧ _›).1.a (‹MS _ _ _ _ _ _ _ ∧ _›).1.b).mono ?_); rintro e w1 ⟨rfl, hu, hx⟩; have hs1 := hu _ (by exact sum_); clear hu; have hB : Below w.heap.size w w1 := (BelX.step (BelX.of (by exact below_)) hx side_).below (by omega); have hz := hx.size; (try simp only [World.size_alloc, World.size_setCell, World.size_drew, World.heap_drewN] at hz); have hzx := Lib.hid hx; clear hx) | (go_at_call 47; (with_reducible refine (got_jones ⟨_, _⟩ (w.heap.size + 1 + 1 + 1) _ (by exact sum_)).mono ?_); rintro e w1 ⟨b0, hsb, rfl, hb⟩; have hsb2 := Lib.hid hsb; clear hsb; have hq := SumIs.uniq hsb2.out (by exact sum_); clear hsb2; subst hq; have hx := BelX.of (bs := w.heap.size + 1 + 1 + 1) hb; clear hb; have hB : Below w.heap.size w w1 := (BelX.step (BelX.of (by exact below_)) hx side_).below (by omega); have hz := hx.size; (try simp only [World.size_alloc, World.size_setCell, World.size_drew, World.heap_drewN] at hz); have hzx := Lib.hid hx; clear hx; have hZc : Hid (∀ o, o < 6 → ∃ v, w1.cell? ⟨w.heap.size + 1 + 1, o, none⟩ = some v) := Lib.hid (by intro o ho; rw [(bfxL hzx.out side_).1 (w.heap.size + 1 + 1) o (by omega)]; exact ⟨_, (‹MS _ _ _ _ _ _ _ ∧ _›).1.c o ho⟩); have hZf : Hid (∀ o, o < 6 → w1.frozen? ⟨w.heap.size + 1 + 1, o, none⟩ = false) := Lib.hid (by intro o ho; rw [(bfxL hzx.out side_).2 (w.heap.size + 1 + 1) o (by omega)]; exact (‹MS _ _ _ _ _ _ _ ∧ _›).1.f o ho)))
    go_wp2
    have hZc2 : ∀ o, o < 6 → w1.cell? ⟨w.heap.size + 1 + 1, o, none⟩ = some (rc w1 (w.heap.size + 1 + 1) o) := fun o ho => by obtain ⟨v, hv⟩ := hZc.out o ho; exact rc_of hv
    have hZf2 := hZf.out
    repeat (rename MS _ _ _ _ _ _ _ ∧ _ => hMSx; clear hMSx)
    have hq := mapply_eq (jvalid v) m v (by simp [*])
    refine bodyPost_ret (v := jnb (mapplyI m v)) (by simp only [jnb, ← hq.1, ← hq.2]; first | (simp [results, Tryd.results17, go_sem, *]; done) | (simp [results, Tryd.results17, go_sem, *]; simpa using hq.2)) rfl ⟨rfl, by exact below_⟩
end Go.Proofs.YtiagnnmnaakmoaaDoor
