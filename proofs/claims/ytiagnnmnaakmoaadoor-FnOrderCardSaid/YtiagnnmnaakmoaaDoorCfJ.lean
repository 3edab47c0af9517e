/-
  For all bytes FnOrder returns true and leaves them as they were; the listed variables are tied to the text. No condition.
-/
import Derived.Test.YtiagnnmnaakmoaaDoorFd
import Derived.Test.YtiagnnmnaakmoaaDoorFb
import Derived.Test.YtiagnnmnaakmoaaDoorCards
import Derived.Test.YtiagnnmnaakmoaaDoorTie
import Derived.SevenTiedAt
import Derived.Test.YtiagnnmnaakmoaaDoorHa
import Derived.Test.YtiagnnmnaakmoaaDoorOl
import Derived.Test.YtiagnnmnaakmoaaDoorDf
namespace Go.Proofs.YtiagnnmnaakmoaaDoor
set_option linter.unusedSimpArgs false
set_option linter.unusedVariables false
section
open Go.RowKit
attribute [local go_sem ↓] Go.wp_at_zero Go.wp_at_succ
/-- Both vectors and the reckoning lie there. -/
structure AN (w : World) (a b : Jn) (W : World) : Prop where
  ja : JnAt W w.heap.size a
  jb : JnAt W (w.heap.size + 1) b
  s : SumEx W (w.heap.size + 1 + 1)
  B : Below w.heap.size w W
/-- If that is so, something was none. -/
def FL (w : World) (n : Bool) (W : World) : Prop := n = true → SumIs W (w.heap.size + 1 + 1) true
section
variable {w W w1 : World} {a b : Jn} {n : Bool}
theorem AN.lt (h : AN w a b W) : w.heap.size + 1 + 1 < W.heap.size := h.s.choose_spec.lt
theorem AN.alloc (h : AN w a b W) (o : Obj) : AN w a b (W.alloc o) := ⟨h.ja.alloc o, h.jb.alloc o, h.s.alloc o, h.B.alloc h.B.size o⟩
theorem AN.drew (h : AN w a b W) : AN w a b W.drew := ⟨h.ja.drew, h.jb.drew, h.s.drew, h.B.drew⟩
theorem AN.drewN (h : AN w a b W) (n : Nat) : AN w a b (W.drewN n) := ⟨h.ja.drewN n, h.jb.drewN n, h.s.drewN n, below_drewN h.B n⟩
theorem AN.set (h : AN w a b W) {p : Addr} (hp : w.heap.size + 1 + 1 < p.block) (u : Value) : AN w a b (W.setCell p u) := ⟨h.ja.far (by omega) u, h.jb.far (by omega) u, h.s.far (by omega) u, h.B.setCell (by omega) u⟩
theorem AN.cells (h : AN w a b W) : W.cell? ⟨w.heap.size, 0, none⟩ = some (.int .i64 a.x.re) ∧ W.cell? ⟨w.heap.size, 1, none⟩ = some (.int .i64 a.x.im) ∧ W.cell? ⟨w.heap.size, 2, none⟩ = some (.int .i64 a.x.den) ∧ W.cell? ⟨w.heap.size, 3, none⟩ = some (.int .i64 a.y.re) ∧ W.cell? ⟨w.heap.size, 4, none⟩ = some (.int .i64 a.y.im) ∧ W.cell? ⟨w.heap.size, 5, none⟩ = some (.int .i64 a.y.den) ∧ W.cell? ⟨w.heap.size + 1, 0, none⟩ = some (.int .i64 b.x.re) ∧ W.cell? ⟨w.heap.size + 1, 1, none⟩ = some (.int .i64 b.x.im) ∧ W.cell? ⟨w.heap.size + 1, 2, none⟩ = some (.int .i64 b.x.den) ∧ W.cell? ⟨w.heap.size + 1, 3, none⟩ = some (.int .i64 b.y.re) ∧ W.cell? ⟨w.heap.size + 1, 4, none⟩ = some (.int .i64 b.y.im) ∧ W.cell? ⟨w.heap.size + 1, 5, none⟩ = some (.int .i64 b.y.den) :=
  ⟨h.ja.1, h.ja.2.1, h.ja.2.2.1, h.ja.2.2.2.1, h.ja.2.2.2.2.1, h.ja.2.2.2.2.2, h.jb⟩
theorem FL.alloc (h : FL w n W) (o : Obj) : FL w n (W.alloc o) := fun e => (h e).alloc o
theorem FL.drew (h : FL w n W) : FL w n W.drew := fun e => (h e).drew
theorem FL.drewN (h : FL w n W) (m : Nat) : FL w n (W.drewN m) := fun e => (h e).drewN m
theorem FL.set (h : FL w n W) {p : Addr} (hp : w.heap.size + 1 + 1 < p.block) (u : Value) : FL w n (W.setCell p u) := fun e => (h e).far (by omega) u
/-- All of it. -/
def A3 (w : World) (a b : Jn) (m n : Bool) (W : World) : Prop := AN w a b W ∧ FL w m W ∧ FL w n W
variable {m : Bool} {p q : Fr} {bp bq : Nat}
theorem A3.alloc (h : A3 w a b m n W) (o : Obj) : A3 w a b m n (W.alloc o) := ⟨h.1.alloc o, h.2.1.alloc o, h.2.2.alloc o⟩
theorem A3.set (h : A3 w a b m n W) {p : Addr} (hp : w.heap.size + 1 + 1 < p.block) (u : Value) : A3 w a b m n (W.setCell p u) := ⟨h.1.set hp u, h.2.1.set hp u, h.2.2.set hp u⟩
theorem A3.m1 (h : A3 w a b m n W) (o o' : Obj) : A3 w a b m n ((W.alloc o).alloc o') := (h.alloc _).alloc _
theorem A3.m2 (h : A3 w a b m n W) (hp : w.heap.size + 1 + 1 < bp) (p : Fr) : A3 w a b m n (setF W bp p) := ((h.set (p := ⟨bp, 0, none⟩) hp _).set (p := ⟨bp, 1, none⟩) hp _).set (p := ⟨bp, 2, none⟩) hp _
theorem A3.m3 (h : A3 w a b m n W) (hp : w.heap.size + 1 + 1 < bp) (p : Fr) (o : Obj) : A3 w a b m n ((setF W bp p).alloc o) := (h.m2 hp p).alloc o
theorem A3.m5 (h : A3 w a b m n W) (hp : w.heap.size + 1 + 1 < bp) (hq : w.heap.size + 1 + 1 < bq) (p q : Fr) : A3 w a b m n (setF (setF W bp p) bq q) := (h.m2 hp p).m2 hq q
theorem t_n (w : World) (a b : Jn) (x y z : Fr) (hz : Hid (z = (timesI x y).getD ⟨0, 0, 0⟩)) (W : World) (h : AN w a b W) :
    Calls Tryd.prog 46 #[.pointer (some ⟨w.heap.size + 1 + 1, 0, none⟩), frv x, frv y] W fun e w' => e = .returned (frv z) ∧ AN w a b w' ∧ FL w (timesI x y).isNone w' ∧ (∀ n, FL w n W → FL w n w') ∧ BelX W.heap.size (w.heap.size + 1 + 1) W w' := by
  refine (x_times x y (w.heap.size + 1 + 1) W h.s).mono ?_
  rintro e1 w1 ⟨rfl, hu, hx⟩
  have hlt := h.lt
  obtain ⟨c, hc⟩ := h.s
  have hs := hu _ hc
  refine ⟨by rw [hz.out], ⟨h.ja.belX hx (by omega) (by omega), h.jb.belX hx (by omega) (by omega), SumEx.of hs, (BelX.step (BelX.of h.B) hx h.B.size).below (by omega)⟩, fun e => ?_, fun n hn e => ?_, hx⟩
  · rw [e, Bool.or_true] at hs; exact hs
  · have := hu _ (hn e); rw [Bool.true_or] at this; exact this
end
set_option maxRecDepth 100000 in
set_option maxHeartbeats 4000000 in
theorem jalike_none (a b : Jn) (w : World) (ha : jvalid a = true) (hb : jvalid b = true) (hn : ((timesI a.x b.y).isNone || (timesI a.y b.x).isNone) = true) :
    Calls Tryd.prog 19 #[jnv a, jnv b] w fun e w' => e = .returned (.bool false) ∧ Below w.heap.size w w' := by
  obtain ⟨pv, hpv⟩ : ∃ pv, pv = (timesI a.x b.y).getD ⟨0, 0, 0⟩ := ⟨_, rfl⟩
  obtain ⟨qv, hqv⟩ : ∃ qv, qv = (timesI a.y b.x).getD ⟨0, 0, 0⟩ := ⟨_, rfl⟩
  have HPV := Lib.hid hpv
  have HQV := Lib.hid hqv
  clear hpv hqv
  have HN := Lib.hid hn
  have HA := Lib.hid ha
  have HB := Lib.hid hb
  clear hn ha hb
  go_enter Tryd.func19, Tryd.ntmps19
  go_upto_region 2 with (first | (go_at_call 43; (with_reducible refine (jvalid_t a _ HA.out).mono ?_); rintro e w1 ⟨rfl, hb⟩; obtain ⟨hc, hf⟩ := bf hb (w.heap.size + 1 + 1 + 1) side_; have hs := hb.size; (try simp only [World.size_alloc, World.size_setCell, World.size_drew, World.heap_drewN] at hs); have hl : w.heap.size ≤ w1.heap.size ∧ w.heap.size < w1.heap.size ∧ w.heap.size + 1 < w1.heap.size ∧ w.heap.size + 1 + 1 < w1.heap.size := ⟨by omega, by omega, by omega, by omega⟩; have hB : Below w.heap.size w w1 := bstep (by exact below_) hb side_; have hs1 : SumIs w1 (w.heap.size + 1 + 1) _ := SumIs.below (by exact sum_) hb side_; have hcs1 := hs1.cell; have hfs1 := hs1.frozen; clear hs hb) | (go_at_call 43; (with_reducible refine (jvalid_t b _ HB.out).mono ?_); rintro e w1 ⟨rfl, hb⟩; obtain ⟨hc, hf⟩ := bf hb (w.heap.size + 1 + 1 + 1) side_; have hs := hb.size; (try simp only [World.size_alloc, World.size_setCell, World.size_drew, World.heap_drewN] at hs); have hl : w.heap.size ≤ w1.heap.size ∧ w.heap.size < w1.heap.size ∧ w.heap.size + 1 < w1.heap.size ∧ w.heap.size + 1 + 1 < w1.heap.size := ⟨by omega, by omega, by omega, by omega⟩; have hB : Below w.heap.size w w1 := bstep (by exact below_) hb side_; have hs1 : SumIs w1 (w.heap.size + 1 + 1) _ := SumIs.below (by exact sum_) hb side_; have hcs1 := hs1.cell; have hfs1 := hs1.frozen; clear hs hb) | (go_at_call 41; (with_reducible refine (x_need true (w.heap.size + 1 + 1) _ (by exact sum_)).mono ?_); rintro e w1 ⟨rfl, hu, hx⟩; have hs1 := hu _ (by exact sum_); clear hu; obtain ⟨hc, hf⟩ := bfxL hx side_; obtain ⟨hc3, hf3⟩ := bfxU hx (w.heap.size + 1 + 1 + 1) side_; have hs2 := hx.size; (try simp only [World.size_alloc, World.size_setCell, World.size_drew, World.heap_drewN] at hs2); have hl : w.heap.size ≤ w1.heap.size ∧ w.heap.size < w1.heap.size ∧ w.heap.size + 1 < w1.heap.size ∧ w.heap.size + 1 + 1 < w1.heap.size := ⟨by omega, by omega, by omega, by omega⟩; have hcs1 := hs1.cell; have hfs1 := hs1.frozen; have hB : Below w.heap.size w w1 := (BelX.step (BelX.of (by exact below_)) hx side_).below side_; clear hs2 hx))
  have hAN : AN w a b w1 := ⟨by refine ⟨?_, ?_, ?_, ?_, ?_, ?_⟩ <;> simp [go_sem, *], by refine ⟨?_, ?_, ?_, ?_, ?_, ?_⟩ <;> simp [go_sem, *], SumEx.of hs1, by exact below_⟩
  clear hB hs1 hc hf hcs1 hfs1 hl
  repeat (rename ∀ (_ _ : Nat), _ → _ => h; clear h)
  go_cut [6, 7] from 17 to 28 (fun s6 s7 wx => A3 w a b (timesI a.x b.y).isNone (timesI a.y b.x).isNone wx)
  case first =>
    have hl := hAN.lt
    go_region_held3 (fun w' => w'.cell? ⟨w.heap.size, 0, none⟩ = some (.int .i64 a.x.re) ∧ w'.cell? ⟨w.heap.size, 1, none⟩ = some (.int .i64 a.x.im) ∧ w'.cell? ⟨w.heap.size, 2, none⟩ = some (.int .i64 a.x.den) ∧ w'.cell? ⟨w.heap.size, 3, none⟩ = some (.int .i64 a.y.re) ∧ w'.cell? ⟨w.heap.size, 4, none⟩ = some (.int .i64 a.y.im) ∧ w'.cell? ⟨w.heap.size, 5, none⟩ = some (.int .i64 a.y.den) ∧ w'.cell? ⟨w.heap.size + 1, 0, none⟩ = some (.int .i64 b.x.re) ∧ w'.cell? ⟨w.heap.size + 1, 1, none⟩ = some (.int .i64 b.x.im) ∧ w'.cell? ⟨w.heap.size + 1, 2, none⟩ = some (.int .i64 b.x.den) ∧ w'.cell? ⟨w.heap.size + 1, 3, none⟩ = some (.int .i64 b.y.re) ∧ w'.cell? ⟨w.heap.size + 1, 4, none⟩ = some (.int .i64 b.y.im) ∧ w'.cell? ⟨w.heap.size + 1, 5, none⟩ = some (.int .i64 b.y.den)) ((refine AN.cells ?_; (repeat' (first | (with_reducible assumption) | (with_reducible apply AN.alloc) | (with_reducible apply AN.drewN) | (with_reducible apply AN.drew) | ((with_reducible refine AN.set ?_ ?_ _) <;> (first | assumption | omega | (simp; omega) | skip)))))) (first | (go_at_call 46; (with_reducible refine (t_n w a b a.x b.y pv HPV _ (by (repeat' (first | (with_reducible assumption) | (with_reducible apply AN.alloc) | (with_reducible apply AN.drewN) | (with_reducible apply AN.drew) | ((with_reducible refine AN.set ?_ ?_ _) <;> (first | assumption | omega | (simp; omega) | skip)))))).mono ?_); rintro e wp ⟨rfl, hA, hF, hG, hx⟩; have hz := hx.size; (try simp only [World.size_alloc, World.size_setCell, World.size_drew, World.heap_drewN] at hz); have hl := hA.lt; (try (have hT : FrF wp (w1.heap.size) Z3 := (by refine FrF.belX (w := _) ?_ hx ?_ ?_; (repeat' (first | (with_reducible assumption) | ((refine FrF.new' ?_ ⟨0, 0, 0⟩ _) <;> (first | rfl | omega | (simp; done) | (simp; omega))) | (with_reducible apply FrF.alloc) | (with_reducible apply FrF.drewN) | (with_reducible apply FrF.drew) | omega | (simp; done) | (simp; omega))); first | done | fail); have hTf := hT.2; unfold FreeB at hTf; obtain ⟨z0, z1, z2⟩ := hT.1; have hTl : w1.heap.size < wp.heap.size := hT.1.lt)); (try (have hT : FrF wp (w1.heap.size + 1) Z3 := (by refine FrF.belX (w := _) ?_ hx ?_ ?_; (repeat' (first | (with_reducible assumption) | ((refine FrF.new' ?_ ⟨0, 0, 0⟩ _) <;> (first | rfl | omega | (simp; done) | (simp; omega))) | (with_reducible apply FrF.alloc) | (with_reducible apply FrF.drewN) | (with_reducible apply FrF.drew) | omega | (simp; done) | (simp; omega))); first | done | fail); have hTf := hT.2; unfold FreeB at hTf; obtain ⟨z0, z1, z2⟩ := hT.1; have hTl : w1.heap.size + 1 < wp.heap.size := hT.1.lt)); (try (have hT : FrF wp (wq.heap.size) Z3 := (by refine FrF.belX (w := _) ?_ hx ?_ ?_; (repeat' (first | (with_reducible assumption) | ((refine FrF.new' ?_ ⟨0, 0, 0⟩ _) <;> (first | rfl | omega | (simp; done) | (simp; omega))) | (with_reducible apply FrF.alloc) | (with_reducible apply FrF.drewN) | (with_reducible apply FrF.drew) | omega | (simp; done) | (simp; omega))); first | done | fail); have hTf := hT.2; unfold FreeB at hTf; obtain ⟨z0, z1, z2⟩ := hT.1; have hTl : wq.heap.size < wp.heap.size := hT.1.lt)); (try (have hT : FrF wp (wq.heap.size + 1) Z3 := (by refine FrF.belX (w := _) ?_ hx ?_ ?_; (repeat' (first | (with_reducible assumption) | ((refine FrF.new' ?_ ⟨0, 0, 0⟩ _) <;> (first | rfl | omega | (simp; done) | (simp; omega))) | (with_reducible apply FrF.alloc) | (with_reducible apply FrF.drewN) | (with_reducible apply FrF.drew) | omega | (simp; done) | (simp; omega))); first | done | fail); have hTf := hT.2; unfold FreeB at hTf; obtain ⟨z0, z1, z2⟩ := hT.1; have hTl : wq.heap.size + 1 < wp.heap.size := hT.1.lt)); (try (have hFo : FL w (timesI a.y b.x).isNone wp := hG _ (by (repeat' (first | (with_reducible assumption) | (with_reducible apply FL.alloc) | (with_reducible apply FL.drewN) | (with_reducible apply FL.drew) | ((with_reducible refine FL.set ?_ ?_ _) <;> (first | assumption | omega | (simp; omega) | skip)))); first | done | fail))); clear hx hG) | (go_at_call 46; (with_reducible refine (t_n w a b a.y b.x qv HQV _ (by (repeat' (first | (with_reducible assumption) | (with_reducible apply AN.alloc) | (with_reducible apply AN.drewN) | (with_reducible apply AN.drew) | ((with_reducible refine AN.set ?_ ?_ _) <;> (first | assumption | omega | (simp; omega) | skip)))))).mono ?_); rintro e wq ⟨rfl, hA, hF, hG, hx⟩; have hz := hx.size; (try simp only [World.size_alloc, World.size_setCell, World.size_drew, World.heap_drewN] at hz); have hl := hA.lt; (try (have hT : FrF wq (w1.heap.size) Z3 := (by refine FrF.belX (w := _) ?_ hx ?_ ?_; (repeat' (first | (with_reducible assumption) | ((refine FrF.new' ?_ ⟨0, 0, 0⟩ _) <;> (first | rfl | omega | (simp; done) | (simp; omega))) | (with_reducible apply FrF.alloc) | (with_reducible apply FrF.drewN) | (with_reducible apply FrF.drew) | omega | (simp; done) | (simp; omega))); first | done | fail); have hTf := hT.2; unfold FreeB at hTf; obtain ⟨z0, z1, z2⟩ := hT.1; have hTl : w1.heap.size < wq.heap.size := hT.1.lt)); (try (have hT : FrF wq (w1.heap.size + 1) Z3 := (by refine FrF.belX (w := _) ?_ hx ?_ ?_; (repeat' (first | (with_reducible assumption) | ((refine FrF.new' ?_ ⟨0, 0, 0⟩ _) <;> (first | rfl | omega | (simp; done) | (simp; omega))) | (with_reducible apply FrF.alloc) | (with_reducible apply FrF.drewN) | (with_reducible apply FrF.drew) | omega | (simp; done) | (simp; omega))); first | done | fail); have hTf := hT.2; unfold FreeB at hTf; obtain ⟨z0, z1, z2⟩ := hT.1; have hTl : w1.heap.size + 1 < wq.heap.size := hT.1.lt)); (try (have hT : FrF wq (wp.heap.size) Z3 := (by refine FrF.belX (w := _) ?_ hx ?_ ?_; (repeat' (first | (with_reducible assumption) | ((refine FrF.new' ?_ ⟨0, 0, 0⟩ _) <;> (first | rfl | omega | (simp; done) | (simp; omega))) | (with_reducible apply FrF.alloc) | (with_reducible apply FrF.drewN) | (with_reducible apply FrF.drew) | omega | (simp; done) | (simp; omega))); first | done | fail); have hTf := hT.2; unfold FreeB at hTf; obtain ⟨z0, z1, z2⟩ := hT.1; have hTl : wp.heap.size < wq.heap.size := hT.1.lt)); (try (have hT : FrF wq (wp.heap.size + 1) Z3 := (by refine FrF.belX (w := _) ?_ hx ?_ ?_; (repeat' (first | (with_reducible assumption) | ((refine FrF.new' ?_ ⟨0, 0, 0⟩ _) <;> (first | rfl | omega | (simp; done) | (simp; omega))) | (with_reducible apply FrF.alloc) | (with_reducible apply FrF.drewN) | (with_reducible apply FrF.drew) | omega | (simp; done) | (simp; omega))); first | done | fail); have hTf := hT.2; unfold FreeB at hTf; obtain ⟨z0, z1, z2⟩ := hT.1; have hTl : wp.heap.size + 1 < wq.heap.size := hT.1.lt)); (try (have hFo : FL w (timesI a.x b.y).isNone wq := hG _ (by (repeat' (first | (with_reducible assumption) | (with_reducible apply FL.alloc) | (with_reducible apply FL.drewN) | (with_reducible apply FL.drew) | ((with_reducible refine FL.set ?_ ?_ _) <;> (first | assumption | omega | (simp; omega) | skip)))); first | done | fail))); clear hx hG))
    all_goals (go_wp2; go_meet; first | ((with_reducible refine A3.m1 (W := wq) ?_ _ _) <;> (first | (refine ⟨?_, ?_, ?_⟩ <;> with_reducible assumption) | omega)) | ((with_reducible refine A3.m3 (W := wq) (bp := w1.heap.size) ?_ ?_ pv _) <;> (first | (refine ⟨?_, ?_, ?_⟩ <;> with_reducible assumption) | omega)) | ((with_reducible refine A3.m3 (W := wq) (bp := w1.heap.size) ?_ ?_ qv _) <;> (first | (refine ⟨?_, ?_, ?_⟩ <;> with_reducible assumption) | omega)) | ((with_reducible refine A3.m3 (W := wq) (bp := wp.heap.size) ?_ ?_ pv _) <;> (first | (refine ⟨?_, ?_, ?_⟩ <;> with_reducible assumption) | omega)) | ((with_reducible refine A3.m3 (W := wq) (bp := wp.heap.size) ?_ ?_ qv _) <;> (first | (refine ⟨?_, ?_, ?_⟩ <;> with_reducible assumption) | omega)) | ((with_reducible refine A3.m3 (W := wq) (bp := wq.heap.size) ?_ ?_ pv _) <;> (first | (refine ⟨?_, ?_, ?_⟩ <;> with_reducible assumption) | omega)) | ((with_reducible refine A3.m3 (W := wq) (bp := wq.heap.size) ?_ ?_ qv _) <;> (first | (refine ⟨?_, ?_, ?_⟩ <;> with_reducible assumption) | omega)) | ((with_reducible refine A3.m5 (W := wq) (bp := w1.heap.size) (bq := w1.heap.size + 1) ?_ ?_ ?_ pv qv) <;> (first | (refine ⟨?_, ?_, ?_⟩ <;> with_reducible assumption) | omega)) | ((with_reducible refine A3.m5 (W := wq) (bp := w1.heap.size) (bq := wp.heap.size) ?_ ?_ ?_ pv qv) <;> (first | (refine ⟨?_, ?_, ?_⟩ <;> with_reducible assumption) | omega)) | ((with_reducible refine A3.m5 (W := wq) (bp := w1.heap.size) (bq := wq.heap.size) ?_ ?_ ?_ pv qv) <;> (first | (refine ⟨?_, ?_, ?_⟩ <;> with_reducible assumption) | omega)) | ((with_reducible refine A3.m5 (W := wq) (bp := wp.heap.size) (bq := wp.heap.size + 1) ?_ ?_ ?_ pv qv) <;> (first | (refine ⟨?_, ?_, ?_⟩ <;> with_reducible assumption) | omega)) | ((with_reducible refine A3.m5 (W := wq) (bp := wq.heap.size) (bq := wq.heap.size + 1) ?_ ?_ ?_ pv qv) <;> (first | (refine ⟨?_, ?_, ?_⟩ <;> with_reducible assumption) | omega)) | ((with_reducible refine A3.m5 (W := wq) (bp := w1.heap.size + 1) (bq := w1.heap.size) ?_ ?_ ?_ pv qv) <;> (first | (refine ⟨?_, ?_, ?_⟩ <;> with_reducible assumption) | omega)) | ((with_reducible refine A3.m5 (W := wq) (bp := wp.heap.size) (bq := w1.heap.size) ?_ ?_ ?_ pv qv) <;> (first | (refine ⟨?_, ?_, ?_⟩ <;> with_reducible assumption) | omega)) | ((with_reducible refine A3.m5 (W := wq) (bp := wq.heap.size) (bq := w1.heap.size) ?_ ?_ ?_ pv qv) <;> (first | (refine ⟨?_, ?_, ?_⟩ <;> with_reducible assumption) | omega)) | ((with_reducible refine A3.m5 (W := wq) (bp := wp.heap.size + 1) (bq := wp.heap.size) ?_ ?_ ?_ pv qv) <;> (first | (refine ⟨?_, ?_, ?_⟩ <;> with_reducible assumption) | omega)) | ((with_reducible refine A3.m5 (W := wq) (bp := wq.heap.size + 1) (bq := wq.heap.size) ?_ ?_ ?_ pv qv) <;> (first | (refine ⟨?_, ?_, ?_⟩ <;> with_reducible assumption) | omega)) | ((with_reducible refine A3.m1 (W := wp) ?_ _ _) <;> (first | (refine ⟨?_, ?_, ?_⟩ <;> with_reducible assumption) | omega)) | ((with_reducible refine A3.m3 (W := wp) (bp := w1.heap.size) ?_ ?_ pv _) <;> (first | (refine ⟨?_, ?_, ?_⟩ <;> with_reducible assumption) | omega)) | ((with_reducible refine A3.m3 (W := wp) (bp := w1.heap.size) ?_ ?_ qv _) <;> (first | (refine ⟨?_, ?_, ?_⟩ <;> with_reducible assumption) | omega)) | ((with_reducible refine A3.m3 (W := wp) (bp := wp.heap.size) ?_ ?_ pv _) <;> (first | (refine ⟨?_, ?_, ?_⟩ <;> with_reducible assumption) | omega)) | ((with_reducible refine A3.m3 (W := wp) (bp := wp.heap.size) ?_ ?_ qv _) <;> (first | (refine ⟨?_, ?_, ?_⟩ <;> with_reducible assumption) | omega)) | ((with_reducible refine A3.m3 (W := wp) (bp := wq.heap.size) ?_ ?_ pv _) <;> (first | (refine ⟨?_, ?_, ?_⟩ <;> with_reducible assumption) | omega)) | ((with_reducible refine A3.m3 (W := wp) (bp := wq.heap.size) ?_ ?_ qv _) <;> (first | (refine ⟨?_, ?_, ?_⟩ <;> with_reducible assumption) | omega)) | ((with_reducible refine A3.m5 (W := wp) (bp := w1.heap.size) (bq := w1.heap.size + 1) ?_ ?_ ?_ pv qv) <;> (first | (refine ⟨?_, ?_, ?_⟩ <;> with_reducible assumption) | omega)) | ((with_reducible refine A3.m5 (W := wp) (bp := w1.heap.size) (bq := wp.heap.size) ?_ ?_ ?_ pv qv) <;> (first | (refine ⟨?_, ?_, ?_⟩ <;> with_reducible assumption) | omega)) | ((with_reducible refine A3.m5 (W := wp) (bp := w1.heap.size) (bq := wq.heap.size) ?_ ?_ ?_ pv qv) <;> (first | (refine ⟨?_, ?_, ?_⟩ <;> with_reducible assumption) | omega)) | ((with_reducible refine A3.m5 (W := wp) (bp := wp.heap.size) (bq := wp.heap.size + 1) ?_ ?_ ?_ pv qv) <;> (first | (refine ⟨?_, ?_, ?_⟩ <;> with_reducible assumption) | omega)) | ((with_reducible refine A3.m5 (W := wp) (bp := wq.heap.size) (bq := wq.heap.size + 1) ?_ ?_ ?_ pv qv) <;> (first | (refine ⟨?_, ?_, ?_⟩ <;> with_reducible assumption) | omega)) | ((with_reducible refine A3.m5 (W := wp) (bp := w1.heap.size + 1) (bq := w1.heap.size) ?_ ?_ ?_ pv qv) <;> (first | (refine ⟨?_, ?_, ?_⟩ <;> with_reducible assumption) | omega)) | ((with_reducible refine A3.m5 (W := wp) (bp := wp.heap.size) (bq := w1.heap.size) ?_ ?_ ?_ pv qv) <;> (first | (refine ⟨?_, ?_, ?_⟩ <;> with_reducible assumption) | omega)) | ((with_reducible refine A3.m5 (W := wp) (bp := wq.heap.size) (bq := w1.heap.size) ?_ ?_ ?_ pv qv) <;> (first | (refine ⟨?_, ?_, ?_⟩ <;> with_reducible assumption) | omega)) | ((with_reducible refine A3.m5 (W := wp) (bp := wp.heap.size + 1) (bq := wp.heap.size) ?_ ?_ ?_ pv qv) <;> (first | (refine ⟨?_, ?_, ?_⟩ <;> with_reducible assumption) | omega)) | ((with_reducible refine A3.m5 (W := wp) (bp := wq.heap.size + 1) (bq := wq.heap.size) ?_ ?_ ?_ pv qv) <;> (first | (refine ⟨?_, ?_, ?_⟩ <;> with_reducible assumption) | omega)))
  case rest =>
    obtain ⟨hA, hP, hQ⟩ := hcut
    have hs : SumIs wc (w.heap.size + 1 + 1) true := by
      have := HN.out
      rw [Bool.or_eq_true] at this
      rcases this with h | h
      · exact hP h
      · exact hQ h
    have hB := hA.B
    have hsc := hs.cell
    clear hP hQ hs
    go_upto_region 3 with fail
    go_region_with (fail)
    all_goals (go_wp2; go_ret; exact ⟨by first | done | rfl, by exact below_⟩)
theorem jalike_v (a b : Jn) (w : World) (ha : jvalid a = true) (hb : jvalid b = true) (hZ : GZ w) :
    Calls Tryd.prog 19 #[jnv a, jnv b] w fun e w' => e = .returned (.bool (jalikeI a b)) ∧ Below w.heap.size w w' := by
  cases hP : timesI a.x b.y with
  | none =>
    rw [show jalikeI a b = false by simp [jalikeI, hP]]
    exact jalike_none a b w ha hb (by rw [hP]; rfl)
  | some p =>
    cases hQ : timesI a.y b.x with
    | none =>
      rw [show jalikeI a b = false by simp [jalikeI, hQ]]
      exact jalike_none a b w ha hb (by rw [hQ, Bool.or_comm]; rfl)
    | some q =>
      rw [show jalikeI a b = ((p == q) && (jdark a == jdark b)) by simp [jalikeI, ha, hb, hP, hQ]]
      exact jalike_some a b p q w ha hb hP hQ hZ
theorem times_n (a b N : Fr) (nl : Bool) (w : World) (e : frb (timesI a b) = .tuple #[frv N, .bool nl]) :
    Calls Tryd.prog 18 #[frv a, frv b] w fun e w' => e = .returned (.tuple #[frv N, .bool nl]) ∧ Below w.heap.size w w' := by rw [← e]; exact times_any a b w
theorem jalike_t (a b : Jn) (w : World) (ha : jvalid a = true) (hb : jvalid b = true) (hZ : GZ w) (h : jalikeI a b = true) :
    Calls Tryd.prog 19 #[jnv a, jnv b] w fun e w' => e = .returned (.bool true) ∧ Below w.heap.size w w' := by rw [← h]; exact jalike_v a b w ha hb hZ
theorem mapply_m (m : Mt) (v N : Jn) (nl : Bool) (w : World) (e : jnb (mapplyI m v) = .tuple #[jnv N, .bool nl]) :
    Calls Tryd.prog 17 #[mtv m, jnv v] w fun e w' => e = .returned (.tuple #[jnv N, .bool nl]) ∧ Below w.heap.size w w' := by rw [← e]; exact mapply_any m v w
theorem FreeB.setJ {w : World} {b b' : Nat} {y : Jn} (h : FreeB w b) : FreeB (setJ w b' y) b := fun o => by
  unfold Go.Proofs.YtiagnnmnaakmoaaDoor.setJ
  simp only [World.frozen?_setCell]
  exact h o
set_option maxRecDepth 100000 in
set_option maxHeartbeats 4000000 in
theorem fnOrder_walk (A : Option Addr) (len cap : Nat) (w : World) (hby : Bytes A len cap w) (hGO : GO w) (hGZ : GZ w) (hGT : GT w) (hGS : GS w) :
    Calls Tryd.prog 5 #[.slice A len cap] w fun e w' => e = .returned (.bool true) ∧ Below w.heap.size w w' := by
  by_cases hl : len ≤ 1048576
  · have hd : decide ((1048576 : Int) < (len : Int)) = false := by simp; omega
    go_enter Tryd.func5, Tryd.ntmps5
    go_wp2_with (go_at_call 15; (with_reducible refine (drawFibreOrder_any A len cap _ hby).mono ?_); rintro e w1 ⟨xs, v, rfl, ⟨hO, hl7⟩, hB⟩; refine Hid.out ?_)
    refine Lib.hid ?_
    obtain ⟨A1, c1, rfl, -⟩ := hO.secs
    obtain ⟨n, hn⟩ : ∃ n, n = (fibOrderI xs).getD 0 := ⟨_, rfl⟩
    obtain ⟨b, hb0⟩ : ∃ b, b = (fibOrderI xs).isSome := ⟨_, rfl⟩
    have HC := Lib.hid (show ordV (fibOrderI xs) = .tuple #[.int .i64 n, .bool b] by rw [hn, hb0])
    have HM := Lib.hid (show b = true → ∃ m, fibMatI xs = some m ∧ n = ordL m 24 1 m by
      intro h
      rw [hb0] at h
      unfold fibOrderI at h hn
      cases hx : fibMatI xs with
      | none => rw [hx] at h; cases h
      | some m => rw [hx] at hn; exact ⟨m, rfl, hn⟩)
    clear hn hb0
    go_wp2_with (go_at_call 14; (with_reducible refine (order_m A1 _ c1 xs n b _ hO.read (hGO.below hB) (hGZ.below hB) (hGT.below hB) (hGS.below hB) HC).mono ?_); rintro e w2 ⟨rfl, hb⟩; refine Hid.out ?_)
    refine Lib.hid ?_
    have hO := hO.below hb
    have hB : Below w.heap.size w w2 := bstep hB hb hB.size
    clear hb
    go_wp2_with (go_at_call 13; (with_reducible refine (sorder_m A1 _ c1 xs n b _ hO.read HC).mono ?_); rintro e w3 ⟨rfl, hb⟩; refine Hid.out ?_)
    refine Lib.hid ?_
    have hO := hO.below hb
    have hB : Below w.heap.size w w3 := bstep hB hb hB.size
    clear hb
    cases hb : b
    · go_wp2
      go_ret
      exact ⟨rfl, by exact below_⟩
    obtain ⟨m, hm, hnm⟩ := HM.out hb
    have hbd := ordL_bd m 24 1 m (by omega)
    rw [← hnm] at hbd
    have HMM := Lib.hid hm
    have HNM := Lib.hid hnm
    clear HM HC hb hm hnm
    by_cases hn0 : n = 0
    · subst hn0
      go_wp2
      go_ret
      exact ⟨rfl, by exact below_⟩
    obtain ⟨nn, rfl⟩ := Int.eq_ofNat_of_zero_le hbd.1
    have hnn : 0 < nn := by omega
    have hn1 : ((nn : Int) == 0) = false := by simp; omega
    have hn24 : (nn : Int) ≤ 24 := by omega
    have HC5 := Lib.hid (show mtb (fibMatI xs) = .tuple #[mtv m, .bool true] by rw [HMM.out]; rfl)
    go_wp2_with (go_at_call 16; (with_reducible refine (fibMat_o A1 _ c1 xs (some m) _ hO.read (hGO.below hB) (hGZ.below hB) (hGT.below hB) (hGS.below hB) HMM.out).mono ?_); rintro e w5 ⟨rfl, hb⟩; refine Hid.out ?_)
    refine Lib.hid ?_
    have hB := bstep hB hb hB.size
    clear hb hO
    have hzB := hB.size
    have hA0 : MtAt (((w5.alloc (.cells #[.int .i64 m.a.re, .int .i64 m.a.im, .int .i64 m.a.den, .int .i64 m.b.re, .int .i64 m.b.im, .int .i64 m.b.den, .int .i64 m.c.re, .int .i64 m.c.im, .int .i64 m.c.den, .int .i64 m.d.re, .int .i64 m.d.im, .int .i64 m.d.den] 44)).alloc (.cells #[.int .i64 1, .int .i64 0, .int .i64 1, .int .i64 0, .int .i64 1, .int .i64 1] 33)).alloc (.cells #[.int .i64 1, .int .i64 0, .int .i64 1, .int .i64 0, .int .i64 1, .int .i64 1] 33)) w5.heap.size m := ((MtAt.new w5 m _).alloc _).alloc _
    have hV0 : JnAt (((w5.alloc (.cells #[.int .i64 m.a.re, .int .i64 m.a.im, .int .i64 m.a.den, .int .i64 m.b.re, .int .i64 m.b.im, .int .i64 m.b.den, .int .i64 m.c.re, .int .i64 m.c.im, .int .i64 m.c.den, .int .i64 m.d.re, .int .i64 m.d.im, .int .i64 m.d.den] 44)).alloc (.cells #[.int .i64 1, .int .i64 0, .int .i64 1, .int .i64 0, .int .i64 1, .int .i64 1] 33)).alloc (.cells #[.int .i64 1, .int .i64 0, .int .i64 1, .int .i64 0, .int .i64 1, .int .i64 1] 33)) (w5.heap.size + 1) v1i := by
      have h := JnAt.new (w5.alloc (.cells #[.int .i64 m.a.re, .int .i64 m.a.im, .int .i64 m.a.den, .int .i64 m.b.re, .int .i64 m.b.im, .int .i64 m.b.den, .int .i64 m.c.re, .int .i64 m.c.im, .int .i64 m.c.den, .int .i64 m.d.re, .int .i64 m.d.im, .int .i64 m.d.den] 44)) v1i 33
      have e : (w5.alloc (.cells #[.int .i64 m.a.re, .int .i64 m.a.im, .int .i64 m.a.den, .int .i64 m.b.re, .int .i64 m.b.im, .int .i64 m.b.den, .int .i64 m.c.re, .int .i64 m.c.im, .int .i64 m.c.den, .int .i64 m.d.re, .int .i64 m.d.im, .int .i64 m.d.den] 44)).heap.size = w5.heap.size + 1 := by simp
      rw [e] at h
      exact JnAt.alloc h _
    have hW0 : JnF (((w5.alloc (.cells #[.int .i64 m.a.re, .int .i64 m.a.im, .int .i64 m.a.den, .int .i64 m.b.re, .int .i64 m.b.im, .int .i64 m.b.den, .int .i64 m.c.re, .int .i64 m.c.im, .int .i64 m.c.den, .int .i64 m.d.re, .int .i64 m.d.im, .int .i64 m.d.den] 44)).alloc (.cells #[.int .i64 1, .int .i64 0, .int .i64 1, .int .i64 0, .int .i64 1, .int .i64 1] 33)).alloc (.cells #[.int .i64 1, .int .i64 0, .int .i64 1, .int .i64 0, .int .i64 1, .int .i64 1] 33)) (w5.heap.size + 1 + 1) v1i := by
      have h := JnF.new ((w5.alloc (.cells #[.int .i64 m.a.re, .int .i64 m.a.im, .int .i64 m.a.den, .int .i64 m.b.re, .int .i64 m.b.im, .int .i64 m.b.den, .int .i64 m.c.re, .int .i64 m.c.im, .int .i64 m.c.den, .int .i64 m.d.re, .int .i64 m.d.im, .int .i64 m.d.den] 44)).alloc (.cells #[.int .i64 1, .int .i64 0, .int .i64 1, .int .i64 0, .int .i64 1, .int .i64 1] 33)) v1i 33
      have e : ((w5.alloc (.cells #[.int .i64 m.a.re, .int .i64 m.a.im, .int .i64 m.a.den, .int .i64 m.b.re, .int .i64 m.b.im, .int .i64 m.b.den, .int .i64 m.c.re, .int .i64 m.c.im, .int .i64 m.c.den, .int .i64 m.d.re, .int .i64 m.d.im, .int .i64 m.d.den] 44)).alloc (.cells #[.int .i64 1, .int .i64 0, .int .i64 1, .int .i64 0, .int .i64 1, .int .i64 1] 33)).heap.size = w5.heap.size + 1 + 1 := by simp
      rw [e] at h
      exact h
    have hB0 : Below w.heap.size w (((w5.alloc (.cells #[.int .i64 m.a.re, .int .i64 m.a.im, .int .i64 m.a.den, .int .i64 m.b.re, .int .i64 m.b.im, .int .i64 m.b.den, .int .i64 m.c.re, .int .i64 m.c.im, .int .i64 m.c.den, .int .i64 m.d.re, .int .i64 m.d.im, .int .i64 m.d.den] 44)).alloc (.cells #[.int .i64 1, .int .i64 0, .int .i64 1, .int .i64 0, .int .i64 1, .int .i64 1] 33)).alloc (.cells #[.int .i64 1, .int .i64 0, .int .i64 1, .int .i64 0, .int .i64 1, .int .i64 1] 33)) := (((hB.alloc hzB _).alloc (by simp; omega) _).alloc (by simp; omega) _)
    clear hB
    go_wp2
    obtain ⟨bm, hbm⟩ : ∃ bm, bm = w5.heap.size := ⟨_, rfl⟩
    rw [← hbm] at hA0 hV0 hW0 ⊢
    have hbw : w.heap.size ≤ bm := by omega
    clear hbm hzB
    go_loopw [9, 12, 13, 14] (fun pv i _ _ wr => ∃ (k : Nat) (W : Jn) (pb : Bool), k ≤ nn ∧ i = .int .i64 k ∧ pv = .bool pb ∧ Hid (pb = true → appN m v1i k = some W) ∧ MtAt wr bm m ∧ JnAt wr (bm + 1) v1i ∧ JnF wr (bm + 1 + 1) W ∧ Below w.heap.size w wr) (fun _ i _ _ _ => nn - (intOf i).toNat)
    case atStart => exact ⟨0, v1i, true, by omega, rfl, rfl, Lib.hid (fun _ => rfl), hA0, hV0, hW0, hB0⟩
    case round =>
      clear hA0 hV0 hW0 hB0
      obtain ⟨k, W, pb, hk, rfl, rfl, hap, hA, hV, hW, hB⟩ := hrel
      have hzB := hB.size
      cases pb
      · rcases Nat.lt_or_ge k nn with hkn | hkn
        · have hk0 : (k : Int) < (nn : Int) := by omega
          obtain ⟨pb, hpb⟩ : ∃ pb, pb = false := ⟨_, rfl⟩
          obtain ⟨N, hN⟩ : ∃ N : Fr, N = (timesI v1i.x W.y).getD ⟨0, 0, 0⟩ := ⟨_, rfl⟩
          obtain ⟨rl, hrl⟩ : ∃ rl : Bool, rl = (timesI v1i.x W.y).isSome := ⟨_, rfl⟩
          obtain ⟨K, hK⟩ : ∃ K : Fr, K = (timesI v1i.y W.x).getD ⟨0, 0, 0⟩ := ⟨_, rfl⟩
          obtain ⟨sl, hsl⟩ : ∃ sl : Bool, sl = (timesI v1i.y W.x).isSome := ⟨_, rfl⟩
          have HN := Lib.hid (show frb (timesI v1i.x W.y) = .tuple #[frv N, .bool rl] by rw [hN, hrl])
          have HK := Lib.hid (show frb (timesI v1i.y W.x) = .tuple #[frv K, .bool sl] by rw [hK, hsl])
          have hS : ∀ {α : Type} {o : Option α} {z a : α}, a = o.getD z → o.isSome = true → o = some a := by
            intro α o z a h1 h2
            cases o with
            | none => cases h2
            | some x => rw [h1]; rfl
          have HJ := Lib.hid (show pb = true → rl = true → sl = true → jalikeI v1i W = true ∧ jvalid W = true by
            intro h1 h2 h3
            rw [hpb] at h1; cases h1)
          clear hN hrl hK hsl hS
          obtain ⟨v0, v1, v2, v3, v4, v5⟩ := id hV
          obtain ⟨w0, w1, w2, w3, w4, w5⟩ := id hW.1
          go_wp2_with (go_at_call 18; (with_reducible refine (times_n v1i.x W.y N rl _ HN.out).mono ?_); clear v0 v1 v2 v3 v4 v5 w0 w1 w2 w3 w4 w5; rintro e wa ⟨rfl, hb⟩; refine Hid.out ?_)
          refine Lib.hid ?_
          have hV := (hV.below hb hV.lt).alloc (.cells #[.int .i64 N.re, .int .i64 N.im, .int .i64 N.den] 31)
          have hWj := (hW.1.below hb hW.1.lt).alloc (.cells #[.int .i64 N.re, .int .i64 N.im, .int .i64 N.den] 31)
          have hB := bstep hB hb hB.size
          have hzB := hB.size
          have hB := hB.alloc hzB (.cells #[.int .i64 N.re, .int .i64 N.im, .int .i64 N.den] 31)
          clear hb hW
          obtain ⟨v0, v1, v2, v3, v4, v5⟩ := id hV
          obtain ⟨w0, w1, w2, w3, w4, w5⟩ := id hWj
          go_wp2_with (go_at_call 18; (with_reducible refine (times_n v1i.y W.x K sl _ HK.out).mono ?_); clear v0 v1 v2 v3 v4 v5 w0 w1 w2 w3 w4 w5; rintro e wb ⟨rfl, hb⟩; refine Hid.out ?_)
          refine Lib.hid ?_
          have hV := (hV.below hb hV.lt).alloc (.cells #[.int .i64 K.re, .int .i64 K.im, .int .i64 K.den] 31)
          have hWj := (hWj.below hb hWj.lt).alloc (.cells #[.int .i64 K.re, .int .i64 K.im, .int .i64 K.den] 31)
          have hB := bstep hB hb hB.size
          have hzB := hB.size
          have hB := hB.alloc hzB (.cells #[.int .i64 K.re, .int .i64 K.im, .int .i64 K.den] 31)
          clear hb
          go_wp2
          go_ret
          exact ⟨rfl, by exact below_⟩
        · obtain rfl : k = nn := by omega
          obtain ⟨pb, hpb⟩ : ∃ pb, pb = false := ⟨_, rfl⟩
          obtain ⟨N, hN⟩ : ∃ N : Fr, N = (timesI v1i.x W.y).getD ⟨0, 0, 0⟩ := ⟨_, rfl⟩
          obtain ⟨rl, hrl⟩ : ∃ rl : Bool, rl = (timesI v1i.x W.y).isSome := ⟨_, rfl⟩
          obtain ⟨K, hK⟩ : ∃ K : Fr, K = (timesI v1i.y W.x).getD ⟨0, 0, 0⟩ := ⟨_, rfl⟩
          obtain ⟨sl, hsl⟩ : ∃ sl : Bool, sl = (timesI v1i.y W.x).isSome := ⟨_, rfl⟩
          have HN := Lib.hid (show frb (timesI v1i.x W.y) = .tuple #[frv N, .bool rl] by rw [hN, hrl])
          have HK := Lib.hid (show frb (timesI v1i.y W.x) = .tuple #[frv K, .bool sl] by rw [hK, hsl])
          have hS : ∀ {α : Type} {o : Option α} {z a : α}, a = o.getD z → o.isSome = true → o = some a := by
            intro α o z a h1 h2
            cases o with
            | none => cases h2
            | some x => rw [h1]; rfl
          have HJ := Lib.hid (show pb = true → rl = true → sl = true → jalikeI v1i W = true ∧ jvalid W = true by
            intro h1 h2 h3
            rw [hpb] at h1; cases h1)
          clear hN hrl hK hsl hS
          obtain ⟨v0, v1, v2, v3, v4, v5⟩ := id hV
          obtain ⟨w0, w1, w2, w3, w4, w5⟩ := id hW.1
          go_wp2_with (go_at_call 18; (with_reducible refine (times_n v1i.x W.y N rl _ HN.out).mono ?_); clear v0 v1 v2 v3 v4 v5 w0 w1 w2 w3 w4 w5; rintro e wa ⟨rfl, hb⟩; refine Hid.out ?_)
          refine Lib.hid ?_
          have hV := (hV.below hb hV.lt).alloc (.cells #[.int .i64 N.re, .int .i64 N.im, .int .i64 N.den] 31)
          have hWj := (hW.1.below hb hW.1.lt).alloc (.cells #[.int .i64 N.re, .int .i64 N.im, .int .i64 N.den] 31)
          have hB := bstep hB hb hB.size
          have hzB := hB.size
          have hB := hB.alloc hzB (.cells #[.int .i64 N.re, .int .i64 N.im, .int .i64 N.den] 31)
          clear hb hW
          obtain ⟨v0, v1, v2, v3, v4, v5⟩ := id hV
          obtain ⟨w0, w1, w2, w3, w4, w5⟩ := id hWj
          go_wp2_with (go_at_call 18; (with_reducible refine (times_n v1i.y W.x K sl _ HK.out).mono ?_); clear v0 v1 v2 v3 v4 v5 w0 w1 w2 w3 w4 w5; rintro e wb ⟨rfl, hb⟩; refine Hid.out ?_)
          refine Lib.hid ?_
          have hV := (hV.below hb hV.lt).alloc (.cells #[.int .i64 K.re, .int .i64 K.im, .int .i64 K.den] 31)
          have hWj := (hWj.below hb hWj.lt).alloc (.cells #[.int .i64 K.re, .int .i64 K.im, .int .i64 K.den] 31)
          have hB := bstep hB hb hB.size
          have hzB := hB.size
          have hB := hB.alloc hzB (.cells #[.int .i64 K.re, .int .i64 K.im, .int .i64 K.den] 31)
          clear hb
          go_wp2
          go_ret
          exact ⟨rfl, by exact below_⟩
      · rcases Nat.lt_or_ge k nn with hkn | hkn
        · have hk0 : (k : Int) < (nn : Int) := by omega
          obtain ⟨X, hX⟩ : ∃ X : Jn, X = (mapplyI m W).getD ⟨⟨0, 0, 0⟩, ⟨0, 0, 0⟩⟩ := ⟨_, rfl⟩
          obtain ⟨xl, hxl⟩ : ∃ xl : Bool, xl = (mapplyI m W).isSome := ⟨_, rfl⟩
          have HX := Lib.hid (show jnb (mapplyI m W) = .tuple #[jnv X, .bool xl] by rw [hX, hxl])
          have HA := Lib.hid (show xl = true → appN m v1i (k + 1) = some X by
            intro h
            rw [appN, hap.out rfl]
            show mapplyI m W = some X
            rw [hxl] at h
            cases ho : mapplyI m W with
            | none => rw [ho] at h; cases h
            | some y => rw [ho] at hX; rw [hX]; rfl)
          clear hX hxl
          obtain ⟨a0, a1, a2, a3, a4, a5, a6, a7, a8, a9, a10, a11⟩ := id hA
          obtain ⟨w0, w1, w2, w3, w4, w5⟩ := id hW.1
          go_wp2_with (go_at_call 17; (with_reducible refine (mapply_m m W X xl _ HX.out).mono ?_); clear w0 w1 w2 w3 w4 w5 a0 a1 a2 a3 a4 a5 a6 a7 a8 a9 a10 a11; rintro e wa ⟨rfl, hb⟩; refine Hid.out ?_)
          refine Lib.hid ?_
          have hA := (hA.below hb hA.lt).alloc (.cells #[.int .i64 X.x.re, .int .i64 X.x.im, .int .i64 X.x.den, .int .i64 X.y.re, .int .i64 X.y.im, .int .i64 X.y.den] 33)
          have hV := (hV.below hb hV.lt).alloc (.cells #[.int .i64 X.x.re, .int .i64 X.x.im, .int .i64 X.x.den, .int .i64 X.y.re, .int .i64 X.y.im, .int .i64 X.y.den] 33)
          have hW := (hW.below hb hW.1.lt).alloc (.cells #[.int .i64 X.x.re, .int .i64 X.x.im, .int .i64 X.x.den, .int .i64 X.y.re, .int .i64 X.y.im, .int .i64 X.y.den] 33)
          have hB := bstep hB hb hzB
          have hzB := hB.size
          have hB := hB.alloc hzB (.cells #[.int .i64 X.x.re, .int .i64 X.x.im, .int .i64 X.x.den, .int .i64 X.y.re, .int .i64 X.y.im, .int .i64 X.y.den] 33)
          clear hb
          obtain ⟨⟨w0, w1, w2, w3, w4, w5⟩, wf⟩ := id hW
          unfold FreeB at wf
          go_wp2
          go_roundw
          case rel => exact ⟨k + 1, X, xl, by omega, by go_num, rfl, HA, hA.same (fun o => setJ_cell (by omega)), setJ_far hV (by omega), ⟨setJ_at hW.1, hW.2.setJ⟩, setJ_below hB (by omega)⟩
          case measure => simp [intOf]; omega
        · obtain rfl : k = nn := by omega
          obtain ⟨pb, hpb⟩ : ∃ pb, pb = true := ⟨_, rfl⟩
          have HAP := hap
          obtain ⟨N, hN⟩ : ∃ N : Fr, N = (timesI v1i.x W.y).getD ⟨0, 0, 0⟩ := ⟨_, rfl⟩
          obtain ⟨rl, hrl⟩ : ∃ rl : Bool, rl = (timesI v1i.x W.y).isSome := ⟨_, rfl⟩
          obtain ⟨K, hK⟩ : ∃ K : Fr, K = (timesI v1i.y W.x).getD ⟨0, 0, 0⟩ := ⟨_, rfl⟩
          obtain ⟨sl, hsl⟩ : ∃ sl : Bool, sl = (timesI v1i.y W.x).isSome := ⟨_, rfl⟩
          have HN := Lib.hid (show frb (timesI v1i.x W.y) = .tuple #[frv N, .bool rl] by rw [hN, hrl])
          have HK := Lib.hid (show frb (timesI v1i.y W.x) = .tuple #[frv K, .bool sl] by rw [hK, hsl])
          have hS : ∀ {α : Type} {o : Option α} {z a : α}, a = o.getD z → o.isSome = true → o = some a := by
            intro α o z a h1 h2
            cases o with
            | none => cases h2
            | some x => rw [h1]; rfl
          have HJ := Lib.hid (show pb = true → rl = true → sl = true → jalikeI v1i W = true ∧ jvalid W = true by
            intro h1 h2 h3
            exact ⟨order_back HMM.out HNM.out.symm (by omega) (HAP.out rfl) (hS hN (hrl ▸ h2)) (hS hK (hsl ▸ h3)), (appN_rv (fib_rc HMM.out) rv_1i _ _ (HAP.out rfl)).valid⟩)
          clear hN hrl hK hsl hS
          obtain ⟨v0, v1, v2, v3, v4, v5⟩ := id hV
          obtain ⟨w0, w1, w2, w3, w4, w5⟩ := id hW.1
          go_wp2_with (go_at_call 18; (with_reducible refine (times_n v1i.x W.y N rl _ HN.out).mono ?_); clear v0 v1 v2 v3 v4 v5 w0 w1 w2 w3 w4 w5; rintro e wa ⟨rfl, hb⟩; refine Hid.out ?_)
          refine Lib.hid ?_
          have hV := (hV.below hb hV.lt).alloc (.cells #[.int .i64 N.re, .int .i64 N.im, .int .i64 N.den] 31)
          have hWj := (hW.1.below hb hW.1.lt).alloc (.cells #[.int .i64 N.re, .int .i64 N.im, .int .i64 N.den] 31)
          have hB := bstep hB hb hB.size
          have hzB := hB.size
          have hB := hB.alloc hzB (.cells #[.int .i64 N.re, .int .i64 N.im, .int .i64 N.den] 31)
          clear hb hW
          obtain ⟨v0, v1, v2, v3, v4, v5⟩ := id hV
          obtain ⟨w0, w1, w2, w3, w4, w5⟩ := id hWj
          go_wp2_with (go_at_call 18; (with_reducible refine (times_n v1i.y W.x K sl _ HK.out).mono ?_); clear v0 v1 v2 v3 v4 v5 w0 w1 w2 w3 w4 w5; rintro e wb ⟨rfl, hb⟩; refine Hid.out ?_)
          refine Lib.hid ?_
          have hV := (hV.below hb hV.lt).alloc (.cells #[.int .i64 K.re, .int .i64 K.im, .int .i64 K.den] 31)
          have hWj := (hWj.below hb hWj.lt).alloc (.cells #[.int .i64 K.re, .int .i64 K.im, .int .i64 K.den] 31)
          have hB := bstep hB hb hB.size
          have hzB := hB.size
          have hB := hB.alloc hzB (.cells #[.int .i64 K.re, .int .i64 K.im, .int .i64 K.den] 31)
          clear hb
          obtain ⟨v0, v1, v2, v3, v4, v5⟩ := id hV
          obtain ⟨w0, w1, w2, w3, w4, w5⟩ := id hWj
          cases hrl : rl
          · go_wp2
            go_ret
            exact ⟨rfl, by exact below_⟩
          cases hsl : sl
          · go_wp2
            go_ret
            exact ⟨rfl, by exact below_⟩
          have HL := Lib.hid (HJ.out hpb hrl hsl)
          clear HJ
          go_wp2_with (go_at_call 19; (with_reducible refine (jalike_t v1i W _ (by decide) HL.out.2 (hGZ.below hB) HL.out.1).mono ?_); rintro e wc ⟨rfl, hb⟩; have hB8 : Below w.heap.size w wc := bstep hB hb hB.size; clear hb)
          go_ret
          exact ⟨rfl, by exact below_⟩
  · have hd : decide ((1048576 : Int) < (len : Int)) = true := by simp; omega
    go_enter Tryd.func5, Tryd.ntmps5
    go_wp2
    go_ret
    exact ⟨rfl, by exact below_⟩
end
open Go.ChangeShapes Go.WideShapes Go.ChangeAt Go.RowKit Go.WideElems
namespace fnOrder
set_option maxRecDepth 100000 in
/-- What the walk gives, for every argument and every world that holds the listed variables. -/
theorem contract (H : Type) (enc : TypeId × Value → H) (W : World) (base : Nat) (args : Array Value) (ds gs : List (DataW H)) (before : List MemPlace)
    (hval : ∀ (j : Nat) t v, Tryd.f5.params[j]? = some t → args[j]? = some v → Value.okWide Tryd.prog W .any base t v)
    (hW : DataW.Whole enc Tryd.prog Tryd.f5.params.toList Rows.fnOrderSpec.vars false W args.toList ds gs before) (hL : laidMetH Tryd.prog Rows.fnOrderRow.laid W) :
    Calls Tryd.prog 5 args W fun e W' => ∃ v, e = .returned v ∧ Rows.fnOrderSpec.post enc Tryd.prog Tryd.f5 false true false false W args v W' := by
  have hW' := hW
  obtain ⟨p, q, hA0, hV, rfl, hfz, hnd⟩ := hW
  have hA : DataW.TrodAll enc Tryd.prog W 0 (fun _ => true) true Tryd.f5.params.toList args.toList ds p := hA0
  rw [Tryd.params5] at hA hval
  obtain ⟨v0, vs0, d0, ds0, p0, q0, hargs, rfl, rfl, h0, r0⟩ := trodAll_cons hA
  obtain ⟨rfl, rfl, rfl⟩ := trodAll_nil r0
  obtain rfl : args = #[v0] := by cases args; simp_all
  obtain ⟨Ac, lenc, capc, rfl, hbyc⟩ := open_bytes (hval 0 40 v0 rfl rfl) h0
  rw [MakeChecks.laidMetH_plain _ _ _ (by kernel_rfl)] at hL
  obtain ⟨_, ⟨g0, t0, cs0, f0, pp0, qq0, hg0, ht0, hv0, hd0, ⟨g1, t1, cs1, f1, pp1, qq1, hg1, ht1, hv1, hd1, ⟨g2, t2, cs2, f2, pp2, qq2, hg2, ht2, hv2, hd2, ⟨g3, t3, cs3, f3, pp3, qq3, hg3, ht3, hv3, hd3, _, _⟩, _⟩, _⟩, _⟩, _, _⟩ := hL
  have hGZ : GZ W := gv_zero hg0 ht0 hv0 hd0
  have hGO : GO W := gv_one hg1 ht1 hv1 hd1
  have hGT : GT W := gv_turns hg2 ht2 hv2 hd2
  have hGS : GS W := gv_same hg3 ht3 hv3 hd3
  have hgs : gs.length = 4 := trodVars_length hV
  obtain ⟨y0, y1, y2, y3, rfl⟩ : ∃ y0 y1 y2 y3, gs = [y0, y1, y2, y3] := by
    match gs, hgs with
    | [y0, y1, y2, y3], _ => exact ⟨y0, y1, y2, y3, rfl⟩
  have hp : ∀ t ∈ Tryd.f5.params.toList, Tryd.prog.readableRec t = true ∧ t < Tryd.prog.types.size := by
      rw [Tryd.params5]
      intro t ht
      have hm : t ∈ [40] := by simpa using ht
      have hall : ([40].all fun u => Tryd.prog.readableRec u && decide (u < Tryd.prog.types.size)) = true := by kernel_rfl
      have := List.all_eq_true.1 hall t hm
      simpa using this
  have hvv : ∀ n ∈ Rows.fnOrderSpec.vars, ∀ g t, Tryd.prog.globalNamed n = some g → (Tryd.prog.globals[g]?).map (·.type) = some t → Tryd.prog.readableRec t = true ∧ t < Tryd.prog.types.size := by
      intro n hn g t hg ht
      simp only [Rows.fnOrderSpec, List.mem_cons, List.not_mem_nil, or_false] at hn
      rcases hn with rfl | rfl | rfl | rfl
      · exact gr_same g t hg ht
      · exact gr_one g t hg ht
      · exact gr_zero g t hg ht
      · exact gr_turns g t hg ht
  refine (fnOrder_walk Ac lenc capc W hbyc hGO hGZ hGT hGS).mono fun e W' ⟨he, hb⟩ => ?_
  subst he
  exact ⟨_, rfl, post_true hW' hb (by kernel_rfl) hp hvv rfl rfl rfl⟩
/-- A world for the witness: the settled one, the listed variables holding what their initialisers lay. -/
noncomputable def laidWorld (os : Os) : World := { World.holding Tryd.prog os ⟨#[], #[], []⟩ with heap := (((((World.holding Tryd.prog os ⟨#[], #[], []⟩).heap.modify 1 fun | .cells _ t frozen => .cells #[.int .i64 0, .int .i64 0, .int .i64 1] t frozen | o => o).modify 2 fun | .cells _ t frozen => .cells #[.int .i64 1, .int .i64 0, .int .i64 1] t frozen | o => o).modify 3 fun | .cells _ t frozen => .cells #[.int .i64 1, .int .i64 0, .int .i64 1, .int .i64 0, .int .i64 1, .int .i64 1, .int .i64 (-1), .int .i64 0, .int .i64 1, .int .i64 0, .int .i64 (-1), .int .i64 1] t frozen | o => o).modify 0 fun | .cells _ t frozen => .cells #[.int .i64 1, .int .i64 0, .int .i64 1, .int .i64 0, .int .i64 0, .int .i64 1, .int .i64 0, .int .i64 0, .int .i64 1, .int .i64 1, .int .i64 0, .int .i64 1] t frozen | o => o) }
theorem laid_met (os : Os) : laidMet Tryd.prog Rows.fnOrderRow.laid ((laidWorld os).forCall (fun _ _ => 0) ⟨#[], #[.slice none 0 0], []⟩).memory :=
  laidMet_of_run' 8 (by kernel_rfl) (by kernel_rfl)
theorem reads (os : Os) {H : Type} (enc : TypeId × Value → H) : DataW.whole enc Tryd.prog ((laidWorld os).forCall (fun _ _ => 0) ⟨#[], #[.slice none 0 0], []⟩).memory Tryd.f5.params.toList Rows.fnOrderSpec.vars false (#[.slice none 0 0] : Array Value).toList 8 = some ([.nil], [.agg [.agg [.agg [.lit (.int .i64 1), .lit (.int .i64 0), .lit (.int .i64 1)], .agg [.lit (.int .i64 0), .lit (.int .i64 0), .lit (.int .i64 1)], .agg [.lit (.int .i64 0), .lit (.int .i64 0), .lit (.int .i64 1)], .agg [.lit (.int .i64 1), .lit (.int .i64 0), .lit (.int .i64 1)]]], .agg [.lit (.int .i64 1), .lit (.int .i64 0), .lit (.int .i64 1)], .agg [.lit (.int .i64 0), .lit (.int .i64 0), .lit (.int .i64 1)], .agg [.agg [.lit (.int .i64 1), .lit (.int .i64 0), .lit (.int .i64 1)], .agg [.lit (.int .i64 0), .lit (.int .i64 1), .lit (.int .i64 1)], .agg [.lit (.int .i64 (-1)), .lit (.int .i64 0), .lit (.int .i64 1)], .agg [.lit (.int .i64 0), .lit (.int .i64 (-1)), .lit (.int .i64 1)]]], [.cell 0 0, .cell 0 1, .cell 0 2, .cell 0 3, .cell 0 4, .cell 0 5, .cell 0 6, .cell 0 7, .cell 0 8, .cell 0 9, .cell 0 10, .cell 0 11, .cell 2 0, .cell 2 1, .cell 2 2, .cell 1 0, .cell 1 1, .cell 1 2, .cell 3 0, .cell 3 1, .cell 3 2, .cell 3 3, .cell 3 4, .cell 3 5, .cell 3 6, .cell 3 7, .cell 3 8, .cell 3 9, .cell 3 10, .cell 3 11]) := by kernel_rfl
set_option maxRecDepth 100000 in
theorem lifted (os : Os) (started : os.Started) (H : Type) (enc : TypeId × Value → H) (F : Stop.Interp) :
    ReturnsInHanded {} Tryd.checked os 5 .any ((OpenSpec.ofChange Rows.fnOrderSpec).preRow enc Tryd.prog Tryd.f5 Rows.fnOrderRow.domain false Rows.fnOrderRow.laid) (((OpenSpec.ofChange Rows.fnOrderSpec).at F).post enc Tryd.prog Tryd.f5 false true false false) := by
  refine returnsInHanded_of_row (C := Tryd.checked) (s := OpenSpec.ofChange Rows.fnOrderSpec) own started (by kernel_rfl) Tryd.func5
    (witness_row_at (enc := enc) (C := Tryd.checked) false (laidWorld os) #[.slice none 0 0] rfl (by kernel_rfl) (by kernel_rfl) (by kernel_rfl)
      (OpenSpec.preRow_of_cond 8 (reads os enc) (by kernel_rfl) (fun k hk => by cases hk) (by kernel_rfl) (laid_met os))) ?_
  intro W base args ds gs before hval hW _ _ _ hL _ _
  exact contract H enc W base args ds gs before hval hW hL
theorem said : Rows.FnOrderSaid :=
  OpenClaim.holds_of_cond 5 Tryd.f5 rfl rfl rfl rfl rfl rfl rfl ⟨rfl, rfl, rfl, rfl, rfl⟩ rfl rfl rfl rfl rfl (by kernel_rfl) Tryd.func5 (by kernel_rfl)
    (of_decide_eq_true (by kernel_rfl)) (by unfold Func.isWrapper; first | (rw [if_pos (by decide +kernel)]; kernel_rfl) | (rw [if_neg (by decide +kernel)]; exact ⟨rfl, rfl⟩))
    (fun os started H enc _ F => by rw [OpenClaim.pre_eq_preRow]; exact lifted os started H enc F)
theorem plain (f : FuncId) (fn : Func) (hf : Tryd.pinned.checked.prog.funcNamed "loop.example/polarisedlight/laws.FnOrder" = some f) (hfn : Tryd.pinned.checked.prog.funcs[f]? = some fn) :
    false = Tryd.pinned.checked.prog.looks [] ∧ ∀ (j : Nat) t, fn.params[j]? = some t → Tryd.pinned.checked.prog.wantsStandIn t = false := by
  obtain rfl : f = 5 := Option.some.inj ((show Tryd.prog.funcNamed "loop.example/polarisedlight/laws.FnOrder" = some 5 by kernel_rfl).symm.trans hf) |>.symm
  obtain rfl : fn = Tryd.f5 := (Option.some.inj (Tryd.func5.symm.trans hfn)).symm
  refine ⟨by kernel_rfl, fun j t ht => ?_⟩
  rw [Tryd.params5] at ht
  have hm : t ∈ [40] := by simpa using Array.mem_of_getElem? ht
  have hall : ([40].all fun u => !Tryd.prog.wantsStandIn u) = true := by kernel_rfl
  exact (show Tryd.prog.wantsStandIn t = false by simpa using List.all_eq_true.1 hall t hm)
/-- The card of the law: its row holds, and what it lists is tied to the program's text. -/
theorem card : Rows.FnOrderCardSaid :=
  Claim7.holds_tied_plain_at .later [] _ _ _ _ said (fun _ h => by cases h) (by kernel_rfl) (fun _ h => by cases h) fnOrder_row_tie rfl ⟨rfl, rfl⟩ (by kernel_rfl) rfl plain (by kernel_rfl)
end fnOrder
end Go.Proofs.YtiagnnmnaakmoaaDoor
