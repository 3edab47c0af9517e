/-
  The walks of JonesTimes by i, and of FibreStays of both.
-/
import Derived.Test.YtiagnnmnaakmoaaDoorHf
namespace Go.Proofs.YtiagnnmnaakmoaaDoor
set_option linter.unusedSimpArgs false
set_option linter.unusedVariables false
open Go.RowKit
attribute [local go_sem ↓] Go.wp_at_zero Go.wp_at_succ
/-- The vector, i, the result's place and the reckoning. -/
structure TJ (w : World) (a : Jn) (W : World) : Prop where
  ja : JnAt W w.heap.size a
  c : FrAt W (w.heap.size + 1) ⟨0, 1, 1⟩
  r : JnF W (w.heap.size + 1 + 1) zJ
  s : SumIs W (w.heap.size + 1 + 1 + 1) false
  B : Below w.heap.size w W
section
variable {w W w1 : World} {a : Jn}
theorem TJ.alloc (h : TJ w a W) (o : Obj) : TJ w a (W.alloc o) := ⟨h.ja.alloc o, h.c.alloc o, h.r.alloc o, h.s.alloc o, h.B.alloc h.B.size o⟩
theorem TJ.drew (h : TJ w a W) : TJ w a W.drew := ⟨h.ja, h.c, h.r, h.s.drew, h.B.drew⟩
theorem TJ.drewN (h : TJ w a W) (n : Nat) : TJ w a (W.drewN n) := ⟨h.ja, h.c, h.r, h.s.drewN n, below_drewN h.B n⟩
/-- The vector and i. -/
def TS (w : World) (a : Jn) (W : World) : Prop := JnAt W w.heap.size a ∧ FrAt W (w.heap.size + 1) ⟨0, 1, 1⟩
theorem TS.of (h : TJ w a W) : TS w a W := ⟨h.ja, h.c⟩
theorem TS.alloc (h : TS w a W) (o : Obj) : TS w a (W.alloc o) := ⟨h.1.alloc o, h.2.alloc o⟩
theorem TS.drew (h : TS w a W) : TS w a W.drew := h
theorem TS.drewN (h : TS w a W) (n : Nat) : TS w a (W.drewN n) := h
theorem TS.set (h : TS w a W) {p : Addr} (hp : w.heap.size + 1 < p.block) (u : Value) : TS w a (W.setCell p u) := ⟨h.1.far (by omega) u, h.2.far (by omega) u⟩
theorem TS.cells (h : TS w a W) : W.cell? ⟨w.heap.size, 0, none⟩ = some (.int .i64 a.x.re) ∧ W.cell? ⟨w.heap.size, 1, none⟩ = some (.int .i64 a.x.im) ∧ W.cell? ⟨w.heap.size, 2, none⟩ = some (.int .i64 a.x.den) ∧ W.cell? ⟨w.heap.size, 3, none⟩ = some (.int .i64 a.y.re) ∧ W.cell? ⟨w.heap.size, 4, none⟩ = some (.int .i64 a.y.im) ∧ W.cell? ⟨w.heap.size, 5, none⟩ = some (.int .i64 a.y.den) ∧ W.cell? ⟨w.heap.size + 1, 0, none⟩ = some (.int .i64 0) ∧ W.cell? ⟨w.heap.size + 1, 1, none⟩ = some (.int .i64 1) ∧ W.cell? ⟨w.heap.size + 1, 2, none⟩ = some (.int .i64 1) := ⟨h.1.1, h.1.2.1, h.1.2.2.1, h.1.2.2.2.1, h.1.2.2.2.2.1, h.1.2.2.2.2.2, h.2⟩
theorem TJ.below (h : TJ w a W) (hb : Below W.heap.size W w1) : TJ w a w1 :=
  ⟨h.ja.below hb h.ja.lt, h.c.below hb h.c.lt, h.r.below hb h.r.1.lt, h.s.below hb h.s.lt, bstep h.B hb h.B.size⟩
theorem tj_times (w : World) (a : Jn) (x : Fr) (hx : Hid (timesI x ⟨0, 1, 1⟩ = some (jF x))) (W : World) (h : TJ w a W) :
    Calls Tryd.prog 46 #[.pointer (some ⟨w.heap.size + 1 + 1 + 1, 0, none⟩), frv x, frv ⟨0, 1, 1⟩] W fun e w' => e = .returned (frv (jF x)) ∧ TJ w a w' := by
  refine (x_times x ⟨0, 1, 1⟩ (w.heap.size + 1 + 1 + 1) W (SumEx.of h.s)).mono ?_
  rintro e1 w1 ⟨rfl, hu, hb⟩
  have hs := hu _ h.s
  rw [hx.out] at hs
  have hlt := h.s.lt
  exact ⟨by rw [hx.out]; rfl, ⟨h.ja.belX hb (by omega) (by omega), h.c.same (fun o => World.cell?_of_block (w := W) (hb.block (w.heap.size + 1) (by omega) (by omega))), h.r.belX hb (by omega) (by omega), hs, (BelX.step (BelX.of h.B) hb h.B.size).below (by omega)⟩⟩
theorem tj_got (w : World) (a b : Jn) (W : World) (h : TJ w a W) :
    Calls Tryd.prog 47 #[.pointer (some ⟨w.heap.size + 1 + 1 + 1, 0, none⟩), jnv b] W fun e w' => e = .returned (.tuple #[jnv b, .bool true]) ∧ TJ w a w' := by
  refine (got_jones b (w.heap.size + 1 + 1 + 1) W (SumEx.of h.s)).mono ?_
  rintro e1 w1 ⟨c, hc, rfl, hb⟩
  obtain rfl := hc.uniq h.s
  exact ⟨rfl, h.below hb⟩
end
set_option maxRecDepth 100000 in
set_option maxHeartbeats 4000000 in
theorem jtimes_any (a : Jn) (w : World) (ha : jvalid a = true) :
    Calls Tryd.prog 21 #[jnv a, frv ⟨0, 1, 1⟩] w fun e w' => e = .returned (.tuple #[jnv (jJ a), .bool true]) ∧ Below w.heap.size w w' := by
  have HX : Hid (timesI a.x ⟨0, 1, 1⟩ = some (jF a.x)) := Lib.hid (times_j (by simp only [jvalid, Bool.and_eq_true] at ha; exact ha.1))
  have HY : Hid (timesI a.y ⟨0, 1, 1⟩ = some (jF a.y)) := Lib.hid (times_j (by simp only [jvalid, Bool.and_eq_true] at ha; exact ha.2))
  have HA := Lib.hid ha
  have HI : fvalid ⟨0, 1, 1⟩ = true := by decide
  have HI := Lib.hid HI
  clear ha
  go_enter Tryd.func21, Tryd.ntmps21
  go_upto_region 2 with (first | (go_at_call 43; (with_reducible refine (jvalid_t a _ HA.out).mono ?_); rintro e w1 ⟨rfl, hb⟩; obtain ⟨hc, hf⟩ := bf hb (w.heap.size + 1 + 1 + 1 + 1) side_; have hs := hb.size; (try simp only [World.size_alloc, World.size_setCell, World.size_drew, World.heap_drewN] at hs); have hl : w.heap.size ≤ w1.heap.size ∧ w.heap.size < w1.heap.size ∧ w.heap.size + 1 < w1.heap.size ∧ w.heap.size + 1 + 1 < w1.heap.size ∧ w.heap.size + 1 + 1 + 1 < w1.heap.size := ⟨by omega, by omega, by omega, by omega, by omega⟩; have hB : Below w.heap.size w w1 := bstep (by exact below_) hb side_; have hs1 : SumIs w1 (w.heap.size + 1 + 1 + 1) _ := SumIs.below (by exact sum_) hb side_; have hcs1 := hs1.cell; have hfs1 := hs1.frozen; clear hs hb) | (go_at_call 48; (with_reducible refine (fvalid_t ⟨0, 1, 1⟩ _ HI.out).mono ?_); rintro e w1 ⟨rfl, hb⟩; obtain ⟨hc, hf⟩ := bf hb (w.heap.size + 1 + 1 + 1 + 1) side_; have hs := hb.size; (try simp only [World.size_alloc, World.size_setCell, World.size_drew, World.heap_drewN] at hs); have hl : w.heap.size ≤ w1.heap.size ∧ w.heap.size < w1.heap.size ∧ w.heap.size + 1 < w1.heap.size ∧ w.heap.size + 1 + 1 < w1.heap.size ∧ w.heap.size + 1 + 1 + 1 < w1.heap.size := ⟨by omega, by omega, by omega, by omega, by omega⟩; have hB : Below w.heap.size w w1 := bstep (by exact below_) hb side_; have hs1 : SumIs w1 (w.heap.size + 1 + 1 + 1) _ := SumIs.below (by exact sum_) hb side_; have hcs1 := hs1.cell; have hfs1 := hs1.frozen; clear hs hb) | (go_at_call 41; (with_reducible refine (x_need true (w.heap.size + 1 + 1 + 1) _ (by exact sum_)).mono ?_); rintro e w1 ⟨rfl, hu, hx⟩; have hs1 := hu _ (by exact sum_); clear hu; obtain ⟨hc, hf⟩ := bfxL hx side_; obtain ⟨hc3, hf3⟩ := bfxU hx (w.heap.size + 1 + 1 + 1 + 1) side_; have hs2 := hx.size; (try simp only [World.size_alloc, World.size_setCell, World.size_drew, World.heap_drewN] at hs2); have hl : w.heap.size ≤ w1.heap.size ∧ w.heap.size < w1.heap.size ∧ w.heap.size + 1 < w1.heap.size ∧ w.heap.size + 1 + 1 < w1.heap.size ∧ w.heap.size + 1 + 1 + 1 < w1.heap.size := ⟨by omega, by omega, by omega, by omega, by omega⟩; have hcs1 := hs1.cell; have hfs1 := hs1.frozen; have hB : Below w.heap.size w w1 := (BelX.step (BelX.of (by exact below_)) hx side_).below side_; clear hs2 hx))
  have hD : TJ w a w1 := ⟨by refine ⟨?_, ?_, ?_, ?_, ?_, ?_⟩ <;> simp [go_sem, *], by refine ⟨?_, ?_, ?_⟩ <;> simp [go_sem, *], ⟨by refine ⟨?_, ?_, ?_, ?_, ?_, ?_⟩ <;> simp [zJ, go_sem, *], fun o => by simp [go_sem, *]⟩, hs1, by exact below_⟩
  clear hB hs1 hc hf hcs1 hfs1
  repeat (rename ∀ (_ _ : Nat), _ → _ => h; clear h)
  go_region_held3 (fun w' => w'.cell? ⟨w.heap.size, 0, none⟩ = some (.int .i64 a.x.re) ∧ w'.cell? ⟨w.heap.size, 1, none⟩ = some (.int .i64 a.x.im) ∧ w'.cell? ⟨w.heap.size, 2, none⟩ = some (.int .i64 a.x.den) ∧ w'.cell? ⟨w.heap.size, 3, none⟩ = some (.int .i64 a.y.re) ∧ w'.cell? ⟨w.heap.size, 4, none⟩ = some (.int .i64 a.y.im) ∧ w'.cell? ⟨w.heap.size, 5, none⟩ = some (.int .i64 a.y.den) ∧ w'.cell? ⟨w.heap.size + 1, 0, none⟩ = some (.int .i64 0) ∧ w'.cell? ⟨w.heap.size + 1, 1, none⟩ = some (.int .i64 1) ∧ w'.cell? ⟨w.heap.size + 1, 2, none⟩ = some (.int .i64 1)) ((refine TS.cells ?_; (repeat' (first | (with_reducible exact TS.of (by assumption)) | (with_reducible apply TS.alloc) | (with_reducible apply TS.drewN) | (with_reducible apply TS.drew) | ((with_reducible refine TS.set ?_ ?_ _) <;> (first | omega | (simp; done) | (simp; omega) | skip)))))) (first | (go_at_call 46; (with_reducible refine (tj_times w a a.x HX _ (by (repeat' (first | (with_reducible assumption) | (with_reducible apply TJ.alloc) | (with_reducible apply TJ.drewN) | (with_reducible apply TJ.drew))))).mono ?_); rintro e wd ⟨rfl, hD⟩; have hB := hD.B; have hl := hD.s.lt) | (go_at_call 46; (with_reducible refine (tj_times w a a.y HY _ (by (repeat' (first | (with_reducible assumption) | (with_reducible apply TJ.alloc) | (with_reducible apply TJ.drewN) | (with_reducible apply TJ.drew))))).mono ?_); rintro e wd ⟨rfl, hD⟩; have hB := hD.B; have hl := hD.s.lt) | (go_at_call 47; (with_reducible refine (tj_got w a ⟨_, _⟩ _ (by (repeat' (first | (with_reducible assumption) | (with_reducible apply TJ.alloc) | (with_reducible apply TJ.drewN) | (with_reducible apply TJ.drew))))).mono ?_); rintro e wd ⟨rfl, hD⟩; have hB := hD.B; have hl := hD.s.lt; obtain ⟨⟨r0, r1, r2, r3, r4, r5⟩, rf⟩ := hD.r; unfold FreeB at rf))
  all_goals (go_wp2; refine bodyPost_ret (v := .tuple #[jnv (jJ a), .bool true]) (by simp [results, Tryd.results21, jJ, go_sem, *]) rfl ⟨rfl, by exact below_⟩)
theorem run_valid {xs : List Sec} {v u : Jn} (h : fibRunI xs v = some u) : jvalid v = true ∧ jvalid u = true := by
  obtain ⟨m, hm, ha⟩ := run_parts h
  have hv := apply_valid ha
  obtain ⟨x, e, hr⟩ := rv_of hv
  exact ⟨hv, (rv_apply (fib_rc hm) hr ha).valid⟩
theorem dark_o (a : Jn) (b : Bool) (w : World) (hZ : GZ w) (h : Hid (jdark a = b)) : Calls Tryd.prog 28 #[jnv a] w fun e w' => e = .returned (.bool b) ∧ Below w.heap.size w w' := by
  rw [← h.out]; exact dark_any a w hZ
theorem ldark_o (a : Jn) (b : Bool) (w : World) (ha : Hid (jvalid a = true)) (h : Hid (jdark a = b)) : Calls Tryd.prog 24 #[jnv a] w fun e w' => e = .returned (.bool b) ∧ Below w.heap.size w w' := by
  rw [← h.out, ← ldark_eq a ha.out]; exact ldark_any a w
set_option maxRecDepth 100000 in
set_option maxHeartbeats 4000000 in
theorem stays_any (A : Option Addr) (len cap : Nat) (xs : List Sec) (v : Jn) (w : World) (h : Secs A len cap xs w) (hO : GO w) (hZ : GZ w) (hT : GT w) (hS : GS w) :
    Calls Tryd.prog 11 #[.slice A len cap, jnv v] w fun e w' => e = .returned (.bool (fibStaysI xs v)) ∧ Below w.heap.size w w' := by
  have hV : ∀ w1, Below w.heap.size w w1 → Secs A len cap xs w1 := fun w1 hb => h.below hb
  cases hx : fibRunI xs v with
  | none =>
    rw [show fibStaysI xs v = false by simp [fibStaysI, hx]]
    have HC := Lib.hid (show jnb (fibRunI xs v) = .tuple #[jnv ⟨⟨0, 0, 0⟩, ⟨0, 0, 0⟩⟩, .bool false] by rw [hx]; rfl)
    clear hx
    go_enter Tryd.func11, Tryd.ntmps11
    go_wp2_with (first | (go_at_call 22; (with_reducible refine (fibRun_m A len cap xs v ⟨⟨0, 0, 0⟩, ⟨0, 0, 0⟩⟩ false _ (hV _ (by exact below_)) (hO.below (by exact below_)) (hZ.below (by exact below_)) (hT.below (by exact below_)) (hS.below (by exact below_)) HC.out).mono ?_); rintro e w1 ⟨rfl, hb⟩; obtain ⟨hc, hf⟩ := bf hb (w.heap.size + 1) side_; have hs := hb.size; (try simp only [World.size_alloc, World.size_setCell, World.size_drew, World.heap_drewN] at hs); have hl : w.heap.size ≤ w1.heap.size ∧ w.heap.size < w1.heap.size := ⟨by omega, by omega⟩; obtain ⟨B, hBe, hBl, hc2, hf2⟩ := bfA hb; (try simp only [World.size_alloc, World.size_setCell, World.size_drew, World.heap_drewN] at hBe); have hB : Below w.heap.size w w1 := bstep (by exact below_) hb side_; clear hs hb))
    go_ret
    exact ⟨rfl, by exact below_⟩
  | some u =>
    obtain ⟨h1, h2⟩ := run_valid hx
    have HV := Lib.hid h1
    have HU := Lib.hid h2
    have HC := Lib.hid (show jnb (fibRunI xs v) = .tuple #[jnv u, .bool true] by rw [hx]; rfl)
    cases hd : jdark v
    · rw [show fibStaysI xs v = jalikeI v u by simp [fibStaysI, hx, hd]]
      have HD := Lib.hid hd
      clear hx h1 h2 hd
      go_enter Tryd.func11, Tryd.ntmps11
      go_wp2_with (first | (go_at_call 22; (with_reducible refine (fibRun_m A len cap xs v u true _ (hV _ (by exact below_)) (hO.below (by exact below_)) (hZ.below (by exact below_)) (hT.below (by exact below_)) (hS.below (by exact below_)) HC.out).mono ?_); rintro e w1 ⟨rfl, hb⟩; obtain ⟨hc, hf⟩ := bf hb (w.heap.size + 1) side_; have hs := hb.size; (try simp only [World.size_alloc, World.size_setCell, World.size_drew, World.heap_drewN] at hs); have hl : w.heap.size ≤ w1.heap.size ∧ w.heap.size < w1.heap.size := ⟨by omega, by omega⟩; obtain ⟨B, hBe, hBl, hc2, hf2⟩ := bfA hb; (try simp only [World.size_alloc, World.size_setCell, World.size_drew, World.heap_drewN] at hBe); have hB : Below w.heap.size w w1 := bstep (by exact below_) hb side_; clear hs hb) | (go_at_call 28; (with_reducible refine (dark_o v false _ (hZ.below (by exact below_)) HD).mono ?_); rintro e w1 ⟨rfl, hb⟩; obtain ⟨hc, hf⟩ := bf hb (w.heap.size + 1) side_; have hs := hb.size; (try simp only [World.size_alloc, World.size_setCell, World.size_drew, World.heap_drewN] at hs); have hl : w.heap.size ≤ w1.heap.size ∧ w.heap.size < w1.heap.size := ⟨by omega, by omega⟩; obtain ⟨B, hBe, hBl, hc2, hf2⟩ := bfA hb; (try simp only [World.size_alloc, World.size_setCell, World.size_drew, World.heap_drewN] at hBe); have hB : Below w.heap.size w w1 := bstep (by exact below_) hb side_; clear hs hb) | (go_at_call 19; (with_reducible refine (jalike_v v u _ HV.out HU.out (hZ.below (by exact below_))).mono ?_); rintro e w1 ⟨rfl, hb⟩; obtain ⟨hc, hf⟩ := bf hb (w.heap.size + 1) side_; have hs := hb.size; (try simp only [World.size_alloc, World.size_setCell, World.size_drew, World.heap_drewN] at hs); have hl : w.heap.size ≤ w1.heap.size ∧ w.heap.size < w1.heap.size := ⟨by omega, by omega⟩; obtain ⟨B, hBe, hBl, hc2, hf2⟩ := bfA hb; (try simp only [World.size_alloc, World.size_setCell, World.size_drew, World.heap_drewN] at hBe); have hB : Below w.heap.size w w1 := bstep (by exact below_) hb side_; clear hs hb))
      go_ret
      exact ⟨rfl, by exact below_⟩
    · rw [show fibStaysI xs v = false by simp [fibStaysI, hx, hd]]
      have HD := Lib.hid hd
      clear hx h1 h2 hd
      go_enter Tryd.func11, Tryd.ntmps11
      go_wp2_with (first | (go_at_call 22; (with_reducible refine (fibRun_m A len cap xs v u true _ (hV _ (by exact below_)) (hO.below (by exact below_)) (hZ.below (by exact below_)) (hT.below (by exact below_)) (hS.below (by exact below_)) HC.out).mono ?_); rintro e w1 ⟨rfl, hb⟩; obtain ⟨hc, hf⟩ := bf hb (w.heap.size + 1) side_; have hs := hb.size; (try simp only [World.size_alloc, World.size_setCell, World.size_drew, World.heap_drewN] at hs); have hl : w.heap.size ≤ w1.heap.size ∧ w.heap.size < w1.heap.size := ⟨by omega, by omega⟩; obtain ⟨B, hBe, hBl, hc2, hf2⟩ := bfA hb; (try simp only [World.size_alloc, World.size_setCell, World.size_drew, World.heap_drewN] at hBe); have hB : Below w.heap.size w w1 := bstep (by exact below_) hb side_; clear hs hb) | (go_at_call 28; (with_reducible refine (dark_o v true _ (hZ.below (by exact below_)) HD).mono ?_); rintro e w1 ⟨rfl, hb⟩; obtain ⟨hc, hf⟩ := bf hb (w.heap.size + 1) side_; have hs := hb.size; (try simp only [World.size_alloc, World.size_setCell, World.size_drew, World.heap_drewN] at hs); have hl : w.heap.size ≤ w1.heap.size ∧ w.heap.size < w1.heap.size := ⟨by omega, by omega⟩; obtain ⟨B, hBe, hBl, hc2, hf2⟩ := bfA hb; (try simp only [World.size_alloc, World.size_setCell, World.size_drew, World.heap_drewN] at hBe); have hB : Below w.heap.size w w1 := bstep (by exact below_) hb side_; clear hs hb))
      go_ret
      exact ⟨rfl, by exact below_⟩
set_option maxRecDepth 100000 in
set_option maxHeartbeats 4000000 in
theorem sstays_any (A : Option Addr) (len cap : Nat) (xs : List Sec) (v : Jn) (w : World) (h : Secs A len cap xs w) :
    Calls Tryd.prog 8 #[.slice A len cap, jnv v] w fun e w' => e = .returned (.bool (fibStaysI xs v)) ∧ Below w.heap.size w w' := by
  have hV : ∀ w1, Below w.heap.size w w1 → Secs A len cap xs w1 := fun w1 hb => h.below hb
  cases hx : fibRunI xs v with
  | none =>
    rw [show fibStaysI xs v = false by simp [fibStaysI, hx]]
    have HC := Lib.hid (show jnb (fibRunI xs v) = .tuple #[jnv ⟨⟨0, 0, 0⟩, ⟨0, 0, 0⟩⟩, .bool false] by rw [hx]; rfl)
    clear hx
    go_enter Tryd.func8, Tryd.ntmps8
    go_wp2_with (first | (go_at_call 23; (with_reducible refine (sfibRun_m A len cap xs v ⟨⟨0, 0, 0⟩, ⟨0, 0, 0⟩⟩ false _ (hV _ (by exact below_)) HC.out).mono ?_); rintro e w1 ⟨rfl, hb⟩; obtain ⟨hc, hf⟩ := bf hb (w.heap.size + 1) side_; have hs := hb.size; (try simp only [World.size_alloc, World.size_setCell, World.size_drew, World.heap_drewN] at hs); have hl : w.heap.size ≤ w1.heap.size ∧ w.heap.size < w1.heap.size := ⟨by omega, by omega⟩; obtain ⟨B, hBe, hBl, hc2, hf2⟩ := bfA hb; (try simp only [World.size_alloc, World.size_setCell, World.size_drew, World.heap_drewN] at hBe); have hB : Below w.heap.size w w1 := bstep (by exact below_) hb side_; clear hs hb))
    go_ret
    exact ⟨rfl, by exact below_⟩
  | some u =>
    obtain ⟨h1, h2⟩ := run_valid hx
    have HV := Lib.hid h1
    have HU := Lib.hid h2
    have HC := Lib.hid (show jnb (fibRunI xs v) = .tuple #[jnv u, .bool true] by rw [hx]; rfl)
    cases hd : jdark v
    · rw [show fibStaysI xs v = jalikeI v u by simp [fibStaysI, hx, hd]]
      have HD := Lib.hid hd
      clear hx h1 h2 hd
      go_enter Tryd.func8, Tryd.ntmps8
      go_wp2_with (first | (go_at_call 23; (with_reducible refine (sfibRun_m A len cap xs v u true _ (hV _ (by exact below_)) HC.out).mono ?_); rintro e w1 ⟨rfl, hb⟩; obtain ⟨hc, hf⟩ := bf hb (w.heap.size + 1) side_; have hs := hb.size; (try simp only [World.size_alloc, World.size_setCell, World.size_drew, World.heap_drewN] at hs); have hl : w.heap.size ≤ w1.heap.size ∧ w.heap.size < w1.heap.size := ⟨by omega, by omega⟩; obtain ⟨B, hBe, hBl, hc2, hf2⟩ := bfA hb; (try simp only [World.size_alloc, World.size_setCell, World.size_drew, World.heap_drewN] at hBe); have hB : Below w.heap.size w w1 := bstep (by exact below_) hb side_; clear hs hb) | (go_at_call 24; (with_reducible refine (ldark_o v false _ HV HD).mono ?_); rintro e w1 ⟨rfl, hb⟩; obtain ⟨hc, hf⟩ := bf hb (w.heap.size + 1) side_; have hs := hb.size; (try simp only [World.size_alloc, World.size_setCell, World.size_drew, World.heap_drewN] at hs); have hl : w.heap.size ≤ w1.heap.size ∧ w.heap.size < w1.heap.size := ⟨by omega, by omega⟩; obtain ⟨B, hBe, hBl, hc2, hf2⟩ := bfA hb; (try simp only [World.size_alloc, World.size_setCell, World.size_drew, World.heap_drewN] at hBe); have hB : Below w.heap.size w w1 := bstep (by exact below_) hb side_; clear hs hb) | (go_at_call 25; (with_reducible refine (sjalike_v v u _ HV.out HU.out).mono ?_); rintro e w1 ⟨rfl, hb⟩; obtain ⟨hc, hf⟩ := bf hb (w.heap.size + 1) side_; have hs := hb.size; (try simp only [World.size_alloc, World.size_setCell, World.size_drew, World.heap_drewN] at hs); have hl : w.heap.size ≤ w1.heap.size ∧ w.heap.size < w1.heap.size := ⟨by omega, by omega⟩; obtain ⟨B, hBe, hBl, hc2, hf2⟩ := bfA hb; (try simp only [World.size_alloc, World.size_setCell, World.size_drew, World.heap_drewN] at hBe); have hB : Below w.heap.size w w1 := bstep (by exact below_) hb side_; clear hs hb))
      go_ret
      exact ⟨rfl, by exact below_⟩
    · rw [show fibStaysI xs v = false by simp [fibStaysI, hx, hd]]
      have HD := Lib.hid hd
      clear hx h1 h2 hd
      go_enter Tryd.func8, Tryd.ntmps8
      go_wp2_with (first | (go_at_call 23; (with_reducible refine (sfibRun_m A len cap xs v u true _ (hV _ (by exact below_)) HC.out).mono ?_); rintro e w1 ⟨rfl, hb⟩; obtain ⟨hc, hf⟩ := bf hb (w.heap.size + 1) side_; have hs := hb.size; (try simp only [World.size_alloc, World.size_setCell, World.size_drew, World.heap_drewN] at hs); have hl : w.heap.size ≤ w1.heap.size ∧ w.heap.size < w1.heap.size := ⟨by omega, by omega⟩; obtain ⟨B, hBe, hBl, hc2, hf2⟩ := bfA hb; (try simp only [World.size_alloc, World.size_setCell, World.size_drew, World.heap_drewN] at hBe); have hB : Below w.heap.size w w1 := bstep (by exact below_) hb side_; clear hs hb) | (go_at_call 24; (with_reducible refine (ldark_o v true _ HV HD).mono ?_); rintro e w1 ⟨rfl, hb⟩; obtain ⟨hc, hf⟩ := bf hb (w.heap.size + 1) side_; have hs := hb.size; (try simp only [World.size_alloc, World.size_setCell, World.size_drew, World.heap_drewN] at hs); have hl : w.heap.size ≤ w1.heap.size ∧ w.heap.size < w1.heap.size := ⟨by omega, by omega⟩; obtain ⟨B, hBe, hBl, hc2, hf2⟩ := bfA hb; (try simp only [World.size_alloc, World.size_setCell, World.size_drew, World.heap_drewN] at hBe); have hB : Below w.heap.size w w1 := bstep (by exact below_) hb side_; clear hs hb))
      go_ret
      exact ⟨rfl, by exact below_⟩
theorem stays_m (A : Option Addr) (len cap : Nat) (xs : List Sec) (v : Jn) (b : Bool) (w : World) (h : Secs A len cap xs w) (hO : GO w) (hZ : GZ w) (hT : GT w) (hS : GS w) (e : Hid (fibStaysI xs v = b)) :
    Calls Tryd.prog 11 #[.slice A len cap, jnv v] w fun e w' => e = .returned (.bool b) ∧ Below w.heap.size w w' := by rw [← e.out]; exact stays_any A len cap xs v w h hO hZ hT hS
theorem sstays_m (A : Option Addr) (len cap : Nat) (xs : List Sec) (v : Jn) (b : Bool) (w : World) (h : Secs A len cap xs w) (e : Hid (fibStaysI xs v = b)) :
    Calls Tryd.prog 8 #[.slice A len cap, jnv v] w fun e w' => e = .returned (.bool b) ∧ Below w.heap.size w w' := by rw [← e.out]; exact sstays_any A len cap xs v w h
end Go.Proofs.YtiagnnmnaakmoaaDoor
