/-
  The walks of the reference's JonesAlike, of FibreStays of both, and of JonesTimes by i.
-/
import Derived.Test.YtiagnnmnaakmoaaDoorHe
import Derived.Test.YtiagnnmnaakmoaaDoorVp
import Derived.Test.YtiagnnmnaakmoaaDoorNa
import Derived.BigQuiet
namespace Go.Proofs.YtiagnnmnaakmoaaDoor
set_option linter.unusedSimpArgs false
set_option linter.unusedVariables false
open Go.RowKit
attribute [local go_sem ↓] Go.wp_at_zero Go.wp_at_succ
theorem JnAt.new' {w : World} {b : Nat} (hb : b = w.heap.size) (m : Jn) (t : TypeId) : JnAt (w.alloc (.cells #[.int .i64 m.x.re, .int .i64 m.x.im, .int .i64 m.x.den, .int .i64 m.y.re, .int .i64 m.y.im, .int .i64 m.y.den] t)) b m := by subst hb; exact JnAt.new w m t
/-- Both vectors and both products. -/
structure SQ (w : World) (a b : Jn) (p q : Fr) (bp bq : Nat) (W : World) : Prop where
  ja : JnAt W w.heap.size a
  jb : JnAt W (w.heap.size + 1) b
  p : FrAt W bp p
  q : FrAt W bq q
  B : Below w.heap.size w W
section
variable {w W w1 : World} {a b : Jn} {p q : Fr} {bp bq : Nat}
theorem SQ.alloc (h : SQ w a b p q bp bq W) (o : Obj) : SQ w a b p q bp bq (W.alloc o) := ⟨h.ja.alloc o, h.jb.alloc o, h.p.alloc o, h.q.alloc o, h.B.alloc h.B.size o⟩
theorem SQ.drew (h : SQ w a b p q bp bq W) : SQ w a b p q bp bq W.drew := ⟨h.ja, h.jb, h.p, h.q, h.B.drew⟩
theorem SQ.drewN (h : SQ w a b p q bp bq W) (n : Nat) : SQ w a b p q bp bq (W.drewN n) := ⟨h.ja, h.jb, h.p, h.q, below_drewN h.B n⟩
theorem SQ.below (h : SQ w a b p q bp bq W) (hb : Below W.heap.size W w1) : SQ w a b p q bp bq w1 :=
  ⟨h.ja.below hb h.ja.lt, h.jb.below hb h.jb.lt, h.p.below hb h.p.lt, h.q.below hb h.q.lt, bstep h.B hb h.B.size⟩
theorem SQ.cells (h : SQ w a b p q bp bq W) : W.cell? ⟨w.heap.size, 0, none⟩ = some (.int .i64 a.x.re) ∧ W.cell? ⟨w.heap.size, 1, none⟩ = some (.int .i64 a.x.im) ∧ W.cell? ⟨w.heap.size, 2, none⟩ = some (.int .i64 a.x.den) ∧ W.cell? ⟨w.heap.size, 3, none⟩ = some (.int .i64 a.y.re) ∧ W.cell? ⟨w.heap.size, 4, none⟩ = some (.int .i64 a.y.im) ∧ W.cell? ⟨w.heap.size, 5, none⟩ = some (.int .i64 a.y.den) ∧ W.cell? ⟨w.heap.size + 1, 0, none⟩ = some (.int .i64 b.x.re) ∧ W.cell? ⟨w.heap.size + 1, 1, none⟩ = some (.int .i64 b.x.im) ∧ W.cell? ⟨w.heap.size + 1, 2, none⟩ = some (.int .i64 b.x.den) ∧ W.cell? ⟨w.heap.size + 1, 3, none⟩ = some (.int .i64 b.y.re) ∧ W.cell? ⟨w.heap.size + 1, 4, none⟩ = some (.int .i64 b.y.im) ∧ W.cell? ⟨w.heap.size + 1, 5, none⟩ = some (.int .i64 b.y.den) ∧ W.cell? ⟨bp, 0, none⟩ = some (.int .i64 p.re) ∧ W.cell? ⟨bp, 1, none⟩ = some (.int .i64 p.im) ∧ W.cell? ⟨bp, 2, none⟩ = some (.int .i64 p.den) ∧ W.cell? ⟨bq, 0, none⟩ = some (.int .i64 q.re) ∧ W.cell? ⟨bq, 1, none⟩ = some (.int .i64 q.im) ∧ W.cell? ⟨bq, 2, none⟩ = some (.int .i64 q.den) :=
  ⟨h.ja.1, h.ja.2.1, h.ja.2.2.1, h.ja.2.2.2.1, h.ja.2.2.2.2.1, h.ja.2.2.2.2.2, h.jb.1, h.jb.2.1, h.jb.2.2.1, h.jb.2.2.2.1, h.jb.2.2.2.2.1, h.jb.2.2.2.2.2, h.p.1, h.p.2.1, h.p.2.2, h.q⟩
theorem sv_any (w : World) (a b : Jn) (p q : Fr) (bp bq : Nat) (v : Jn) (hv : Hid (jvalid v = true)) (W : World) (h : SQ w a b p q bp bq W) :
    Calls Tryd.prog 55 #[jnv v] W fun e w' => e = .returned (.bool true) ∧ SQ w a b p q bp bq w' :=
  (sjvalid_t v W hv.out).mono fun _ _ ⟨h1, h2⟩ => ⟨h1, h.below h2⟩
theorem ld_any (w : World) (a b : Jn) (p q : Fr) (bp bq : Nat) (v : Jn) (hv : Hid (ldark v = jdark v)) (W : World) (h : SQ w a b p q bp bq W) :
    Calls Tryd.prog 24 #[jnv v] W fun e w' => e = .returned (.bool (jdark v)) ∧ SQ w a b p q bp bq w' :=
  (ldark_any v W).mono fun _ _ ⟨h1, h2⟩ => ⟨by rw [← hv.out]; exact h1, h.below h2⟩
end
set_option maxRecDepth 100000 in
set_option maxHeartbeats 4000000 in
theorem sjalike_v (a b : Jn) (w : World) (ha : jvalid a = true) (hb : jvalid b = true) :
    Calls Tryd.prog 25 #[jnv a, jnv b] w fun e w' => e = .returned (.bool (jalikeI a b)) ∧ Below w.heap.size w w' := by
  have hda := ldark_eq a ha
  have hdb := ldark_eq b hb
  have HDA := Lib.hid hda
  have HDB := Lib.hid hdb
  have HA := Lib.hid ha
  have HB := Lib.hid hb
  clear hda hdb
  cases hP : timesI a.x b.y with
  | none =>
    rw [show jalikeI a b = false by simp [jalikeI, hP]]
    have HP := Lib.hid hP
    clear hP ha hb
    go_enter Tryd.func25, Tryd.ntmps25
    go_wp2_with (first | (go_at_call 54; (with_reducible refine (stimes_o a.x b.y none _ HP.out).mono ?_); rintro e w1 ⟨rfl, hb⟩; obtain ⟨hc, hf⟩ := bf hb (w.heap.size + 1 + 1) side_; have hs := hb.size; (try simp only [World.size_alloc, World.size_setCell, World.size_drew, World.heap_drewN] at hs); have hl : w.heap.size ≤ w1.heap.size ∧ w.heap.size < w1.heap.size ∧ w.heap.size + 1 < w1.heap.size := ⟨by omega, by omega, by omega⟩; obtain ⟨B, hBe, hBl, hc2, hf2⟩ := bfA hb; (try simp only [World.size_alloc, World.size_setCell, World.size_drew, World.heap_drewN] at hBe); have hB : Below w.heap.size w w1 := bstep (by exact below_) hb side_; clear hs hb) | (go_at_call 54; (with_reducible refine (stimes_any a.y b.x _).mono ?_); rintro e w1 ⟨rfl, hb⟩; obtain ⟨hc, hf⟩ := bf hb (w.heap.size + 1 + 1) side_; have hs := hb.size; (try simp only [World.size_alloc, World.size_setCell, World.size_drew, World.heap_drewN] at hs); have hl : w.heap.size ≤ w1.heap.size ∧ w.heap.size < w1.heap.size ∧ w.heap.size + 1 < w1.heap.size := ⟨by omega, by omega, by omega⟩; obtain ⟨B, hBe, hBl, hc2, hf2⟩ := bfA hb; (try simp only [World.size_alloc, World.size_setCell, World.size_drew, World.heap_drewN] at hBe); have hB : Below w.heap.size w w1 := bstep (by exact below_) hb side_; clear hs hb))
    go_quiet (fail)
    go_wp2
    go_ret
    exact ⟨rfl, by exact below_⟩
  | some p =>
    cases hQ : timesI a.y b.x with
    | none =>
      rw [show jalikeI a b = false by simp [jalikeI, hQ]]
      have HP := Lib.hid hP
      have HQ := Lib.hid hQ
      clear hP hQ ha hb
      go_enter Tryd.func25, Tryd.ntmps25
      go_wp2_with (first | (go_at_call 54; (with_reducible refine (stimes_o a.x b.y (some p) _ HP.out).mono ?_); rintro e w1 ⟨rfl, hb⟩; obtain ⟨hc, hf⟩ := bf hb (w.heap.size + 1 + 1) side_; have hs := hb.size; (try simp only [World.size_alloc, World.size_setCell, World.size_drew, World.heap_drewN] at hs); have hl : w.heap.size ≤ w1.heap.size ∧ w.heap.size < w1.heap.size ∧ w.heap.size + 1 < w1.heap.size := ⟨by omega, by omega, by omega⟩; obtain ⟨B, hBe, hBl, hc2, hf2⟩ := bfA hb; (try simp only [World.size_alloc, World.size_setCell, World.size_drew, World.heap_drewN] at hBe); have hB : Below w.heap.size w w1 := bstep (by exact below_) hb side_; clear hs hb) | (go_at_call 54; (with_reducible refine (stimes_o a.y b.x none _ HQ.out).mono ?_); rintro e w1 ⟨rfl, hb⟩; obtain ⟨hc, hf⟩ := bf hb (w.heap.size + 1 + 1) side_; have hs := hb.size; (try simp only [World.size_alloc, World.size_setCell, World.size_drew, World.heap_drewN] at hs); have hl : w.heap.size ≤ w1.heap.size ∧ w.heap.size < w1.heap.size ∧ w.heap.size + 1 < w1.heap.size := ⟨by omega, by omega, by omega⟩; obtain ⟨B, hBe, hBl, hc2, hf2⟩ := bfA hb; (try simp only [World.size_alloc, World.size_setCell, World.size_drew, World.heap_drewN] at hBe); have hB : Below w.heap.size w w1 := bstep (by exact below_) hb side_; clear hs hb))
      go_quiet (fail)
      go_wp2
      go_ret
      exact ⟨rfl, by exact below_⟩
    | some q =>
      rw [show jalikeI a b = ((p == q) && (jdark a == jdark b)) by simp [jalikeI, ha, hb, hP, hQ]]
      have HP := Lib.hid hP
      have HQ := Lib.hid hQ
      clear hP hQ ha hb
      go_enter Tryd.func25, Tryd.ntmps25
      go_wp2_with (go_at_call 54; (with_reducible refine (stimes_o a.x b.y (some p) _ HP.out).mono ?_); rintro e w1 ⟨rfl, hb⟩; refine Hid.out ?_)
      refine Lib.hid ?_
      have hB1 : Below w.heap.size w w1 := bstep (by exact below_) hb (by simp; omega)
      have hja : JnAt w1 w.heap.size a := ((JnAt.new w a 33).alloc _).below hb (by simp; omega)
      have hjb : JnAt w1 (w.heap.size + 1) b := (JnAt.new' (by simp) b 33).below hb (by simp)
      have hz1 := hB1.size
      have hl1 := hjb.lt
      have hp := FrAt.new w1 p 31
      have hja := hja.alloc (.cells #[.int .i64 p.re, .int .i64 p.im, .int .i64 p.den] 31)
      have hjb := hjb.alloc (.cells #[.int .i64 p.re, .int .i64 p.im, .int .i64 p.den] 31)
      have hB2 : Below w.heap.size w (w1.alloc (.cells #[.int .i64 p.re, .int .i64 p.im, .int .i64 p.den] 31)) := hB1.alloc hz1 _
      clear hb hB1
      obtain ⟨a0, a1, a2, a3, a4, a5⟩ := id hja
      obtain ⟨b0, b1, b2, b3, b4, b5⟩ := id hjb
      go_wp2_with (go_at_call 54; (with_reducible refine (stimes_o a.y b.x (some q) _ HQ.out).mono ?_); rintro e w2 ⟨rfl, hb⟩; refine Hid.out ?_)
      refine Lib.hid ?_
      clear a0 b0 a1 b1 a2 b2 a3 b3 a4 b4 a5 b5
      have hB3 : Below w.heap.size w w2 := bstep hB2 hb (by simp; omega)
      have hz2 := hB3.size
      have hD : SQ w a b p q w1.heap.size w2.heap.size (w2.alloc (.cells #[.int .i64 q.re, .int .i64 q.im, .int .i64 q.den] 31)) :=
        ⟨(hja.below hb hja.lt).alloc _, (hjb.below hb hjb.lt).alloc _, (hp.below hb hp.lt).alloc _, FrAt.new w2 q _, hB3.alloc hz2 _⟩
      clear hb hB2 hB3 hja hjb hp
      cases h1 : (p.re == q.re)
      · have hv : ((p == q) && (jdark a == jdark b)) = false := by rw [← fr_eq, h1]; simp
        have hB := hD.B
        obtain ⟨d0, d1, d2, d3, d4, d5, d6, d7, d8, d9, d10, d11, d12, d13, d14, d15, d16, d17⟩ := hD.cells
        go_upto_region 3 with fail
        go_region_with (first | (go_at_call 55; (with_reducible refine (sv_any w a b p q w1.heap.size w2.heap.size a HA _ (by (repeat' (first | (with_reducible assumption) | (with_reducible apply SQ.alloc) | (with_reducible apply SQ.drewN) | (with_reducible apply SQ.drew))))).mono ?_); rintro e wd ⟨rfl, hD⟩; have hB := hD.B; obtain ⟨d0, d1, d2, d3, d4, d5, d6, d7, d8, d9, d10, d11, d12, d13, d14, d15, d16, d17⟩ := hD.cells) | (go_at_call 55; (with_reducible refine (sv_any w a b p q w1.heap.size w2.heap.size b HB _ (by (repeat' (first | (with_reducible assumption) | (with_reducible apply SQ.alloc) | (with_reducible apply SQ.drewN) | (with_reducible apply SQ.drew))))).mono ?_); rintro e wd ⟨rfl, hD⟩; have hB := hD.B; obtain ⟨d0, d1, d2, d3, d4, d5, d6, d7, d8, d9, d10, d11, d12, d13, d14, d15, d16, d17⟩ := hD.cells) | (go_at_call 24; (with_reducible refine (ld_any w a b p q w1.heap.size w2.heap.size a HDA _ (by (repeat' (first | (with_reducible assumption) | (with_reducible apply SQ.alloc) | (with_reducible apply SQ.drewN) | (with_reducible apply SQ.drew))))).mono ?_); rintro e wd ⟨rfl, hD⟩; have hB := hD.B; obtain ⟨d0, d1, d2, d3, d4, d5, d6, d7, d8, d9, d10, d11, d12, d13, d14, d15, d16, d17⟩ := hD.cells) | (go_at_call 24; (with_reducible refine (ld_any w a b p q w1.heap.size w2.heap.size b HDB _ (by (repeat' (first | (with_reducible assumption) | (with_reducible apply SQ.alloc) | (with_reducible apply SQ.drewN) | (with_reducible apply SQ.drew))))).mono ?_); rintro e wd ⟨rfl, hD⟩; have hB := hD.B; obtain ⟨d0, d1, d2, d3, d4, d5, d6, d7, d8, d9, d10, d11, d12, d13, d14, d15, d16, d17⟩ := hD.cells))
        all_goals (go_wp2; go_ret; exact ⟨by (try simp only [hv]); (first | done | rfl), by exact below_⟩)
      cases h2 : (p.im == q.im)
      · have hv : ((p == q) && (jdark a == jdark b)) = false := by rw [← fr_eq, h2]; simp
        have hB := hD.B
        obtain ⟨d0, d1, d2, d3, d4, d5, d6, d7, d8, d9, d10, d11, d12, d13, d14, d15, d16, d17⟩ := hD.cells
        go_upto_region 3 with fail
        go_region_with (first | (go_at_call 55; (with_reducible refine (sv_any w a b p q w1.heap.size w2.heap.size a HA _ (by (repeat' (first | (with_reducible assumption) | (with_reducible apply SQ.alloc) | (with_reducible apply SQ.drewN) | (with_reducible apply SQ.drew))))).mono ?_); rintro e wd ⟨rfl, hD⟩; have hB := hD.B; obtain ⟨d0, d1, d2, d3, d4, d5, d6, d7, d8, d9, d10, d11, d12, d13, d14, d15, d16, d17⟩ := hD.cells) | (go_at_call 55; (with_reducible refine (sv_any w a b p q w1.heap.size w2.heap.size b HB _ (by (repeat' (first | (with_reducible assumption) | (with_reducible apply SQ.alloc) | (with_reducible apply SQ.drewN) | (with_reducible apply SQ.drew))))).mono ?_); rintro e wd ⟨rfl, hD⟩; have hB := hD.B; obtain ⟨d0, d1, d2, d3, d4, d5, d6, d7, d8, d9, d10, d11, d12, d13, d14, d15, d16, d17⟩ := hD.cells) | (go_at_call 24; (with_reducible refine (ld_any w a b p q w1.heap.size w2.heap.size a HDA _ (by (repeat' (first | (with_reducible assumption) | (with_reducible apply SQ.alloc) | (with_reducible apply SQ.drewN) | (with_reducible apply SQ.drew))))).mono ?_); rintro e wd ⟨rfl, hD⟩; have hB := hD.B; obtain ⟨d0, d1, d2, d3, d4, d5, d6, d7, d8, d9, d10, d11, d12, d13, d14, d15, d16, d17⟩ := hD.cells) | (go_at_call 24; (with_reducible refine (ld_any w a b p q w1.heap.size w2.heap.size b HDB _ (by (repeat' (first | (with_reducible assumption) | (with_reducible apply SQ.alloc) | (with_reducible apply SQ.drewN) | (with_reducible apply SQ.drew))))).mono ?_); rintro e wd ⟨rfl, hD⟩; have hB := hD.B; obtain ⟨d0, d1, d2, d3, d4, d5, d6, d7, d8, d9, d10, d11, d12, d13, d14, d15, d16, d17⟩ := hD.cells))
        all_goals (go_wp2; go_ret; exact ⟨by (try simp only [hv]); (first | done | rfl), by exact below_⟩)
      cases h3 : (p.den == q.den)
      · have hv : ((p == q) && (jdark a == jdark b)) = false := by rw [← fr_eq, h3]; simp
        have hB := hD.B
        obtain ⟨d0, d1, d2, d3, d4, d5, d6, d7, d8, d9, d10, d11, d12, d13, d14, d15, d16, d17⟩ := hD.cells
        go_upto_region 3 with fail
        go_region_with (first | (go_at_call 55; (with_reducible refine (sv_any w a b p q w1.heap.size w2.heap.size a HA _ (by (repeat' (first | (with_reducible assumption) | (with_reducible apply SQ.alloc) | (with_reducible apply SQ.drewN) | (with_reducible apply SQ.drew))))).mono ?_); rintro e wd ⟨rfl, hD⟩; have hB := hD.B; obtain ⟨d0, d1, d2, d3, d4, d5, d6, d7, d8, d9, d10, d11, d12, d13, d14, d15, d16, d17⟩ := hD.cells) | (go_at_call 55; (with_reducible refine (sv_any w a b p q w1.heap.size w2.heap.size b HB _ (by (repeat' (first | (with_reducible assumption) | (with_reducible apply SQ.alloc) | (with_reducible apply SQ.drewN) | (with_reducible apply SQ.drew))))).mono ?_); rintro e wd ⟨rfl, hD⟩; have hB := hD.B; obtain ⟨d0, d1, d2, d3, d4, d5, d6, d7, d8, d9, d10, d11, d12, d13, d14, d15, d16, d17⟩ := hD.cells) | (go_at_call 24; (with_reducible refine (ld_any w a b p q w1.heap.size w2.heap.size a HDA _ (by (repeat' (first | (with_reducible assumption) | (with_reducible apply SQ.alloc) | (with_reducible apply SQ.drewN) | (with_reducible apply SQ.drew))))).mono ?_); rintro e wd ⟨rfl, hD⟩; have hB := hD.B; obtain ⟨d0, d1, d2, d3, d4, d5, d6, d7, d8, d9, d10, d11, d12, d13, d14, d15, d16, d17⟩ := hD.cells) | (go_at_call 24; (with_reducible refine (ld_any w a b p q w1.heap.size w2.heap.size b HDB _ (by (repeat' (first | (with_reducible assumption) | (with_reducible apply SQ.alloc) | (with_reducible apply SQ.drewN) | (with_reducible apply SQ.drew))))).mono ?_); rintro e wd ⟨rfl, hD⟩; have hB := hD.B; obtain ⟨d0, d1, d2, d3, d4, d5, d6, d7, d8, d9, d10, d11, d12, d13, d14, d15, d16, d17⟩ := hD.cells))
        all_goals (go_wp2; go_ret; exact ⟨by (try simp only [hv]); (first | done | rfl), by exact below_⟩)
      · have hv : ((p == q) && (jdark a == jdark b)) = (jdark a == jdark b) := by rw [← fr_eq, h1, h2, h3]; simp
        have hB := hD.B
        go_upto_region 3 with fail
        go_region_held3 (fun w' => w'.cell? ⟨w.heap.size, 0, none⟩ = some (.int .i64 a.x.re) ∧ w'.cell? ⟨w.heap.size, 1, none⟩ = some (.int .i64 a.x.im) ∧ w'.cell? ⟨w.heap.size, 2, none⟩ = some (.int .i64 a.x.den) ∧ w'.cell? ⟨w.heap.size, 3, none⟩ = some (.int .i64 a.y.re) ∧ w'.cell? ⟨w.heap.size, 4, none⟩ = some (.int .i64 a.y.im) ∧ w'.cell? ⟨w.heap.size, 5, none⟩ = some (.int .i64 a.y.den) ∧ w'.cell? ⟨w.heap.size + 1, 0, none⟩ = some (.int .i64 b.x.re) ∧ w'.cell? ⟨w.heap.size + 1, 1, none⟩ = some (.int .i64 b.x.im) ∧ w'.cell? ⟨w.heap.size + 1, 2, none⟩ = some (.int .i64 b.x.den) ∧ w'.cell? ⟨w.heap.size + 1, 3, none⟩ = some (.int .i64 b.y.re) ∧ w'.cell? ⟨w.heap.size + 1, 4, none⟩ = some (.int .i64 b.y.im) ∧ w'.cell? ⟨w.heap.size + 1, 5, none⟩ = some (.int .i64 b.y.den) ∧ w'.cell? ⟨w1.heap.size, 0, none⟩ = some (.int .i64 p.re) ∧ w'.cell? ⟨w1.heap.size, 1, none⟩ = some (.int .i64 p.im) ∧ w'.cell? ⟨w1.heap.size, 2, none⟩ = some (.int .i64 p.den) ∧ w'.cell? ⟨w2.heap.size, 0, none⟩ = some (.int .i64 q.re) ∧ w'.cell? ⟨w2.heap.size, 1, none⟩ = some (.int .i64 q.im) ∧ w'.cell? ⟨w2.heap.size, 2, none⟩ = some (.int .i64 q.den)) ((refine SQ.cells ?_; (repeat' (first | (with_reducible assumption) | (with_reducible apply SQ.alloc) | (with_reducible apply SQ.drewN) | (with_reducible apply SQ.drew))))) (first | (go_at_call 55; (with_reducible refine (sv_any w a b p q w1.heap.size w2.heap.size a HA _ (by (repeat' (first | (with_reducible assumption) | (with_reducible apply SQ.alloc) | (with_reducible apply SQ.drewN) | (with_reducible apply SQ.drew))))).mono ?_); rintro e wd ⟨rfl, hD⟩; have hB := hD.B) | (go_at_call 55; (with_reducible refine (sv_any w a b p q w1.heap.size w2.heap.size b HB _ (by (repeat' (first | (with_reducible assumption) | (with_reducible apply SQ.alloc) | (with_reducible apply SQ.drewN) | (with_reducible apply SQ.drew))))).mono ?_); rintro e wd ⟨rfl, hD⟩; have hB := hD.B) | (go_at_call 24; (with_reducible refine (ld_any w a b p q w1.heap.size w2.heap.size a HDA _ (by (repeat' (first | (with_reducible assumption) | (with_reducible apply SQ.alloc) | (with_reducible apply SQ.drewN) | (with_reducible apply SQ.drew))))).mono ?_); rintro e wd ⟨rfl, hD⟩; have hB := hD.B) | (go_at_call 24; (with_reducible refine (ld_any w a b p q w1.heap.size w2.heap.size b HDB _ (by (repeat' (first | (with_reducible assumption) | (with_reducible apply SQ.alloc) | (with_reducible apply SQ.drewN) | (with_reducible apply SQ.drew))))).mono ?_); rintro e wd ⟨rfl, hD⟩; have hB := hD.B))
        all_goals (go_wp2; go_ret; exact ⟨by (try simp only [hv]); (first | done | rfl), by exact below_⟩)
end Go.Proofs.YtiagnnmnaakmoaaDoor
