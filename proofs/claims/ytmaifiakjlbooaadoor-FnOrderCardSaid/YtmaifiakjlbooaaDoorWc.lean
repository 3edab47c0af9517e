/-
  The walks of division, power, mirror and comparison of exact fractions, program and reference; what the package-level variables hold.
-/
import Derived.Test.YtmaifiakjlbooaaDoorWb
namespace Go.Proofs.YtmaifiakjlbooaaDoor
set_option linter.unusedSimpArgs false
set_option linter.unusedVariables false
open Go.RowKit
abbrev IsFr (w : World) (g o : Nat) (a : Fr) : Prop := w.cell? ⟨g, o, none⟩ = some (.int .i64 a.re) ∧ w.cell? ⟨g, o + 1, none⟩ = some (.int .i64 a.im) ∧ w.cell? ⟨g, o + 2, none⟩ = some (.int .i64 a.den)
theorem IsFr.below {w w' : World} {g o : Nat} {a : Fr} (h : IsFr w g o a) (hb : Below w.heap.size w w') (hg : g < w.heap.size) : IsFr w' g o a :=
  ⟨(hb.cell (p := ⟨g, o, none⟩) hg).trans h.1, (hb.cell (p := ⟨g, o + 1, none⟩) hg).trans h.2.1, (hb.cell (p := ⟨g, o + 2, none⟩) hg).trans h.2.2⟩
/- What the package-level variables that the code reads hold: one statement for each. -/
structure GZ (w : World) : Prop where
  lts : 0 < w.heap.size ∧ 1 < w.heap.size ∧ 2 < w.heap.size
  val : IsFr w 2 0 ⟨0, 0, 1⟩
theorem GZ.below {w w' : World} (h : GZ w) (hb : Below w.heap.size w w') : GZ w' where
  lts := by have := h.lts; have := hb.size; omega
  val := h.val.below hb (by have := h.lts; omega)
structure GO (w : World) : Prop where
  lts : 0 < w.heap.size ∧ 1 < w.heap.size
  val : IsFr w 1 0 ⟨1, 0, 1⟩
theorem GO.below {w w' : World} (h : GO w) (hb : Below w.heap.size w w') : GO w' where
  lts := by have := h.lts; have := hb.size; omega
  val := h.val.below hb (by have := h.lts; omega)
structure GU (w : World) : Prop where
  lts : 0 < w.heap.size ∧ 1 < w.heap.size ∧ 2 < w.heap.size ∧ 3 < w.heap.size ∧ 4 < w.heap.size
  val : IsFr w 4 0 ⟨0, 1, 1⟩
theorem GU.below {w w' : World} (h : GU w) (hb : Below w.heap.size w w') : GU w' where
  lts := by have := h.lts; have := hb.size; omega
  val := h.val.below hb (by have := h.lts; omega)
structure GS (w : World) : Prop where
  lts : 0 < w.heap.size
  val : IsFr w 0 0 ⟨1, 0, 1⟩ ∧ IsFr w 0 3 ⟨0, 0, 1⟩ ∧ IsFr w 0 6 ⟨0, 0, 1⟩ ∧ IsFr w 0 9 ⟨1, 0, 1⟩
theorem GS.below {w w' : World} (h : GS w) (hb : Below w.heap.size w w') : GS w' where
  lts := by have := h.lts; have := hb.size; omega
  val := ⟨h.val.1.below hb (by have := h.lts; omega), h.val.2.1.below hb (by have := h.lts; omega), h.val.2.2.1.below hb (by have := h.lts; omega), h.val.2.2.2.below hb (by have := h.lts; omega)⟩
structure GT (w : World) : Prop where
  lts : 0 < w.heap.size ∧ 1 < w.heap.size ∧ 2 < w.heap.size ∧ 3 < w.heap.size
  val : IsFr w 3 0 ⟨1, 0, 1⟩ ∧ IsFr w 3 3 ⟨0, 1, 1⟩ ∧ IsFr w 3 6 ⟨-1, 0, 1⟩ ∧ IsFr w 3 9 ⟨0, -1, 1⟩
theorem GT.below {w w' : World} (h : GT w) (hb : Below w.heap.size w w') : GT w' where
  lts := by have := h.lts; have := hb.size; omega
  val := ⟨h.val.1.below hb (by have := h.lts; omega), h.val.2.1.below hb (by have := h.lts; omega), h.val.2.2.1.below hb (by have := h.lts; omega), h.val.2.2.2.below hb (by have := h.lts; omega)⟩
theorem over_bd (b : Fr) (hb : fvalid b = true) (hz : isZero b = false) : (-9000000000000000000 ≤ b.den * b.re ∧ b.den * b.re ≤ 9000000000000000000) ∧ (-9000000000000000000 ≤ -b.den * b.im ∧ -b.den * b.im ≤ 9000000000000000000) ∧ (1 ≤ b.re * b.re + b.im * b.im ∧ b.re * b.re + b.im * b.im ≤ 9000000000000000000) ∧ (b.re * b.re ≤ 4000000000000000000 ∧ -4000000000000000000 ≤ b.re * b.re) ∧ (b.im * b.im ≤ 4000000000000000000 ∧ -4000000000000000000 ≤ b.im * b.im) ∧ (-9000000000000000000 ≤ -b.den ∧ -b.den ≤ 9000000000000000000) := by
  obtain ⟨⟨b1, b2⟩, ⟨b3, b4⟩, ⟨b5, b6⟩⟩ := fvalid_bd b hb
  have n := norm_pos b hz
  have m1 := mulbd b.den b.re (by omega) (by omega) (by omega) (by omega)
  have m2 := mulbd (-b.den) b.im (by omega) (by omega) (by omega) (by omega)
  have m3 := mulbd b.re b.re (by omega) (by omega) (by omega) (by omega)
  have m4 := mulbd b.im b.im (by omega) (by omega) (by omega) (by omega)
  omega
theorem power_bd (b : Fr) (hb : fvalid b = true) : (-9000000000000000000 ≤ b.re * b.re + b.im * b.im ∧ b.re * b.re + b.im * b.im ≤ 9000000000000000000) ∧ (b.re * b.re ≤ 4000000000000000000 ∧ -4000000000000000000 ≤ b.re * b.re) ∧ (b.im * b.im ≤ 4000000000000000000 ∧ -4000000000000000000 ≤ b.im * b.im) ∧ (1 ≤ b.den * b.den ∧ b.den * b.den ≤ 9000000000000000000) := by
  obtain ⟨⟨b1, b2⟩, ⟨b3, b4⟩, ⟨b5, b6⟩⟩ := fvalid_bd b hb
  have m2 := mulbd1 b.den b.den (by omega) (by omega) (by omega) (by omega)
  have m3 := mulbd b.re b.re (by omega) (by omega) (by omega) (by omega)
  have m4 := mulbd b.im b.im (by omega) (by omega) (by omega) (by omega)
  omega
set_option maxHeartbeats 400000 in
theorem mirror_any (a : Fr) (w : World) :
    Calls Tryd.prog 100 #[frv a] w fun e w' => e = .returned (frb (mirrorI a)) ∧ Below w.heap.size w w' := by
  cases ha : fvalid a
  · have e : mirrorI a = none := by simp [mirrorI, ha]
    rw [e]; clear e
    go_enter Tryd.func100, Tryd.ntmps100
    go_wp2_with (first | (go_at_call 86; (with_reducible refine (fvalid_f _ _ (by assumption)).mono ?_); rintro e w1 ⟨rfl, hb⟩; obtain ⟨hc, hf⟩ := bf hb (w.heap.size + 1 + 1) (by first | omega | (simp; done) | (simp; omega)); have hs := hb.size; (try simp only [World.size_alloc, World.size_setCell, World.size_drew, World.heap_drewN] at hs); have hl : w.heap.size ≤ w1.heap.size ∧ w.heap.size < w1.heap.size ∧ w.heap.size + 1 < w1.heap.size := ⟨by omega, by omega, by omega⟩; have hB : Below w.heap.size w w1 := bstep (by (repeat' (first | (with_reducible exact Below.refl _ _) | (with_reducible assumption) | (with_reducible refine Below.setCell ?_ (by first | omega | (simp; done) | (simp; omega)) _) | (with_reducible refine Below.alloc ?_ (by first | omega | (simp; done) | (simp; omega)) _) | (with_reducible refine below_drewN ?_ _) | (with_reducible refine Below.drew ?_)))) hb (by first | omega | (simp; done) | (simp; omega)); clear hs hb))
    exact bodyPost_ret (v := frb none) (by simp [results, Tryd.results100, go_sem, *]) rfl ⟨rfl, by (repeat' (first | (with_reducible exact Below.refl _ _) | (with_reducible assumption) | (with_reducible refine Below.setCell ?_ (by first | omega | (simp; done) | (simp; omega)) _) | (with_reducible refine Below.alloc ?_ (by first | omega | (simp; done) | (simp; omega)) _) | (with_reducible refine below_drewN ?_ _) | (with_reducible refine Below.drew ?_)))⟩
  · have e : mirrorI a = some ⟨a.re, -a.im, a.den⟩ := by simp [mirrorI, ha]
    rw [e]; clear e
    obtain ⟨⟨a1, a2⟩, ⟨a3, a4⟩, ⟨a5, a6⟩⟩ := fvalid_bd a ha
    go_enter Tryd.func100, Tryd.ntmps100
    go_wp2_with (first | (go_at_call 86; (with_reducible refine (fvalid_t _ _ (by assumption)).mono ?_); rintro e w1 ⟨rfl, hb⟩; obtain ⟨hc, hf⟩ := bf hb (w.heap.size + 1 + 1) (by first | omega | (simp; done) | (simp; omega)); have hs := hb.size; (try simp only [World.size_alloc, World.size_setCell, World.size_drew, World.heap_drewN] at hs); have hl : w.heap.size ≤ w1.heap.size ∧ w.heap.size < w1.heap.size ∧ w.heap.size + 1 < w1.heap.size := ⟨by omega, by omega, by omega⟩; have hB : Below w.heap.size w w1 := bstep (by (repeat' (first | (with_reducible exact Below.refl _ _) | (with_reducible assumption) | (with_reducible refine Below.setCell ?_ (by first | omega | (simp; done) | (simp; omega)) _) | (with_reducible refine Below.alloc ?_ (by first | omega | (simp; done) | (simp; omega)) _) | (with_reducible refine below_drewN ?_ _) | (with_reducible refine Below.drew ?_)))) hb (by first | omega | (simp; done) | (simp; omega)); clear hs hb))
    exact bodyPost_ret (v := frb (some ⟨a.re, -a.im, a.den⟩)) (by simp [results, Tryd.results100, go_sem, *]) rfl ⟨rfl, by (repeat' (first | (with_reducible exact Below.refl _ _) | (with_reducible assumption) | (with_reducible refine Below.setCell ?_ (by first | omega | (simp; done) | (simp; omega)) _) | (with_reducible refine Below.alloc ?_ (by first | omega | (simp; done) | (simp; omega)) _) | (with_reducible refine below_drewN ?_ _) | (with_reducible refine Below.drew ?_)))⟩
set_option maxHeartbeats 400000 in
theorem power_any (a : Fr) (w : World) :
    Calls Tryd.prog 109 #[frv a] w fun e w' => e = .returned (frb (powerI a)) ∧ Below w.heap.size w w' := by
  cases ha : fvalid a
  · have e : powerI a = none := by simp [powerI, ha]
    rw [e]; clear e
    go_enter Tryd.func109, Tryd.ntmps109
    go_wp2_with (first | (go_at_call 86; (with_reducible refine (fvalid_f _ _ (by assumption)).mono ?_); rintro e w1 ⟨rfl, hb⟩; obtain ⟨hc, hf⟩ := bf hb (w.heap.size + 1 + 1) (by first | omega | (simp; done) | (simp; omega)); have hs := hb.size; (try simp only [World.size_alloc, World.size_setCell, World.size_drew, World.heap_drewN] at hs); have hl : w.heap.size ≤ w1.heap.size ∧ w.heap.size < w1.heap.size ∧ w.heap.size + 1 < w1.heap.size := ⟨by omega, by omega, by omega⟩; have hB : Below w.heap.size w w1 := bstep (by (repeat' (first | (with_reducible exact Below.refl _ _) | (with_reducible assumption) | (with_reducible refine Below.setCell ?_ (by first | omega | (simp; done) | (simp; omega)) _) | (with_reducible refine Below.alloc ?_ (by first | omega | (simp; done) | (simp; omega)) _) | (with_reducible refine below_drewN ?_ _) | (with_reducible refine Below.drew ?_)))) hb (by first | omega | (simp; done) | (simp; omega)); clear hs hb))
    exact bodyPost_ret (v := frb none) (by simp [results, Tryd.results109, go_sem, *]) rfl ⟨rfl, by (repeat' (first | (with_reducible exact Below.refl _ _) | (with_reducible assumption) | (with_reducible refine Below.setCell ?_ (by first | omega | (simp; done) | (simp; omega)) _) | (with_reducible refine Below.alloc ?_ (by first | omega | (simp; done) | (simp; omega)) _) | (with_reducible refine below_drewN ?_ _) | (with_reducible refine Below.drew ?_)))⟩
  · have e : powerI a = lowI (a.re * a.re + a.im * a.im) 0 (a.den * a.den) := by simp [powerI, ha]
    rw [e]; clear e
    obtain ⟨⟨p1, p2⟩, ⟨p3, p4⟩, ⟨p5, p6⟩, ⟨p7, p8⟩⟩ := power_bd a ha
    go_enter Tryd.func109, Tryd.ntmps109
    go_wp2_with (first | (go_at_call 86; (with_reducible refine (fvalid_t _ _ (by assumption)).mono ?_); rintro e w1 ⟨rfl, hb⟩; obtain ⟨hc, hf⟩ := bf hb (w.heap.size + 1 + 1) (by first | omega | (simp; done) | (simp; omega)); have hs := hb.size; (try simp only [World.size_alloc, World.size_setCell, World.size_drew, World.heap_drewN] at hs); have hl : w.heap.size ≤ w1.heap.size ∧ w.heap.size < w1.heap.size ∧ w.heap.size + 1 < w1.heap.size := ⟨by omega, by omega, by omega⟩; have hB : Below w.heap.size w w1 := bstep (by (repeat' (first | (with_reducible exact Below.refl _ _) | (with_reducible assumption) | (with_reducible refine Below.setCell ?_ (by first | omega | (simp; done) | (simp; omega)) _) | (with_reducible refine Below.alloc ?_ (by first | omega | (simp; done) | (simp; omega)) _) | (with_reducible refine below_drewN ?_ _) | (with_reducible refine Below.drew ?_)))) hb (by first | omega | (simp; done) | (simp; omega)); clear hs hb) | (go_at_call 87; (with_reducible refine (lowest_any _ _ _ _ (by omega) (by omega) (by omega) (by omega) (by omega) (by omega)).mono ?_); rintro e w1 ⟨rfl, hb⟩; obtain ⟨hc, hf⟩ := bf hb (w.heap.size + 1 + 1) (by first | omega | (simp; done) | (simp; omega)); have hs := hb.size; (try simp only [World.size_alloc, World.size_setCell, World.size_drew, World.heap_drewN] at hs); have hl : w.heap.size ≤ w1.heap.size ∧ w.heap.size < w1.heap.size ∧ w.heap.size + 1 < w1.heap.size := ⟨by omega, by omega, by omega⟩; have hB : Below w.heap.size w w1 := bstep (by (repeat' (first | (with_reducible exact Below.refl _ _) | (with_reducible assumption) | (with_reducible refine Below.setCell ?_ (by first | omega | (simp; done) | (simp; omega)) _) | (with_reducible refine Below.alloc ?_ (by first | omega | (simp; done) | (simp; omega)) _) | (with_reducible refine below_drewN ?_ _) | (with_reducible refine Below.drew ?_)))) hb (by first | omega | (simp; done) | (simp; omega)); clear hs hb))
    exact bodyPost_ret (v := frb (lowI (a.re * a.re + a.im * a.im) 0 (a.den * a.den))) (by simp [results, Tryd.results109, go_sem, *]) rfl ⟨rfl, by (repeat' (first | (with_reducible exact Below.refl _ _) | (with_reducible assumption) | (with_reducible refine Below.setCell ?_ (by first | omega | (simp; done) | (simp; omega)) _) | (with_reducible refine Below.alloc ?_ (by first | omega | (simp; done) | (simp; omega)) _) | (with_reducible refine below_drewN ?_ _) | (with_reducible refine Below.drew ?_)))⟩
end Go.Proofs.YtmaifiakjlbooaaDoor
