/-
  The walks of division, power, mirror and comparison of exact fractions, program and reference; what the package-level variables hold.
-/
import Derived.Test.YtiagnnmnaakmoaaDoorWb
namespace Go.Proofs.YtiagnnmnaakmoaaDoor
set_option linter.unusedSimpArgs false
set_option linter.unusedVariables false
open Go.RowKit
abbrev IsFr (w : World) (g o : Nat) (a : Fr) : Prop := w.cell? ⟨g, o, none⟩ = some (.int .i64 a.re) ∧ w.cell? ⟨g, o + 1, none⟩ = some (.int .i64 a.im) ∧ w.cell? ⟨g, o + 2, none⟩ = some (.int .i64 a.den)
theorem IsFr.below {w w' : World} {g o : Nat} {a : Fr} (h : IsFr w g o a) (hb : Below w.heap.size w w') (hg : g < w.heap.size) : IsFr w' g o a :=
  ⟨(hb.cell (p := ⟨g, o, none⟩) hg).trans h.1, (hb.cell (p := ⟨g, o + 1, none⟩) hg).trans h.2.1, (hb.cell (p := ⟨g, o + 2, none⟩) hg).trans h.2.2⟩
/- What the package-level variables that the code reads hold: one statement for each. -/
structure GZ (w : World) : Prop where
  lts : 0 < w.heap.size ∧ 1 < w.heap.size
  val : IsFr w 1 0 ⟨0, 0, 1⟩
theorem GZ.below {w w' : World} (h : GZ w) (hb : Below w.heap.size w w') : GZ w' where
  lts := by have := h.lts; have := hb.size; omega
  val := h.val.below hb (by have := h.lts; omega)
structure GO (w : World) : Prop where
  lts : 0 < w.heap.size ∧ 1 < w.heap.size ∧ 2 < w.heap.size
  val : IsFr w 2 0 ⟨1, 0, 1⟩
theorem GO.below {w w' : World} (h : GO w) (hb : Below w.heap.size w w') : GO w' where
  lts := by have := h.lts; have := hb.size; omega
  val := h.val.below hb (by have := h.lts; omega)
structure GU (w : World) : Prop where
  lts : 0 < w.heap.size ∧ 1 < w.heap.size ∧ 2 < w.heap.size ∧ 3 < w.heap.size ∧ 4 < w.heap.size
  val : IsFr w 4 0 ⟨0, 1, 1⟩
theorem GU.below {w w' : World} (h : GU w) (hb : Below w.heap.size w w') : GU w' where
  lts := by have := h.lts; have := hb.size; omega
  val := h.val.below hb (by have := h.lts; omega)
structure GS (w : World) : Prop where
  lts : 0 < w.heap.size
  val : IsFr w 0 0 ⟨1, 0, 1⟩ ∧ IsFr w 0 3 ⟨0, 0, 1⟩ ∧ IsFr w 0 6 ⟨0, 0, 1⟩ ∧ IsFr w 0 9 ⟨1, 0, 1⟩
theorem GS.below {w w' : World} (h : GS w) (hb : Below w.heap.size w w') : GS w' where
  lts := by have := h.lts; have := hb.size; omega
  val := ⟨h.val.1.below hb (by have := h.lts; omega), h.val.2.1.below hb (by have := h.lts; omega), h.val.2.2.1.below hb (by have := h.lts; omega), h.val.2.2.2.below hb (by have := h.lts; omega)⟩
structure GT (w : World) : Prop where
  lts : 0 < w.heap.size ∧ 1 < w.heap.size ∧ 2 < w.heap.size ∧ 3 < w.heap.size
  val : IsFr w 3 0 ⟨1, 0, 1⟩ ∧ IsFr w 3 3 ⟨0, 1, 1⟩ ∧ IsFr w 3 6 ⟨-1, 0, 1⟩ ∧ IsFr w 3 9 ⟨0, -1, 1⟩
theorem GT.below {w w' : World} (h : GT w) (hb : Below w.heap.size w w') : GT w' where
  lts := by have := h.lts; have := hb.size; omega
  val := ⟨h.val.1.below hb (by have := h.lts; omega), h.val.2.1.below hb (by have := h.lts; omega), h.val.2.2.1.below hb (by have := h.lts; omega), h.val.2.2.2.below hb (by have := h.lts; omega)⟩
set_option maxHeartbeats 400000 in
theorem mirror_any (a : Fr) (w : World) :
    Calls Tryd.prog 88 #[frv a] w fun e w' => e = .returned (frb (mirrorI a)) ∧ Below w.heap.size w w' := by
  cases ha : fvalid a
  · have e : mirrorI a = none := by simp [mirrorI, ha]
    rw [e]; clear e
    go_enter Tryd.func88, Tryd.ntmps88
    go_wp2_with (first | (go_at_call 48; (with_reducible refine (fvalid_f _ _ (by assumption)).mono ?_); rintro e w1 ⟨rfl, hb⟩; obtain ⟨hc, hf⟩ := bf hb (w.heap.size + 1 + 1) side_; have hs := hb.size; (try simp only [World.size_alloc, World.size_setCell, World.size_drew, World.heap_drewN] at hs); have hl : w.heap.size ≤ w1.heap.size ∧ w.heap.size < w1.heap.size ∧ w.heap.size + 1 < w1.heap.size := ⟨by omega, by omega, by omega⟩; have hB : Below w.heap.size w w1 := bstep (by exact below_) hb side_; clear hs hb))
    exact bodyPost_ret (v := frb none) (by simp [results, Tryd.results88, go_sem, *]) rfl ⟨rfl, by exact below_⟩
  · have e : mirrorI a = some ⟨a.re, -a.im, a.den⟩ := by simp [mirrorI, ha]
    rw [e]; clear e
    obtain ⟨⟨a1, a2⟩, ⟨a3, a4⟩, ⟨a5, a6⟩⟩ := fvalid_bd a ha
    go_enter Tryd.func88, Tryd.ntmps88
    go_wp2_with (first | (go_at_call 48; (with_reducible refine (fvalid_t _ _ (by assumption)).mono ?_); rintro e w1 ⟨rfl, hb⟩; obtain ⟨hc, hf⟩ := bf hb (w.heap.size + 1 + 1) side_; have hs := hb.size; (try simp only [World.size_alloc, World.size_setCell, World.size_drew, World.heap_drewN] at hs); have hl : w.heap.size ≤ w1.heap.size ∧ w.heap.size < w1.heap.size ∧ w.heap.size + 1 < w1.heap.size := ⟨by omega, by omega, by omega⟩; have hB : Below w.heap.size w w1 := bstep (by exact below_) hb side_; clear hs hb))
    exact bodyPost_ret (v := frb (some ⟨a.re, -a.im, a.den⟩)) (by simp [results, Tryd.results88, go_sem, *]) rfl ⟨rfl, by exact below_⟩
end Go.Proofs.YtiagnnmnaakmoaaDoor
