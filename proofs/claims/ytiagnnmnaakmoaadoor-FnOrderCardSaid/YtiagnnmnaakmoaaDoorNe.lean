/-
  What the walks of the plates need: the matrices in memory, and the parts of a plate.
-/
import Derived.Test.YtiagnnmnaakmoaaDoorNc
import Derived.Test.YtiagnnmnaakmoaaDoorMv
namespace Go.Proofs.YtiagnnmnaakmoaaDoor
set_option linter.unusedSimpArgs false
set_option linter.unusedVariables false
open Go.RowKit
attribute [local go_sem ↓] Go.wp_at_zero Go.wp_at_succ
theorem MtAt.same {w w' : World} {b : Nat} {m : Mt} (h : MtAt w b m) (hc : ∀ o, w'.cell? ⟨b, o, none⟩ = w.cell? ⟨b, o, none⟩) : MtAt w' b m := by
  unfold MtAt at h ⊢
  simp only [hc]
  exact h
theorem MtAt.lt {w : World} {b : Nat} {m : Mt} (h : MtAt w b m) : b < w.heap.size := by
  have := World.block_lt_of_cell? w _ h.1
  exact this
theorem MtAt.below {w w' : World} {b B : Nat} {m : Mt} (h : MtAt w b m) (hb : Below B w w') (hlt : b < B) : MtAt w' b m := h.same fun o => hb.cell (p := ⟨b, o, none⟩) hlt
theorem MtAt.alloc {w : World} {b : Nat} {m : Mt} (h : MtAt w b m) (o : Obj) : MtAt (w.alloc o) b m := h.below ((Below.refl _ _).alloc (Nat.le_refl _) o) h.lt
theorem MtAt.new (w : World) (m : Mt) (t : TypeId) : MtAt (w.alloc (.cells #[.int .i64 m.a.re, .int .i64 m.a.im, .int .i64 m.a.den, .int .i64 m.b.re, .int .i64 m.b.im, .int .i64 m.b.den, .int .i64 m.c.re, .int .i64 m.c.im, .int .i64 m.c.den, .int .i64 m.d.re, .int .i64 m.d.im, .int .i64 m.d.den] t)) w.heap.size m :=
  ⟨World.cell?_alloc_at _ _ _ _ rfl, World.cell?_alloc_at _ _ _ _ rfl, World.cell?_alloc_at _ _ _ _ rfl, World.cell?_alloc_at _ _ _ _ rfl, World.cell?_alloc_at _ _ _ _ rfl, World.cell?_alloc_at _ _ _ _ rfl, World.cell?_alloc_at _ _ _ _ rfl, World.cell?_alloc_at _ _ _ _ rfl, World.cell?_alloc_at _ _ _ _ rfl, World.cell?_alloc_at _ _ _ _ rfl, World.cell?_alloc_at _ _ _ _ rfl, World.cell?_alloc_at _ _ _ _ rfl⟩
theorem MtAt.drew {w : World} {b : Nat} {m : Mt} (h : MtAt w b m) : MtAt w.drew b m := h
theorem MtAt.drewN {w : World} {b : Nat} {m : Mt} (h : MtAt w b m) (n : Nat) : MtAt (w.drewN n) b m := h
theorem MtAt.far {w : World} {b : Nat} {m : Mt} (h : MtAt w b m) {p : Addr} (hp : b < p.block) (u : Value) : MtAt (w.setCell p u) b m := h.below ((Below.refl p.block w).setCell (Nat.le_refl _) u) hp
def adjR (p q : Int) : Mt := (madjI (rotM p q)).getD ⟨⟨0, 0, 0⟩, ⟨0, 0, 0⟩, ⟨0, 0, 0⟩, ⟨0, 0, 0⟩⟩
/-- The plate of a direction and a phase. -/
def plateI (p q k : Int) : Option Mt := if dirOk p q && inB k 0 3 then (mtimesI (rotM p q) (diagM (phF 0) (phF k))).bind fun a => mtimesI a (adjR p q) else none
theorem srot_t (p q : Int) (w : World) (h : dirOk p q = true) : Calls Tryd.prog 78 #[.int .i64 p, .int .i64 q] w fun e w' => e = .returned (mtb (some (rotM p q))) ∧ Below w.heap.size w w' := by
  have := srot_any p q w
  rwa [show rotI p q = some (rotM p q) by simp [rotI, h]] at this
theorem srot_f (p q : Int) (w : World) (h : dirOk p q = false) : Calls Tryd.prog 78 #[.int .i64 p, .int .i64 q] w fun e w' => e = .returned (mtb none) ∧ Below w.heap.size w w' := by
  have := srot_any p q w
  rwa [show rotI p q = none by simp [rotI, h]] at this
theorem rot_t (p q : Int) (w : World) (h : dirOk p q = true) : Calls Tryd.prog 66 #[.int .i64 p, .int .i64 q] w fun e w' => e = .returned (mtb (some (rotM p q))) ∧ Below w.heap.size w w' := by
  have := rot_any p q w
  rwa [show rotI p q = some (rotM p q) by simp [rotI, h]] at this
theorem rot_f (p q : Int) (w : World) (h : dirOk p q = false) : Calls Tryd.prog 66 #[.int .i64 p, .int .i64 q] w fun e w' => e = .returned (mtb none) ∧ Below w.heap.size w w' := by
  have := rot_any p q w
  rwa [show rotI p q = none by simp [rotI, h]] at this
theorem smtimes_o (m n : Mt) (o : Option Mt) (w : World) (h : mtimesI m n = o) : Calls Tryd.prog 34 #[mtv m, mtv n] w fun e w' => e = .returned (mtb o) ∧ Below w.heap.size w w' := by
  rw [← h]; exact smtimes_any m n w
theorem smadj_r (p q : Int) (w : World) : Calls Tryd.prog 79 #[mtv (rotM p q)] w fun e w' => e = .returned (.tuple #[mtv (adjR p q), .bool (madjI (rotM p q)).isSome]) ∧ Below w.heap.size w w' := smadj_any (rotM p q) w
theorem madj_r (p q : Int) (w : World) : Calls Tryd.prog 68 #[mtv (rotM p q)] w fun e w' => e = .returned (.tuple #[mtv (adjR p q), .bool (madjI (rotM p q)).isSome]) ∧ Below w.heap.size w w' := madj_any (rotM p q) w
end Go.Proofs.YtiagnnmnaakmoaaDoor
