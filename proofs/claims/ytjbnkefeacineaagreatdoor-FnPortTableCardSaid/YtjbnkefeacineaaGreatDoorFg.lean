/-
  A fraction that lies at the head of a block which may be written.
-/
import Derived.Test.YtjbnkefeacineaaGreatDoorPa
namespace Go.Proofs.YtjbnkefeacineaaGreatDoor
set_option linter.unusedSimpArgs false
set_option linter.unusedVariables false
open Go.RowKit
theorem frozenNew (w : World) (cs : Array Value) (t : TypeId) (o : Nat) : (w.alloc (.cells cs t)).frozen? ⟨w.heap.size, o, none⟩ = false := by unfold World.frozen?; rw [show (w.alloc (.cells cs t)).heap[w.heap.size]? = some (.cells cs t (0, 0)) from heap_alloc_new w _]; simp
/-- A fraction lies at the head of a block that may be written. -/
structure FrG (w : World) (b : Nat) (m : Fr) : Prop where
  c0 : w.cell? ⟨b, 0, none⟩ = some (.int .i64 m.re)
  c1 : w.cell? ⟨b, 1, none⟩ = some (.int .i64 m.im)
  c2 : w.cell? ⟨b, 2, none⟩ = some (.int .i64 m.den)
  f : ∀ o, w.frozen? ⟨b, o, none⟩ = false
theorem FrG.new (w : World) (m : Fr) (t : TypeId) : FrG (w.alloc (.cells #[.int .i64 m.re, .int .i64 m.im, .int .i64 m.den] t)) w.heap.size m :=
  ⟨World.cell?_alloc_at _ _ _ _ rfl, World.cell?_alloc_at _ _ _ _ rfl, World.cell?_alloc_at _ _ _ _ rfl, fun o => frozenNew w _ t o⟩
theorem FrG.step {w w' : World} {b br B : Nat} {m : Fr} (h : FrG w b m) (hb : BelX B br w w') (hlt : b < B) (hne : b ≠ br) : FrG w' b m := by
  have e := hb.block b hlt hne
  have c := fun o => World.cell?_of_block (w := w) (a := ⟨b, o, none⟩) e
  exact ⟨(c 0).trans h.c0, (c 1).trans h.c1, (c 2).trans h.c2, fun o => (World.frozen?_of_block (w := w) e).trans (h.f o)⟩
theorem FrG.lt {w : World} {b : Nat} {m : Fr} (h : FrG w b m) : b < w.heap.size := World.block_lt_of_cell? w _ h.c0
theorem FrG.alloc {w : World} {b : Nat} {m : Fr} (h : FrG w b m) (o : Obj) : FrG (w.alloc o) b m := h.step (br := w.heap.size) (BelX.of ((Below.refl _ _).alloc (Nat.le_refl _) o)) h.lt (Nat.ne_of_lt h.lt)
section
variable {w w' : World} {b : Nat} {m : Fr}
theorem FrG.drew (h : FrG w b m) : FrG w.drew b m := ⟨h.c0, h.c1, h.c2, h.f⟩
theorem FrG.drewN (h : FrG w b m) (n : Nat) : FrG (w.drewN n) b m := ⟨h.c0, h.c1, h.c2, h.f⟩
theorem FrG.far (h : FrG w b m) {p : Addr} (hp : b ≠ p.block) (u : Value) : FrG (w.setCell p u) b m := by
  have e := Below.heap_setCell w p u b hp
  have c := fun o => World.cell?_of_block (w := w) (a := ⟨b, o, none⟩) e
  exact ⟨(c 0).trans h.c0, (c 1).trans h.c1, (c 2).trans h.c2, fun o => (World.frozen?_of_block (w := w) e).trans (h.f o)⟩
theorem FrG.below (h : FrG w b m) (hb : Below w.heap.size w w') : FrG w' b m := h.step (br := w.heap.size) (BelX.of hb) h.lt (Nat.ne_of_lt h.lt)
theorem FrG.put (h : FrG w b m) (y : Fr) : FrG (((w.setCell ⟨b, 0, none⟩ (.int .i64 y.re)).setCell ⟨b, 1, none⟩ (.int .i64 y.im)).setCell ⟨b, 2, none⟩ (.int .i64 y.den)) b y :=
  ⟨by simp [go_sem, h.c0, h.c1, h.c2, h.f], by simp [go_sem, h.c0, h.c1, h.c2, h.f], by simp [go_sem, h.c0, h.c1, h.c2, h.f], fun o => by simp [go_sem, h.f]⟩
end
end Go.Proofs.YtjbnkefeacineaaGreatDoor
