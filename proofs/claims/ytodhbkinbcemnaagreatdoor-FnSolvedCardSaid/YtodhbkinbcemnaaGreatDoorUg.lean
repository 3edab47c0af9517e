/-
  Blocks that hold fractions in a row; a list of blocks kept beside the reference's reckoning.
-/
import Derived.Test.YtodhbkinbcemnaaGreatDoorPu
import Derived.Test.YtodhbkinbcemnaaGreatDoorPk
namespace Go.Proofs.YtodhbkinbcemnaaGreatDoor
set_option linter.unusedSimpArgs false
set_option linter.unusedVariables false
open Go.RowKit
theorem blk_at {W : World} {b : Nat} {xs : List Fr} {ty : TypeId} (h : Blk W b (tbc xs) ty) {i : Nat} {s : Fr} (hi : xs[i]? = some s) : FAt W b (i * 3) s := by
  have key : ∀ j u, (fracL s)[j]? = some u → W.cell? ⟨b, i * 3 + j, none⟩ = some u := fun j u hj => by
    have hj4 : j < 3 := by have := (List.getElem?_eq_some_iff.1 hj).1; simpa [fracL] using this
    rw [cell_of_row W b (i * 3 + j) _ _ _ h]
    have := (rowF_get xs i s hi j hj4).trans hj
    simpa [tbc] using this
  exact ⟨key 0 _ rfl, key 1 _ rfl, key 2 _ rfl⟩
theorem blk_get {W : World} {b : Nat} {xs : List Fr} {ty : TypeId} (h : Blk W b (tbc xs) ty) {i : Nat} (hi : i < xs.length) : FAt W b (i * 3) (xs.getD i zK) := by
  rw [List.getD_eq_getElem?_getD, List.getElem?_eq_getElem hi, Option.getD_some]
  exact blk_at h (List.getElem?_eq_getElem hi)
theorem blk_put {W : World} {b : Nat} {xs : List Fr} {ty : TypeId} (h : Blk W b (tbc xs) ty) {i : Nat} (hi : i < xs.length) (s : Fr) :
    Blk (((W.setCell ⟨b, i * 3, none⟩ (.int .i64 s.re)).setCell ⟨b, i * 3 + 1, none⟩ (.int .i64 s.im)).setCell ⟨b, i * 3 + 2, none⟩ (.int .i64 s.den)) b (tbc (xs.set i s)) ty := by
  have e : tbc (xs.set i s) = (((tbc xs).setIfInBounds (i * 3) (.int .i64 s.re)).setIfInBounds (i * 3 + 1) (.int .i64 s.im)).setIfInBounds (i * 3 + 2) (.int .i64 s.den) := by
    unfold tbc
    rw [← rowF_put xs i s hi]
    simp
  unfold Blk at h ⊢
  rw [e]
  simp [World.setCell, Array.getElem?_modify, h]
section
variable {w W W' : World} {bs : Nat} {bl : List (Nat × Array Value × TypeId)} {bad bad' : Bool}
theorem QW.cell (h : QW w bs bl bad W) (hbs : bs < w.heap.size) {p : Addr} (hp : w.heap.size ≤ p.block) (hq : ∀ q ∈ bl, q.1 ≠ p.block) (u : Value) : QW w bs bl bad (W.setCell p u) :=
  ⟨h.X.setCell hp u, h.s.far (by omega) u, fun q h1 => ⟨(h.g q h1).1, (Below.heap_setCell _ _ _ _ (hq q h1)).trans (h.g q h1).2⟩⟩
theorem QW.alloc (h : QW w bs bl bad W) (o : Obj) : QW w bs bl bad (W.alloc o) :=
  ⟨h.X.alloc h.X.size o, h.s.alloc o, fun q h1 => ⟨(h.g q h1).1, (Below.heap_alloc _ _ _ (Array.getElem?_eq_some_iff.1 (h.g q h1).2).1).trans (h.g q h1).2⟩⟩
theorem QW.drew (h : QW w bs bl bad W) : QW w bs bl bad W.drew := ⟨h.X.drew, h.s, h.g⟩
theorem QW.flag (h : QW w bs bl bad W) (hbs : bs < w.heap.size) (c : Bool) : QW w bs bl c (W.setCell ⟨bs, 0, none⟩ (.bool (!c))) :=
  ⟨h.X.setSum _, h.s.set c, fun q h1 => ⟨(h.g q h1).1, (Below.heap_setCell _ _ _ _ (by have := (h.g q h1).1; show q.1 ≠ bs; omega)).trans (h.g q h1).2⟩⟩
theorem QW.below (h : QW w bs bl bad W) {B : Nat} (hb : Below B W W') (hB : W.heap.size ≤ B) (hbs : bs < w.heap.size) : QW w bs bl bad W' := by
  have hz := h.X.size
  exact ⟨h.X.stepB (hb.mono hB) hz, h.s.below hb (by omega), fun q h1 => ⟨(h.g q h1).1, (hb.block q.1 (by have := (Array.getElem?_eq_some_iff.1 (h.g q h1).2).1; omega)).trans (h.g q h1).2⟩⟩
theorem QW.sub (h : QW w bs bl bad W) (e : bad = bad') : QW w bs bl bad' W := e ▸ h
theorem QW.ofStart (h : OkIs w bs bad) : QW w bs [] bad w := ⟨BelX.refl _ _ _, h, fun _ h => nomatch h⟩
theorem QW.new (h : QW w bs bl bad W) (cs : Array Value) (ty : TypeId) : QW w bs (bl ++ [(W.heap.size, cs, ty)]) bad (W.alloc (.cells cs ty)) :=
  (h.alloc _).more h.X.size (heap_alloc_last W _)
end
end Go.Proofs.YtodhbkinbcemnaaGreatDoor
