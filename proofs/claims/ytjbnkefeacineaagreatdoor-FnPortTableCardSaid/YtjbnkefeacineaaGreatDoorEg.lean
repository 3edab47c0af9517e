/-
  Results as pairs; the empty list of blocks. Nothing is claimed here; the walks of the port statements use it.
-/
import Derived.Test.YtjbnkefeacineaaGreatDoorIk
namespace Go.Proofs.YtjbnkefeacineaaGreatDoor
set_option linter.unusedSimpArgs false
set_option linter.unusedVariables false
open Go.RowKit
theorem pw_some {o : Option (Fr × Fr)} {A B : Fr} (h : pw1 o = A ∧ pw2 o = B ∧ o.isSome = true) : o = some (A, B) := by
  cases o with
  | none => cases h.2.2
  | some p => obtain ⟨rfl, rfl, -⟩ := h; rfl
theorem getD_some {α : Type} {o : Option α} {d x : α} (h : o.getD d = x ∧ o.isSome = true) : o = some x := by
  cases o with
  | none => cases h.2
  | some y => obtain ⟨rfl, -⟩ := h; rfl
theorem BW.nil (w : World) : BW w [] w := ⟨Below.refl _ _, fun q hq => (by cases hq), fun q hq => (by cases hq), List.Pairwise.nil⟩
theorem BW.cons {w W V : World} {bl : List (Nat × Array Value × TypeId)} {b : Nat} {cs : Array Value} {t : TypeId} (h : BW w bl W) (hb : Below W.heap.size W V) (hx : Blk V b cs t) (hl : W.heap.size ≤ b) : BW w ((b, cs, t) :: bl) V := by
  have h2 := h.step hb
  refine ⟨h2.B, fun q hq => ?_, fun q hq => ?_, List.pairwise_cons.2 ⟨fun q hq => Nat.lt_of_lt_of_le (blk_lt (h.bs q hq)) hl, h.od⟩⟩
  · rcases List.mem_cons.1 hq with rfl | hq
    · exact hx
    · exact h2.bs q hq
  · rcases List.mem_cons.1 hq with rfl | hq
    · exact Nat.le_trans h.B.size hl
    · exact h.lo q hq
theorem ok_at {A B : Prop} {x y z : Bool} (h : A ∧ B ∧ x = y) (e : y = z) : A ∧ B ∧ x = z := ⟨h.1, h.2.1, h.2.2.trans e⟩
theorem ok_at2 {A : Prop} {x y z : Bool} (h : A ∧ x = y) (e : y = z) : A ∧ x = z := ⟨h.1, h.2.trans e⟩
end Go.Proofs.YtjbnkefeacineaaGreatDoor
