/-
  The contracts of PortFringes with named results. Nothing is claimed here; the walks of the laws use it.
-/
import Derived.Test.YtjbnkefeacineaaGreatDoorIl
namespace Go.Proofs.YtjbnkefeacineaaGreatDoor
set_option linter.unusedSimpArgs false
set_option linter.unusedVariables false
open Go.RowKit
theorem fringes_m (a b : ByteArray) (v : Jn) (rs : List Fr) (ok : Bool) (w : World) (ha : a.size ≤ 1048576) (hb : b.size ≤ 1048576) (hG : GP w) (e : Hid ((fringesI a.data.toList b.data.toList v).getD [] = rs ∧ (fringesI a.data.toList b.data.toList v).isSome = ok)) :
    Calls Tryz.prog 15 #[.string a, .string b, jnv v] w fun e w' => ∃ lv, e = .returned (.tuple #[lv, .bool ok]) ∧ OwF w.heap.size lv rs w' ∧ Below w.heap.size w w' := by
  rw [← e.out.1, ← e.out.2]; exact fringes_any a b v w ha hb hG
theorem sfringes_m (a b : ByteArray) (v : Jn) (rs : List Fr) (ok : Bool) (w : World) (e : Hid ((fringesI a.data.toList b.data.toList v).getD [] = rs ∧ (fringesI a.data.toList b.data.toList v).isSome = ok)) :
    Calls Tryz.prog 41 #[.string a, .string b, jnv v] w fun e w' => ∃ lv, e = .returned (.tuple #[lv, .bool ok]) ∧ OwF w.heap.size lv rs w' ∧ Below w.heap.size w w' := by
  rw [← e.out.1, ← e.out.2]; exact sfringes_any a b v w
end Go.Proofs.YtjbnkefeacineaaGreatDoor
