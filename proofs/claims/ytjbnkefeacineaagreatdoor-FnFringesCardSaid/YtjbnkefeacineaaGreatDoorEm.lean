/-
  What the nine walks of port statements share: the contracts of PortKeeps and PortDark with named results. Nothing is claimed here.
-/
import Derived.Test.YtjbnkefeacineaaGreatDoorEc
namespace Go.Proofs.YtjbnkefeacineaaGreatDoor
set_option linter.unusedSimpArgs false
set_option linter.unusedVariables false
open Go.RowKit
attribute [local go_sem ↓] Go.wp_at_zero Go.wp_at_succ
theorem keeps_m (a b : ByteArray) (k : Int) (v : Jn) (R : Bool) (w : World) (ha : a.size ≤ 1048576) (hb : b.size ≤ 1048576) (hG : GP w) (e : Hid (keepsI a.data.toList b.data.toList k v = R)) :
    Calls Tryz.prog 37 #[.string a, .string b, .int .i64 k, jnv v] w fun e w' => e = .returned (.bool R) ∧ Below w.heap.size w w' := by
  rw [← e.out]; exact keeps_any a b k v w ha hb hG
theorem skeeps_m (a b : ByteArray) (k : Int) (v : Jn) (R : Bool) (w : World) (e : Hid (keepsI a.data.toList b.data.toList k v = R)) :
    Calls Tryz.prog 44 #[.string a, .string b, .int .i64 k, jnv v] w fun e w' => e = .returned (.bool R) ∧ Below w.heap.size w w' := by
  rw [← e.out]; exact skeeps_any a b k v w
theorem darkP_m (a b : ByteArray) (v : Jn) (R : Bool) (w : World) (ha : a.size ≤ 1048576) (hb : b.size ≤ 1048576) (hG : GP w) (e : Hid (darkI a.data.toList b.data.toList v = R)) :
    Calls Tryz.prog 27 #[.string a, .string b, jnv v] w fun e w' => e = .returned (.bool R) ∧ Below w.heap.size w w' := by
  rw [← e.out]; exact dark_port a b v w ha hb hG
theorem sdark_m (a b : ByteArray) (v : Jn) (R : Bool) (w : World) (e : Hid (darkI a.data.toList b.data.toList v = R)) :
    Calls Tryz.prog 39 #[.string a, .string b, jnv v] w fun e w' => e = .returned (.bool R) ∧ Below w.heap.size w w' := by
  rw [← e.out]; exact sdark_any a b v w
end Go.Proofs.YtjbnkefeacineaaGreatDoor
