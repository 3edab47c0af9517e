/-
  The walks of the drawers: from any bytes, each draws some argument, and makes new memory only.
-/
import Derived.Test.YtiagnnmnaakmoaaDoorDr
namespace Go.Proofs.YtiagnnmnaakmoaaDoor
set_option linter.unusedSimpArgs false
set_option linter.unusedVariables false
open Go.RowKit
/-- A slice of bytes that lies in the world. -/
def Bytes (A : Option Addr) (len cap : Nat) (w : World) : Prop := len ≤ cap ∧ cap ≤ 9223372036854775807 ∧
  (0 < len → ∃ bb off : Nat, A = some ⟨bb, off, none⟩ ∧ bb < w.heap.size ∧ ∀ i, i < len → ∃ x : Int, w.cell? ⟨bb, off + i, none⟩ = some (.int .u8 x) ∧ 0 ≤ x ∧ x ≤ 255)
theorem Bytes.below {A : Option Addr} {len cap : Nat} {w w' : World} (h : Bytes A len cap w) (hb : Below w.heap.size w w') : Bytes A len cap w' := by
  obtain ⟨h1, h2, h3⟩ := h
  refine ⟨h1, h2, fun h0 => ?_⟩
  obtain ⟨bb, off, e, hbb, hc⟩ := h3 h0
  have hs := hb.size
  refine ⟨bb, off, e, by omega, fun i hi => ?_⟩
  obtain ⟨x, hx, k0, k1⟩ := hc i hi
  exact ⟨x, (hb.cell (p := ⟨bb, off + i, none⟩) (show bb < w.heap.size from hbb)).trans hx, k0, k1⟩
theorem openB (A : Option Addr) (len cap : Nat) (w : World) (br : Nat) (hbr : br = w.heap.size) (h : Bytes A len cap w) :
    Calls Tryd.prog 38 #[.slice A len cap] w fun e w' => e = .returned (.pointer (some ⟨br, 0, none⟩)) ∧ RdIs w' br 0 ∧ Below w.heap.size w w' := by
  subst hbr
  exact open_any A len cap w h.1 h.2.1 h.2.2
end Go.Proofs.YtiagnnmnaakmoaaDoor
