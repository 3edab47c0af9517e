/-
  An argument that is a list of fractions, opened.
-/
import Derived.Test.YtodhbkinbcemnaaDoorPg
import Derived.Test.YtodhbkinbcemnaaDoorPj
import Derived.ChangeSlices
import Derived.Deep.Slices
namespace Go.Proofs.YtodhbkinbcemnaaDoor
set_option linter.unusedSimpArgs false
set_option linter.unusedVariables false
open Go.ChangeShapes Go.WideShapes Go.ChangeAt Go.RowKit Go.WideElems Go.Deep
theorem co_LSta : Tryd.prog.cellsOf 28 = 2 := by kernel_rfl
theorem fl_LSta : Flat Tryd.prog 28 2 2 := flat_struct2 Tryd.underlying28 fl_int co_int rfl fl_int co_int rfl co_LSta
set_option maxRecDepth 100000 in
theorem open_LSta {H : Type} {enc : TypeId × Value → H} {W : World} {b0 base : Nat} {spare : Nat → Bool} {held : Bool} {v : Value} {d : DataW H} {p : List MemPlace}
    (hv : Value.okWide Tryd.prog W .any b0 28 v) (h : DataW.Trod enc Tryd.prog W base spare held 28 v d p) : ∃ a : Sta, v = stv a := by
  obtain ⟨cs, rfl, hsz⟩ := okWide_struct Tryd.underlying28 hv
  obtain ⟨fuel, hf⟩ := h
  obtain ⟨hl, _, hk⟩ := fl_LSta hf
  obtain ⟨l⟩ := cs
  simp only [Value.cells] at hl hk
  obtain ⟨a, ha⟩ := hk 0 (by omega)
  obtain ⟨b, hb⟩ := hk 1 (by omega)
  refine ⟨⟨a, b⟩, ?_⟩
  have e : l = [.int .i64 a, .int .i64 b] := by
    match l, hl, ha, hb with
    | [x, y], _, ha, hb => simp at ha hb; rw [ha, hb]
  rw [e]
def zsa0 : Sta := ⟨0, 0⟩
end Go.Proofs.YtodhbkinbcemnaaDoor
