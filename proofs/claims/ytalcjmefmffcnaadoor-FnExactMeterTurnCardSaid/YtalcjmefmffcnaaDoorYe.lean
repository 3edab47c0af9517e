/-
  An argument that is four numbers, opened.
-/
import Derived.Test.YtalcjmefmffcnaaDoorKp
namespace Go.Proofs.YtalcjmefmffcnaaDoor
set_option linter.unusedSimpArgs false
set_option linter.unusedVariables false
open Go.ChangeShapes Go.WideShapes Go.ChangeAt Go.RowKit Go.WideElems Go.Deep
set_option maxRecDepth 100000 in
theorem open_LStk {H : Type} {enc : TypeId × Value → H} {W : World} {b0 base : Nat} {spare : Nat → Bool} {held : Bool} {v : Value} {d : DataW H} {p : List MemPlace}
    (hv : Value.okWide Tryd.prog W .any b0 58 v) (h : DataW.Trod enc Tryd.prog W base spare held 58 v d p) : ∃ a : Mt, v = mtv a := by
  obtain ⟨cs, rfl, hsz⟩ := okWide_struct Tryd.underlying58 hv
  obtain ⟨fuel, hf⟩ := h
  obtain ⟨hl, _, hk⟩ := fl_LStk hf
  obtain ⟨l⟩ := cs
  simp only [Value.cells] at hl hk
  obtain ⟨a0, h0⟩ := hk 0 (by omega)
  obtain ⟨a1, h1⟩ := hk 1 (by omega)
  obtain ⟨a2, h2⟩ := hk 2 (by omega)
  obtain ⟨a3, h3⟩ := hk 3 (by omega)
  obtain ⟨a4, h4⟩ := hk 4 (by omega)
  obtain ⟨a5, h5⟩ := hk 5 (by omega)
  obtain ⟨a6, h6⟩ := hk 6 (by omega)
  obtain ⟨a7, h7⟩ := hk 7 (by omega)
  obtain ⟨a8, h8⟩ := hk 8 (by omega)
  obtain ⟨a9, h9⟩ := hk 9 (by omega)
  obtain ⟨a10, h10⟩ := hk 10 (by omega)
  obtain ⟨a11, h11⟩ := hk 11 (by omega)
  refine ⟨⟨⟨a0, a1, a2⟩, ⟨a3, a4, a5⟩, ⟨a6, a7, a8⟩, ⟨a9, a10, a11⟩⟩, ?_⟩
  have e : l = [.int .i64 a0, .int .i64 a1, .int .i64 a2, .int .i64 a3, .int .i64 a4, .int .i64 a5, .int .i64 a6, .int .i64 a7, .int .i64 a8, .int .i64 a9, .int .i64 a10, .int .i64 a11] := by
    apply List.ext_getElem?
    intro i
    by_cases hi : i < 12
    · match i, hi with
      | 0, _ => exact h0
      | 1, _ => exact h1
      | 2, _ => exact h2
      | 3, _ => exact h3
      | 4, _ => exact h4
      | 5, _ => exact h5
      | 6, _ => exact h6
      | 7, _ => exact h7
      | 8, _ => exact h8
      | 9, _ => exact h9
      | 10, _ => exact h10
      | 11, _ => exact h11
    · rw [List.getElem?_eq_none (by omega), List.getElem?_eq_none (by simp; omega)]
  rw [e]
end Go.Proofs.YtalcjmefmffcnaaDoor
