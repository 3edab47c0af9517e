/-
  Reading of arguments and of the listed variables, for the frames of the statements.
-/
import Derived.Test.YtddfpbdmppnkiaaFl
import Derived.Test.YtddfpbdmppnkiaaWc
namespace Go.Proofs.Ytddfpbdmppnkiaa
set_option linter.unusedSimpArgs false
set_option linter.unusedVariables false
open Go.ChangeShapes Go.WideShapes Go.ChangeAt Go.RowKit Go.WideElems
theorem fl_int : Flat Try.prog 3 1 1 := flat_int Try.underlying3
theorem co_int : Try.prog.cellsOf 3 = 1 := by kernel_rfl
theorem co_Frac : Try.prog.cellsOf 27 = 3 := by kernel_rfl
theorem fl_Frac : Flat Try.prog 27 3 2 := flat_struct3 Try.underlying27 fl_int co_int rfl fl_int co_int rfl fl_int co_int rfl co_Frac
theorem co_LFrac : Try.prog.cellsOf 23 = 3 := by kernel_rfl
theorem fl_LFrac : Flat Try.prog 23 3 2 := flat_struct3 Try.underlying23 fl_int co_int rfl fl_int co_int rfl fl_int co_int rfl co_LFrac
theorem co_Jones : Try.prog.cellsOf 33 = 6 := by kernel_rfl
theorem fl_Jones : Flat Try.prog 33 6 3 := flat_struct2 Try.underlying33 fl_LFrac co_LFrac rfl fl_LFrac co_LFrac rfl co_Jones
set_option maxRecDepth 100000 in
theorem open_LFrac {H : Type} {enc : TypeId × Value → H} {W : World} {b0 base : Nat} {spare : Nat → Bool} {held : Bool} {v : Value} {d : DataW H} {p : List MemPlace}
    (hv : Value.okWide Try.prog W .any b0 23 v) (h : DataW.Trod enc Try.prog W base spare held 23 v d p) : ∃ a : Fr, v = frv a := by
  obtain ⟨cs, rfl, hsz⟩ := okWide_struct Try.underlying23 hv
  obtain ⟨fuel, hf⟩ := h
  obtain ⟨hl, _, hk⟩ := fl_LFrac hf
  obtain ⟨l⟩ := cs
  simp only [Value.cells] at hl hk
  obtain ⟨a, ha⟩ := hk 0 (by omega)
  obtain ⟨b, hb⟩ := hk 1 (by omega)
  obtain ⟨c, hc⟩ := hk 2 (by omega)
  refine ⟨⟨a, b, c⟩, ?_⟩
  have e : l = [.int .i64 a, .int .i64 b, .int .i64 c] := by
    match l, hl, ha, hb, hc with
    | [x, y, z], _, ha, hb, hc => simp at ha hb hc; rw [ha, hb, hc]
  rw [e]
set_option maxRecDepth 100000 in
theorem open_LJones {H : Type} {enc : TypeId × Value → H} {W : World} {b0 base : Nat} {spare : Nat → Bool} {held : Bool} {v : Value} {d : DataW H} {p : List MemPlace}
    (hv : Value.okWide Try.prog W .any b0 33 v) (h : DataW.Trod enc Try.prog W base spare held 33 v d p) : ∃ a : Jn, v = jnv a := by
  obtain ⟨cs, rfl, hsz⟩ := okWide_struct Try.underlying33 hv
  obtain ⟨fuel, hf⟩ := h
  obtain ⟨hl, _, hk⟩ := fl_Jones hf
  obtain ⟨l⟩ := cs
  simp only [Value.cells] at hl hk
  obtain ⟨a0, h0⟩ := hk 0 (by omega)
  obtain ⟨a1, h1⟩ := hk 1 (by omega)
  obtain ⟨a2, h2⟩ := hk 2 (by omega)
  obtain ⟨a3, h3⟩ := hk 3 (by omega)
  obtain ⟨a4, h4⟩ := hk 4 (by omega)
  obtain ⟨a5, h5⟩ := hk 5 (by omega)
  refine ⟨⟨⟨a0, a1, a2⟩, ⟨a3, a4, a5⟩⟩, ?_⟩
  have e : l = [.int .i64 a0, .int .i64 a1, .int .i64 a2, .int .i64 a3, .int .i64 a4, .int .i64 a5] := by
    match l, hl, h0, h1, h2, h3, h4, h5 with
    | [_, _, _, _, _, _], _, h0, h1, h2, h3, h4, h5 => simp at h0 h1 h2 h3 h4 h5; rw [h0, h1, h2, h3, h4, h5]
  rw [e]
end Go.Proofs.Ytddfpbdmppnkiaa
