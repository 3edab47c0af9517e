/-
  Reading of arguments and of the listed variables, for the frames of the statements.
-/
import Derived.Test.YtejkeihgcggmbaaDoorFl
import Derived.Test.YtejkeihgcggmbaaDoorWc
namespace Go.Proofs.YtejkeihgcggmbaaDoor
set_option linter.unusedSimpArgs false
set_option linter.unusedVariables false
open Go.ChangeShapes Go.WideShapes Go.ChangeAt Go.RowKit Go.WideElems
theorem fl_int : Flat Tryd.prog 3 1 1 := flat_int Tryd.underlying3
theorem co_int : Tryd.prog.cellsOf 3 = 1 := by kernel_rfl
theorem co_Frac : Tryd.prog.cellsOf 27 = 3 := by kernel_rfl
theorem fl_Frac : Flat Tryd.prog 27 3 2 := flat_struct3 Tryd.underlying27 fl_int co_int rfl fl_int co_int rfl fl_int co_int rfl co_Frac
theorem co_LFrac : Tryd.prog.cellsOf 45 = 3 := by kernel_rfl
theorem fl_LFrac : Flat Tryd.prog 45 3 2 := flat_struct3 Tryd.underlying45 fl_int co_int rfl fl_int co_int rfl fl_int co_int rfl co_LFrac
theorem co_A4 : Tryd.prog.cellsOf 28 = 12 := by kernel_rfl
theorem fl_A4 : Flat Tryd.prog 28 12 3 := flat_array Tryd.underlying28 fl_Frac co_Frac co_A4
theorem gn_zero : Tryd.prog.globalNamed "loop.example/polarisedlight/impl.zero" = some 0 := by kernel_rfl
theorem gt_zero : (Tryd.prog.globals[0]?).map (·.type) = some 27 := by kernel_rfl
theorem gr_zero : ∀ g t, Tryd.prog.globalNamed "loop.example/polarisedlight/impl.zero" = some g → (Tryd.prog.globals[g]?).map (·.type) = some t → Tryd.prog.readableRec t = true ∧ t < Tryd.prog.types.size := by
  intro g t hg ht
  obtain rfl := Option.some.inj (gn_zero.symm.trans hg)
  obtain rfl := Option.some.inj (gt_zero.symm.trans ht)
  exact ⟨by kernel_rfl, of_decide_eq_true (by kernel_rfl)⟩
theorem gv_zero {W : World} {H : Type} {enc : TypeId × Value → H} {base : Nat} {spare : Nat → Bool} {held : Bool} {g t : Nat} {cs : Array Value} {f : Nat} {p : List MemPlace}
    (hg : Tryd.prog.globalNamed "loop.example/polarisedlight/impl.zero" = some g) (ht : (Tryd.prog.globals[g]?).map (·.type) = some t) (hv : W.var? Tryd.prog "loop.example/polarisedlight/impl.zero" = some cs)
    (hd : DataW.trod enc Tryd.prog W base spare held f t cs.toList = some (.agg [.lit (.int .i64 0), .lit (.int .i64 0), .lit (.int .i64 1)], p)) : GZ W := by
  obtain rfl := Option.some.inj (gn_zero.symm.trans hg)
  obtain rfl := Option.some.inj (gt_zero.symm.trans ht)
  have h := var_cells fl_Frac gn_zero hv hd
  have c0 : W.cell? ⟨0, 0, none⟩ = some (.int .i64 0) := h 0
  have hlt := World.block_lt_of_cell? W _ c0
  simp only at hlt
  exact ⟨by omega, c0, h 1, h 2⟩
set_option maxRecDepth 100000 in
theorem open_LFrac {H : Type} {enc : TypeId × Value → H} {W : World} {b0 base : Nat} {spare : Nat → Bool} {held : Bool} {v : Value} {d : DataW H} {p : List MemPlace}
    (hv : Value.okWide Tryd.prog W .any b0 45 v) (h : DataW.Trod enc Tryd.prog W base spare held 45 v d p) : ∃ a : Fr, v = frv a := by
  obtain ⟨cs, rfl, hsz⟩ := okWide_struct Tryd.underlying45 hv
  obtain ⟨fuel, hf⟩ := h
  obtain ⟨hl, _, hk⟩ := fl_LFrac hf
  obtain ⟨l⟩ := cs
  simp only [Value.cells] at hl hk
  obtain ⟨a, ha⟩ := hk 0 (by omega)
  obtain ⟨b, hb⟩ := hk 1 (by omega)
  obtain ⟨c, hc⟩ := hk 2 (by omega)
  refine ⟨⟨a, b, c⟩, ?_⟩
  have e : l = [.int .i64 a, .int .i64 b, .int .i64 c] := by
    match l, hl, ha, hb, hc with
    | [x, y, z], _, ha, hb, hc => simp at ha hb hc; rw [ha, hb, hc]
  rw [e]
end Go.Proofs.YtejkeihgcggmbaaDoor
