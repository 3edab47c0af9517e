/-
  Reading of arguments and of the listed variables, for the frames of the statements.
-/
import Derived.Test.YtiagnnmnaakmoaaDoorFl
import Derived.Test.YtiagnnmnaakmoaaDoorWc
namespace Go.Proofs.YtiagnnmnaakmoaaDoor
set_option linter.unusedSimpArgs false
set_option linter.unusedVariables false
open Go.ChangeShapes Go.WideShapes Go.ChangeAt Go.RowKit Go.WideElems
theorem fl_int : Flat Tryd.prog 3 1 1 := flat_int Tryd.underlying3
theorem co_int : Tryd.prog.cellsOf 3 = 1 := by kernel_rfl
theorem co_Frac : Tryd.prog.cellsOf 31 = 3 := by kernel_rfl
theorem fl_Frac : Flat Tryd.prog 31 3 2 := flat_struct3 Tryd.underlying31 fl_int co_int rfl fl_int co_int rfl fl_int co_int rfl co_Frac
theorem co_LFrac : Tryd.prog.cellsOf 24 = 3 := by kernel_rfl
theorem fl_LFrac : Flat Tryd.prog 24 3 2 := flat_struct3 Tryd.underlying24 fl_int co_int rfl fl_int co_int rfl fl_int co_int rfl co_LFrac
theorem co_Jones : Tryd.prog.cellsOf 26 = 6 := by kernel_rfl
theorem fl_Jones : Flat Tryd.prog 26 6 3 := flat_struct2 Tryd.underlying26 fl_LFrac co_LFrac rfl fl_LFrac co_LFrac rfl co_Jones
theorem co_A4 : Tryd.prog.cellsOf 42 = 12 := by kernel_rfl
theorem fl_A4 : Flat Tryd.prog 42 12 3 := flat_array Tryd.underlying42 fl_Frac co_Frac co_A4
theorem co_Mat : Tryd.prog.cellsOf 44 = 12 := by kernel_rfl
theorem fl_Mat : Flat Tryd.prog 44 12 4 := flat_struct1 Tryd.underlying44 fl_A4 co_A4 rfl co_Mat
theorem gn_zero : Tryd.prog.globalNamed "loop.example/polarisedlight/impl.zero" = some 1 := by kernel_rfl
theorem gt_zero : (Tryd.prog.globals[1]?).map (·.type) = some 31 := by kernel_rfl
theorem gr_zero : ∀ g t, Tryd.prog.globalNamed "loop.example/polarisedlight/impl.zero" = some g → (Tryd.prog.globals[g]?).map (·.type) = some t → Tryd.prog.readableRec t = true ∧ t < Tryd.prog.types.size := by
  intro g t hg ht
  obtain rfl := Option.some.inj (gn_zero.symm.trans hg)
  obtain rfl := Option.some.inj (gt_zero.symm.trans ht)
  exact ⟨by kernel_rfl, of_decide_eq_true (by kernel_rfl)⟩
theorem gv_zero {W : World} {H : Type} {enc : TypeId × Value → H} {base : Nat} {spare : Nat → Bool} {held : Bool} {g t : Nat} {cs : Array Value} {f : Nat} {p : List MemPlace}
    (hg : Tryd.prog.globalNamed "loop.example/polarisedlight/impl.zero" = some g) (ht : (Tryd.prog.globals[g]?).map (·.type) = some t) (hv : W.var? Tryd.prog "loop.example/polarisedlight/impl.zero" = some cs)
    (hd : DataW.trod enc Tryd.prog W base spare held f t cs.toList = some (.agg [.lit (.int .i64 0), .lit (.int .i64 0), .lit (.int .i64 1)], p)) : GZ W := by
  obtain rfl := Option.some.inj (gn_zero.symm.trans hg)
  obtain rfl := Option.some.inj (gt_zero.symm.trans ht)
  have h := var_cells fl_Frac gn_zero hv hd
  have c0 : W.cell? ⟨1, 0, none⟩ = some (.int .i64 0) := h 0
  have hlt := World.block_lt_of_cell? W _ c0
  simp only at hlt
  exact ⟨by omega, c0, h 1, h 2⟩
theorem gn_one : Tryd.prog.globalNamed "loop.example/polarisedlight/impl.one" = some 2 := by kernel_rfl
theorem gt_one : (Tryd.prog.globals[2]?).map (·.type) = some 31 := by kernel_rfl
theorem gr_one : ∀ g t, Tryd.prog.globalNamed "loop.example/polarisedlight/impl.one" = some g → (Tryd.prog.globals[g]?).map (·.type) = some t → Tryd.prog.readableRec t = true ∧ t < Tryd.prog.types.size := by
  intro g t hg ht
  obtain rfl := Option.some.inj (gn_one.symm.trans hg)
  obtain rfl := Option.some.inj (gt_one.symm.trans ht)
  exact ⟨by kernel_rfl, of_decide_eq_true (by kernel_rfl)⟩
theorem gv_one {W : World} {H : Type} {enc : TypeId × Value → H} {base : Nat} {spare : Nat → Bool} {held : Bool} {g t : Nat} {cs : Array Value} {f : Nat} {p : List MemPlace}
    (hg : Tryd.prog.globalNamed "loop.example/polarisedlight/impl.one" = some g) (ht : (Tryd.prog.globals[g]?).map (·.type) = some t) (hv : W.var? Tryd.prog "loop.example/polarisedlight/impl.one" = some cs)
    (hd : DataW.trod enc Tryd.prog W base spare held f t cs.toList = some (.agg [.lit (.int .i64 1), .lit (.int .i64 0), .lit (.int .i64 1)], p)) : GO W := by
  obtain rfl := Option.some.inj (gn_one.symm.trans hg)
  obtain rfl := Option.some.inj (gt_one.symm.trans ht)
  have h := var_cells fl_Frac gn_one hv hd
  have c0 : W.cell? ⟨2, 0, none⟩ = some (.int .i64 1) := h 0
  have hlt := World.block_lt_of_cell? W _ c0
  simp only at hlt
  exact ⟨by omega, c0, h 1, h 2⟩
theorem gn_same : Tryd.prog.globalNamed "loop.example/polarisedlight/impl.same" = some 0 := by kernel_rfl
theorem gt_same : (Tryd.prog.globals[0]?).map (·.type) = some 44 := by kernel_rfl
theorem gr_same : ∀ g t, Tryd.prog.globalNamed "loop.example/polarisedlight/impl.same" = some g → (Tryd.prog.globals[g]?).map (·.type) = some t → Tryd.prog.readableRec t = true ∧ t < Tryd.prog.types.size := by
  intro g t hg ht
  obtain rfl := Option.some.inj (gn_same.symm.trans hg)
  obtain rfl := Option.some.inj (gt_same.symm.trans ht)
  exact ⟨by kernel_rfl, of_decide_eq_true (by kernel_rfl)⟩
set_option maxRecDepth 100000 in
theorem gv_same {W : World} {H : Type} {enc : TypeId × Value → H} {base : Nat} {spare : Nat → Bool} {held : Bool} {g t : Nat} {cs : Array Value} {f : Nat} {p : List MemPlace}
    (hg : Tryd.prog.globalNamed "loop.example/polarisedlight/impl.same" = some g) (ht : (Tryd.prog.globals[g]?).map (·.type) = some t) (hv : W.var? Tryd.prog "loop.example/polarisedlight/impl.same" = some cs)
    (hd : DataW.trod enc Tryd.prog W base spare held f t cs.toList = some (.agg [.agg [.agg [.lit (.int .i64 1), .lit (.int .i64 0), .lit (.int .i64 1)], .agg [.lit (.int .i64 0), .lit (.int .i64 0), .lit (.int .i64 1)], .agg [.lit (.int .i64 0), .lit (.int .i64 0), .lit (.int .i64 1)], .agg [.lit (.int .i64 1), .lit (.int .i64 0), .lit (.int .i64 1)]]], p)) : GS W := by
  obtain rfl := Option.some.inj (gn_same.symm.trans hg)
  obtain rfl := Option.some.inj (gt_same.symm.trans ht)
  have h := var_cells fl_Mat gn_same hv hd
  have c0 : W.cell? ⟨0, 0, none⟩ = some (.int .i64 1) := h 0
  have hlt := World.block_lt_of_cell? W _ c0
  simp only at hlt
  exact ⟨by omega, ⟨c0, h 1, h 2⟩, ⟨h 3, h 4, h 5⟩, ⟨h 6, h 7, h 8⟩, ⟨h 9, h 10, h 11⟩⟩
theorem gn_turns : Tryd.prog.globalNamed "loop.example/polarisedlight/impl.turns" = some 3 := by kernel_rfl
theorem gt_turns : (Tryd.prog.globals[3]?).map (·.type) = some 42 := by kernel_rfl
theorem gr_turns : ∀ g t, Tryd.prog.globalNamed "loop.example/polarisedlight/impl.turns" = some g → (Tryd.prog.globals[g]?).map (·.type) = some t → Tryd.prog.readableRec t = true ∧ t < Tryd.prog.types.size := by
  intro g t hg ht
  obtain rfl := Option.some.inj (gn_turns.symm.trans hg)
  obtain rfl := Option.some.inj (gt_turns.symm.trans ht)
  exact ⟨by kernel_rfl, of_decide_eq_true (by kernel_rfl)⟩
set_option maxRecDepth 100000 in
theorem gv_turns {W : World} {H : Type} {enc : TypeId × Value → H} {base : Nat} {spare : Nat → Bool} {held : Bool} {g t : Nat} {cs : Array Value} {f : Nat} {p : List MemPlace}
    (hg : Tryd.prog.globalNamed "loop.example/polarisedlight/impl.turns" = some g) (ht : (Tryd.prog.globals[g]?).map (·.type) = some t) (hv : W.var? Tryd.prog "loop.example/polarisedlight/impl.turns" = some cs)
    (hd : DataW.trod enc Tryd.prog W base spare held f t cs.toList = some (.agg [.agg [.lit (.int .i64 1), .lit (.int .i64 0), .lit (.int .i64 1)], .agg [.lit (.int .i64 0), .lit (.int .i64 1), .lit (.int .i64 1)], .agg [.lit (.int .i64 (-1)), .lit (.int .i64 0), .lit (.int .i64 1)], .agg [.lit (.int .i64 0), .lit (.int .i64 (-1)), .lit (.int .i64 1)]], p)) : GT W := by
  obtain rfl := Option.some.inj (gn_turns.symm.trans hg)
  obtain rfl := Option.some.inj (gt_turns.symm.trans ht)
  have h := var_cells fl_A4 gn_turns hv hd
  have c0 : W.cell? ⟨3, 0, none⟩ = some (.int .i64 1) := h 0
  have hlt := World.block_lt_of_cell? W _ c0
  simp only at hlt
  exact ⟨by omega, ⟨c0, h 1, h 2⟩, ⟨h 3, h 4, h 5⟩, ⟨h 6, h 7, h 8⟩, ⟨h 9, h 10, h 11⟩⟩
set_option maxRecDepth 100000 in
theorem open_LJones {H : Type} {enc : TypeId × Value → H} {W : World} {b0 base : Nat} {spare : Nat → Bool} {held : Bool} {v : Value} {d : DataW H} {p : List MemPlace}
    (hv : Value.okWide Tryd.prog W .any b0 26 v) (h : DataW.Trod enc Tryd.prog W base spare held 26 v d p) : ∃ a : Jn, v = jnv a := by
  obtain ⟨cs, rfl, hsz⟩ := okWide_struct Tryd.underlying26 hv
  obtain ⟨fuel, hf⟩ := h
  obtain ⟨hl, _, hk⟩ := fl_Jones hf
  obtain ⟨l⟩ := cs
  simp only [Value.cells] at hl hk
  obtain ⟨a0, h0⟩ := hk 0 (by omega)
  obtain ⟨a1, h1⟩ := hk 1 (by omega)
  obtain ⟨a2, h2⟩ := hk 2 (by omega)
  obtain ⟨a3, h3⟩ := hk 3 (by omega)
  obtain ⟨a4, h4⟩ := hk 4 (by omega)
  obtain ⟨a5, h5⟩ := hk 5 (by omega)
  refine ⟨⟨⟨a0, a1, a2⟩, ⟨a3, a4, a5⟩⟩, ?_⟩
  have e : l = [.int .i64 a0, .int .i64 a1, .int .i64 a2, .int .i64 a3, .int .i64 a4, .int .i64 a5] := by
    match l, hl, h0, h1, h2, h3, h4, h5 with
    | [_, _, _, _, _, _], _, h0, h1, h2, h3, h4, h5 => simp at h0 h1 h2 h3 h4 h5; rw [h0, h1, h2, h3, h4, h5]
  rw [e]
end Go.Proofs.YtiagnnmnaakmoaaDoor
