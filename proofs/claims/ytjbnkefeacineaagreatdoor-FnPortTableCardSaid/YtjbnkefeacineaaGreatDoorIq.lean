/-
  What the listed variables of the port statements hold, in the words of the walks; the witness' world. Nothing is claimed here; the other texts of this claim use it.
-/
import Derived.Test.YtjbnkefeacineaaGreatDoorPg
import Derived.Test.YtjbnkefeacineaaGreatDoorJf
import Derived.Lay
import Derived.LaidMore
import Derived.SevenTiedAt
import Derived.Stop.Joined
import Derived.Shelf.Vars
namespace Go.Proofs.YtjbnkefeacineaaGreatDoor
set_option linter.unusedSimpArgs false
set_option linter.unusedVariables false
open Go.ChangeShapes Go.WideShapes Go.ChangeAt Go.RowKit Go.WideElems
theorem tailP {P : Program} {x : String × DataW Unit} {r : List (String × DataW Unit)} {w : World} (h : laidMet P (x :: r) w) : laidMet P r w := by
  obtain ⟨ps, hv, hnd, hrows⟩ := h
  obtain ⟨n, d⟩ := x
  obtain ⟨g, t, cs, fuel, p, q, _, _, _, _, hq, rfl⟩ := hv
  exact ⟨q, hq, List.Nodup.sublist (List.sublist_append_right _ _) hnd, fun b off hm => hrows b off (List.mem_append_right _ hm)⟩
/-- A listed sentinel's cell. -/
theorem sentP {W : World} {n nm : String} {d : DataW Unit} {r : List (String × DataW Unit)} {g ti : Nat} {ms : Array (String × TypeId)} (h : laidMet Tryz.prog ((n, .iface nm d) :: r) W) (hg : Tryz.prog.globalNamed n = some g) (ht : (Tryz.prog.globals[g]?).map (·.type) = some ti) (hi : Tryz.prog.underlying ti = some (.interface ms)) :
    ∃ t p, W.cell? ⟨g, 0, none⟩ = some (.iface t p) := by
  obtain ⟨_, ⟨g0, t0, cs, f, pp, qq, hg0, ht0, hv, hd, _, _⟩, _, _⟩ := h
  obtain rfl := Option.some.inj (hg.symm.trans hg0)
  obtain rfl := Option.some.inj (ht.symm.trans ht0)
  obtain ⟨f1, u, v, hcs, -⟩ := iface_of_trod hi hd
  refine ⟨u, v, ?_⟩
  rw [World.var?_cell hg hv 0]
  have : cs.toList[0]? = some (.iface u v) := by rw [hcs]; rfl
  simpa using this
theorem lt_of_cell {W : World} {g : Nat} {v : Value} (h : W.cell? ⟨g, 0, none⟩ = some v) : g < W.heap.size := World.block_lt_of_cell? W _ h
set_option maxRecDepth 100000 in
/-- What the walks ask of the variables, out of the row's list and the world's shape. -/
theorem gp_of {W : World} (hL : laidMet Tryz.prog [("math/bits.deBruijn32tab", Rows.laid_math_bits_deBruijn32tab), ("math/bits.deBruijn64tab", Rows.laid_math_bits_deBruijn64tab), ("internal/strconv.uint64pow10", Rows.laid_internal_strconv_uint64pow10), ("unicode/utf8.acceptRanges", Rows.laid_unicode_utf8_acceptRanges), ("strconv.ErrRange", Rows.laid_strconv_ErrRange), ("strconv.ErrSyntax", Rows.laid_strconv_ErrSyntax), ("loop.example/polarisedlight/impl.zero", Rows.laid_loop_example_polarisedlight_impl_zero), ("loop.example/polarisedlight/impl.one", Rows.laid_loop_example_polarisedlight_impl_one), ("loop.example/polarisedlight/impl.turns", Rows.laid_loop_example_polarisedlight_impl_turns), ("unicode/utf8.first", Rows.laid_unicode_utf8_first)] W) (hsh : W.ShapedOpen Tryz.prog) : GP W := by
  have h2 := tailP (tailP hL)
  have h4 := tailP (tailP h2)
  have h5 := tailP h4
  have h6 := tailP h5
  have h7 := tailP h6
  have h8 := tailP h7
  have htab : Lib.TabIs Tryz.prog W "internal/strconv.uint64pow10" .u64 Lib.pow10Tab := Lib.tabIs_of_head (e := 165) (n := 20) pow10_g (show (Tryz.prog.globals[8]?).map (·.type) = some 184 by kernel_rfl) Tryz.underlying184 Tryz.underlying165 (by kernel_rfl) (by kernel_rfl) h2
  have hr := sentP h4 (show Tryz.prog.globalNamed "strconv.ErrRange" = some 7 by kernel_rfl) (show (Tryz.prog.globals[7]?).map (·.type) = some 141 by kernel_rfl) Tryz.underlying141
  have hs := sentP h5 (show Tryz.prog.globalNamed "strconv.ErrSyntax" = some 6 by kernel_rfl) (show (Tryz.prog.globals[6]?).map (·.type) = some 141 by kernel_rfl) Tryz.underlying141
  have hm := cell_of_shapedOpen_int (P := Tryz.prog) (g := 3) (t := 3) (zero := #[.int .i64 0]) hsh (of_decide_eq_true (by kernel_rfl)) (by kernel_rfl) rfl (by kernel_rfl) (by kernel_rfl) Tryz.underlying3
  obtain ⟨_, ⟨g0, t0, cs0, f0, p0, q0, hg0, ht0, hv0, hd0, _, _⟩, _, _⟩ := h6
  obtain ⟨_, ⟨g1, t1, cs1, f1, p1, q1, hg1, ht1, hv1, hd1, _, _⟩, _, _⟩ := h7
  obtain ⟨_, ⟨g2, t2, cs2, f2, p2, q2, hg2, ht2, hv2, hd2, _, _⟩, _, _⟩ := h8
  have hZ : GZ W := gv_zero hg0 ht0 hv0 hd0
  have hO : GO W := gv_one hg1 ht1 hv1 hd1
  have hT : GT W := gv_turns hg2 ht2 hv2 hd2
  obtain ⟨tr, pr, hr⟩ := hr
  obtain ⟨ts, ps, hs⟩ := hs
  obtain ⟨m, hm⟩ := hm
  have htc := Lib.TabIs.cell htab pow10_g 0 (by rw [Lib.pow10Tab_length]; decide)
  exact ⟨⟨lt_of_cell hs, lt_of_cell hr, lt_of_cell htc, lt_of_cell hm, ⟨m, hm⟩, ⟨ts, ps, hs⟩, ⟨tr, pr, hr⟩, htab⟩, hO, hZ, hT⟩
section
variable {H : Type} {enc : TypeId × Value → H}
/-- 'There is an input that fits', at a world whose shape is known. -/
theorem witness_row_sh {C : Checked} {os : Os} {f : FuncId} {fn : Func} {s : OpenSpec} {conds : List PathCond} {apart : Bool} {laid : List (String × DataW Unit)} (modest : Bool) (w0 : World) (args : Array Value) (hos : w0.os = os)
    (hsh : (w0.forCall (fun _ _ => 0) ⟨#[], args, []⟩).Shaped C.prog)
    (hok : Input.okWideB C.prog (w0.forCall (fun _ _ => 0) ⟨#[], args, []⟩) f ⟨#[], args, []⟩ = true)
    (hrow : s.preRow enc C.prog fn conds apart laid (w0.forCall (fun _ _ => 0) ⟨#[], args, []⟩).memory args) :
    ∃ (w : World) (tape : Tape) (i : Input), w.os = os ∧ (w.forCall tape i).Shaped C.prog ∧ i.vars = [] ∧ Input.okWide C.prog (w.forCall tape i) .any w.heap.size f i ∧
      s.preRow enc C.prog fn conds apart laid (w.forCall tape i).memory i.args ∧ ({ modest := modest } : Assume).holds C.prog (lone (Frame.enter C.prog f i.args .normal) [] (w.forCall tape i)) :=
  ⟨w0, fun _ _ => 0, ⟨#[], args, []⟩, hos, hsh, (Input.okWide_of_okWideB (base := 0) hok).1, (Input.okWide_of_okWideB hok).2, hrow, by
    simp only [Assume.holds]
    exact ⟨by simp, by simp, fun _ => Modest.zero, by simp, by simp⟩⟩
end
end Go.Proofs.YtjbnkefeacineaaGreatDoor
