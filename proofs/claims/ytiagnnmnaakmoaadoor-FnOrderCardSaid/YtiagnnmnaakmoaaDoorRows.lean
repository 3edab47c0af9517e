/-
  NARROWER THAN 'FOR EVERY INPUT', by the rows' own cells (each row's printed sentence says how): FnExactFibreStays: laid · FnExactFibreOrder: laid · FnOrder: laid · FnStays: laid.
  DERIVED. THE GIVEN ROWS OF THIS SEAT. 4 by the template 'for every input the law returns true; each argument reads behind the call as it read before'; 0 by the template 'total and deterministic' (their statements: YtiagnnmnaakmoaaDoorTotals.lean).
  GIVEN WITH THE SEED: the statements are not yours to turn. If you find one false, say at which input.
  Laid BY PROGRAM, IN A SANDBOX (cutbox-rows.mjs): the forced cells as the released guide's own fill.sh prints them over the translation 71d4e16f291c2951… (all of the seat's roots in one cut). By AI agents, Wed Nov 11 2026. No macro, syntax, notation, axiom, sorry.
-/
import Derived.Test.YtiagnnmnaakmoaaDoorChecked
import GoSem.Claim
import GoSem.ClaimJoined
import GoSem.ClaimMapViews
import Derived.JoinedTies
import Derived.KernelRfl
namespace Go.Proofs.YtiagnnmnaakmoaaDoor
/- THE CELL 'sum', in the pinned program and in every row, IS THE sha256 OF THE DUMP (.gsa) THAT YtiagnnmnaakmoaaDoorProg.lean LOADS. Nothing in Lean hashes anything: it is a label: what it is worth is what the hold of that sum in a sandbox is worth. -/
noncomputable def Tryd.pinned : Pinned := { name := "ytiagnnmnaakmoaadoor", sum := "71d4e16f291c2951cdb2e0e53fed68fc852b8aa844cff65b7e3a33cbb73b926f", checked := Tryd.checked }
namespace Rows
def none {H : Type} : Left H := { results := [], args := [] }

/- WHAT THE LISTED PACKAGE-LEVEL VARIABLES READ AS WHEN THE CALL BEGINS. Each datum BY PROGRAM (the guide's laid-datum.mjs) off the statement by which the dump's own 'gosem.cut.vars' lays the variable. In a bare row this is a premise. The card (YtiagnnmnaakmoaaDoorCards.lean) ties it to the program's text. -/
def laid_loop_example_polarisedlight_impl_zero {H : Type} : DataW H := .agg [.lit (.int .i64 0), .lit (.int .i64 0), .lit (.int .i64 1)]
def laid_loop_example_polarisedlight_impl_one {H : Type} : DataW H := .agg [.lit (.int .i64 1), .lit (.int .i64 0), .lit (.int .i64 1)]
def laid_loop_example_polarisedlight_impl_turns {H : Type} : DataW H := .agg [.agg [.lit (.int .i64 1), .lit (.int .i64 0), .lit (.int .i64 1)], .agg [.lit (.int .i64 0), .lit (.int .i64 1), .lit (.int .i64 1)], .agg [.lit (.int .i64 (-1)), .lit (.int .i64 0), .lit (.int .i64 1)], .agg [.lit (.int .i64 0), .lit (.int .i64 (-1)), .lit (.int .i64 1)]]
def laid_loop_example_polarisedlight_impl_same {H : Type} : DataW H := .agg [.agg [.agg [.lit (.int .i64 1), .lit (.int .i64 0), .lit (.int .i64 1)], .agg [.lit (.int .i64 0), .lit (.int .i64 0), .lit (.int .i64 1)], .agg [.lit (.int .i64 0), .lit (.int .i64 0), .lit (.int .i64 1)], .agg [.lit (.int .i64 1), .lit (.int .i64 0), .lit (.int .i64 1)]]]

/-- 'laws.FnExactFibreStays': WHATEVER THE INPUT: true; the input reads as it did. -/
def fnExactFibreStaysSpec : ChangeSpec := { name := "fnExactFibreStays", vars := ["loop.example/polarisedlight/impl.same", "loop.example/polarisedlight/impl.one", "loop.example/polarisedlight/impl.zero", "loop.example/polarisedlight/impl.turns"], fn := fun _ => fun
  | [d1, d2, g1, g2, g3, g4] => { results := [.lit (.bool true)], args := [d1, d2], vars := [g1, g2, g3, g4] }
  | _ => none }
def fnExactFibreStaysRow : OpenClaim := { program := "ytiagnnmnaakmoaadoor", sum := "71d4e16f291c2951cdb2e0e53fed68fc852b8aa844cff65b7e3a33cbb73b926f", func := "loop.example/polarisedlight/laws.FnExactFibreStays", spec := "fnExactFibreStays", unfollowed := true, recurses := true, named := ["loop.example/polarisedlight/impl.same", "loop.example/polarisedlight/impl.one", "loop.example/polarisedlight/impl.zero", "loop.example/polarisedlight/impl.turns"], apart := false, laid := [("loop.example/polarisedlight/impl.zero", laid_loop_example_polarisedlight_impl_zero), ("loop.example/polarisedlight/impl.one", laid_loop_example_polarisedlight_impl_one), ("loop.example/polarisedlight/impl.turns", laid_loop_example_polarisedlight_impl_turns), ("loop.example/polarisedlight/impl.same", laid_loop_example_polarisedlight_impl_same)] }
def FnExactFibreStaysSaid : Prop := fnExactFibreStaysRow.holds Tryd.pinned (OpenSpec.ofChange fnExactFibreStaysSpec)

/-- ITS FALSE NEIGHBOUR: 'it returns false'. Refute it at one input. -/
def fnExactFibreStaysWrong : ChangeSpec := { name := "fnExactFibreStays", vars := ["loop.example/polarisedlight/impl.same", "loop.example/polarisedlight/impl.one", "loop.example/polarisedlight/impl.zero", "loop.example/polarisedlight/impl.turns"], fn := fun _ => fun
  | [d1, d2, g1, g2, g3, g4] => { results := [.lit (.bool false)], args := [d1, d2], vars := [g1, g2, g3, g4] }
  | _ => none }
def FnExactFibreStaysWrongFalsely : Prop := fnExactFibreStaysRow.holds Tryd.pinned (OpenSpec.ofChange fnExactFibreStaysWrong)

/-- 'laws.FnExactFibreOrder': WHATEVER THE INPUT: true; the input reads as it did. -/
def fnExactFibreOrderSpec : ChangeSpec := { name := "fnExactFibreOrder", vars := ["loop.example/polarisedlight/impl.same", "loop.example/polarisedlight/impl.one", "loop.example/polarisedlight/impl.zero", "loop.example/polarisedlight/impl.turns"], fn := fun _ => fun
  | [d, g1, g2, g3, g4] => { results := [.lit (.bool true)], args := [d], vars := [g1, g2, g3, g4] }
  | _ => none }
def fnExactFibreOrderRow : OpenClaim := { program := "ytiagnnmnaakmoaadoor", sum := "71d4e16f291c2951cdb2e0e53fed68fc852b8aa844cff65b7e3a33cbb73b926f", func := "loop.example/polarisedlight/laws.FnExactFibreOrder", spec := "fnExactFibreOrder", unfollowed := true, recurses := true, named := ["loop.example/polarisedlight/impl.same", "loop.example/polarisedlight/impl.one", "loop.example/polarisedlight/impl.zero", "loop.example/polarisedlight/impl.turns"], apart := false, laid := [("loop.example/polarisedlight/impl.zero", laid_loop_example_polarisedlight_impl_zero), ("loop.example/polarisedlight/impl.one", laid_loop_example_polarisedlight_impl_one), ("loop.example/polarisedlight/impl.turns", laid_loop_example_polarisedlight_impl_turns), ("loop.example/polarisedlight/impl.same", laid_loop_example_polarisedlight_impl_same)] }
def FnExactFibreOrderSaid : Prop := fnExactFibreOrderRow.holds Tryd.pinned (OpenSpec.ofChange fnExactFibreOrderSpec)

/-- ITS FALSE NEIGHBOUR: 'it returns false'. Refute it at one input. -/
def fnExactFibreOrderWrong : ChangeSpec := { name := "fnExactFibreOrder", vars := ["loop.example/polarisedlight/impl.same", "loop.example/polarisedlight/impl.one", "loop.example/polarisedlight/impl.zero", "loop.example/polarisedlight/impl.turns"], fn := fun _ => fun
  | [d, g1, g2, g3, g4] => { results := [.lit (.bool false)], args := [d], vars := [g1, g2, g3, g4] }
  | _ => none }
def FnExactFibreOrderWrongFalsely : Prop := fnExactFibreOrderRow.holds Tryd.pinned (OpenSpec.ofChange fnExactFibreOrderWrong)

/-- 'laws.FnOrder': WHATEVER THE INPUT: true; the input reads as it did. -/
def fnOrderSpec : ChangeSpec := { name := "fnOrder", vars := ["loop.example/polarisedlight/impl.same", "loop.example/polarisedlight/impl.one", "loop.example/polarisedlight/impl.zero", "loop.example/polarisedlight/impl.turns"], fn := fun _ => fun
  | [d, g1, g2, g3, g4] => { results := [.lit (.bool true)], args := [d], vars := [g1, g2, g3, g4] }
  | _ => none }
def fnOrderRow : OpenClaim := { program := "ytiagnnmnaakmoaadoor", sum := "71d4e16f291c2951cdb2e0e53fed68fc852b8aa844cff65b7e3a33cbb73b926f", func := "loop.example/polarisedlight/laws.FnOrder", spec := "fnOrder", unfollowed := true, recurses := true, named := ["loop.example/polarisedlight/impl.same", "loop.example/polarisedlight/impl.one", "loop.example/polarisedlight/impl.zero", "loop.example/polarisedlight/impl.turns"], apart := false, laid := [("loop.example/polarisedlight/impl.zero", laid_loop_example_polarisedlight_impl_zero), ("loop.example/polarisedlight/impl.one", laid_loop_example_polarisedlight_impl_one), ("loop.example/polarisedlight/impl.turns", laid_loop_example_polarisedlight_impl_turns), ("loop.example/polarisedlight/impl.same", laid_loop_example_polarisedlight_impl_same)] }
def FnOrderSaid : Prop := fnOrderRow.holds Tryd.pinned (OpenSpec.ofChange fnOrderSpec)

/-- ITS FALSE NEIGHBOUR: 'it returns false'. Refute it at one input. -/
def fnOrderWrong : ChangeSpec := { name := "fnOrder", vars := ["loop.example/polarisedlight/impl.same", "loop.example/polarisedlight/impl.one", "loop.example/polarisedlight/impl.zero", "loop.example/polarisedlight/impl.turns"], fn := fun _ => fun
  | [d, g1, g2, g3, g4] => { results := [.lit (.bool false)], args := [d], vars := [g1, g2, g3, g4] }
  | _ => none }
def FnOrderWrongFalsely : Prop := fnOrderRow.holds Tryd.pinned (OpenSpec.ofChange fnOrderWrong)

/-- 'laws.FnStays': WHATEVER THE INPUT: true; the input reads as it did. -/
def fnStaysSpec : ChangeSpec := { name := "fnStays", vars := ["loop.example/polarisedlight/impl.same", "loop.example/polarisedlight/impl.one", "loop.example/polarisedlight/impl.zero", "loop.example/polarisedlight/impl.turns"], fn := fun _ => fun
  | [d, g1, g2, g3, g4] => { results := [.lit (.bool true)], args := [d], vars := [g1, g2, g3, g4] }
  | _ => none }
def fnStaysRow : OpenClaim := { program := "ytiagnnmnaakmoaadoor", sum := "71d4e16f291c2951cdb2e0e53fed68fc852b8aa844cff65b7e3a33cbb73b926f", func := "loop.example/polarisedlight/laws.FnStays", spec := "fnStays", unfollowed := true, recurses := true, named := ["loop.example/polarisedlight/impl.same", "loop.example/polarisedlight/impl.one", "loop.example/polarisedlight/impl.zero", "loop.example/polarisedlight/impl.turns"], apart := false, laid := [("loop.example/polarisedlight/impl.zero", laid_loop_example_polarisedlight_impl_zero), ("loop.example/polarisedlight/impl.one", laid_loop_example_polarisedlight_impl_one), ("loop.example/polarisedlight/impl.turns", laid_loop_example_polarisedlight_impl_turns), ("loop.example/polarisedlight/impl.same", laid_loop_example_polarisedlight_impl_same)] }
def FnStaysSaid : Prop := fnStaysRow.holds Tryd.pinned (OpenSpec.ofChange fnStaysSpec)

/-- ITS FALSE NEIGHBOUR: 'it returns false'. Refute it at one input. -/
def fnStaysWrong : ChangeSpec := { name := "fnStays", vars := ["loop.example/polarisedlight/impl.same", "loop.example/polarisedlight/impl.one", "loop.example/polarisedlight/impl.zero", "loop.example/polarisedlight/impl.turns"], fn := fun _ => fun
  | [d, g1, g2, g3, g4] => { results := [.lit (.bool false)], args := [d], vars := [g1, g2, g3, g4] }
  | _ => none }
def FnStaysWrongFalsely : Prop := fnStaysRow.holds Tryd.pinned (OpenSpec.ofChange fnStaysWrong)

/- THE SECOND FORM. 'bulk': how many values and letters a reading holds, each counted each time it is reached (what is shared counts as often as it is met; a slice's spare places count too). A statement '..UptoSaid' is the law's where the arguments, and the package variables that the reading takes, are together of bulk at most 1048576: NARROWER than '..Said'. Prove '..Said' where nothing that the law and all that it calls make is longer than what came in: it says more and counts as full. Else prove '..UptoSaid'. A law counts once. -/
mutual
def uptoBulk {H : Type} : DataW H → Nat
  | .lit (.string bytes) => bytes.length + 1
  | .lit _ => 1
  | .nil => 1
  | .ptr d => uptoBulk d + 1
  | .slice elems spare => uptoBulkAll elems + uptoBulkAll spare + 1
  | .agg parts => uptoBulkAll parts + 1
  | .iface _ d => uptoBulk d + 1
  | .map entries => uptoBulkEntries entries + 1
  | .held _ => 1
def uptoBulkAll {H : Type} : List (DataW H) → Nat
  | [] => 0
  | d :: r => uptoBulk d + uptoBulkAll r
def uptoBulkEntries {H : Type} : List (Lit × DataW H) → Nat
  | [] => 0
  | x :: r => uptoBulkEntry x + uptoBulkEntries r
def uptoBulkEntry {H : Type} : Lit × DataW H → Nat
  | (.string bytes, d) => bytes.length + uptoBulk d + 1
  | (_, d) => uptoBulk d + 1
 end
def uptoSmall : (H : Type) → List (DataW H) → Bool := fun _ ds => decide (uptoBulkAll ds ≤ 1048576)
def OpenSpec.upto (s : _root_.Go.ChangeSpec) : _root_.Go.OpenSpec := { _root_.Go.OpenSpec.ofChange s with cond := some uptoSmall }

/-- 'laws.FnExactFibreStays', WHERE WHAT IT READS IS OF BULK AT MOST 1048576: true; the input reads as it did. -/
def fnExactFibreStaysUptoRow : OpenClaim := { program := "ytiagnnmnaakmoaadoor", sum := "71d4e16f291c2951cdb2e0e53fed68fc852b8aa844cff65b7e3a33cbb73b926f", func := "loop.example/polarisedlight/laws.FnExactFibreStays", spec := "fnExactFibreStays", unfollowed := true, recurses := true, named := ["loop.example/polarisedlight/impl.same", "loop.example/polarisedlight/impl.one", "loop.example/polarisedlight/impl.zero", "loop.example/polarisedlight/impl.turns"], apart := false, laid := [("loop.example/polarisedlight/impl.zero", laid_loop_example_polarisedlight_impl_zero), ("loop.example/polarisedlight/impl.one", laid_loop_example_polarisedlight_impl_one), ("loop.example/polarisedlight/impl.turns", laid_loop_example_polarisedlight_impl_turns), ("loop.example/polarisedlight/impl.same", laid_loop_example_polarisedlight_impl_same)], narrowed := true }
def FnExactFibreStaysUptoSaid : Prop := fnExactFibreStaysUptoRow.holds Tryd.pinned (OpenSpec.upto fnExactFibreStaysSpec)

/-- 'laws.FnExactFibreOrder', WHERE WHAT IT READS IS OF BULK AT MOST 1048576: true; the input reads as it did. -/
def fnExactFibreOrderUptoRow : OpenClaim := { program := "ytiagnnmnaakmoaadoor", sum := "71d4e16f291c2951cdb2e0e53fed68fc852b8aa844cff65b7e3a33cbb73b926f", func := "loop.example/polarisedlight/laws.FnExactFibreOrder", spec := "fnExactFibreOrder", unfollowed := true, recurses := true, named := ["loop.example/polarisedlight/impl.same", "loop.example/polarisedlight/impl.one", "loop.example/polarisedlight/impl.zero", "loop.example/polarisedlight/impl.turns"], apart := false, laid := [("loop.example/polarisedlight/impl.zero", laid_loop_example_polarisedlight_impl_zero), ("loop.example/polarisedlight/impl.one", laid_loop_example_polarisedlight_impl_one), ("loop.example/polarisedlight/impl.turns", laid_loop_example_polarisedlight_impl_turns), ("loop.example/polarisedlight/impl.same", laid_loop_example_polarisedlight_impl_same)], narrowed := true }
def FnExactFibreOrderUptoSaid : Prop := fnExactFibreOrderUptoRow.holds Tryd.pinned (OpenSpec.upto fnExactFibreOrderSpec)

/-- 'laws.FnOrder', WHERE WHAT IT READS IS OF BULK AT MOST 1048576: true; the input reads as it did. -/
def fnOrderUptoRow : OpenClaim := { program := "ytiagnnmnaakmoaadoor", sum := "71d4e16f291c2951cdb2e0e53fed68fc852b8aa844cff65b7e3a33cbb73b926f", func := "loop.example/polarisedlight/laws.FnOrder", spec := "fnOrder", unfollowed := true, recurses := true, named := ["loop.example/polarisedlight/impl.same", "loop.example/polarisedlight/impl.one", "loop.example/polarisedlight/impl.zero", "loop.example/polarisedlight/impl.turns"], apart := false, laid := [("loop.example/polarisedlight/impl.zero", laid_loop_example_polarisedlight_impl_zero), ("loop.example/polarisedlight/impl.one", laid_loop_example_polarisedlight_impl_one), ("loop.example/polarisedlight/impl.turns", laid_loop_example_polarisedlight_impl_turns), ("loop.example/polarisedlight/impl.same", laid_loop_example_polarisedlight_impl_same)], narrowed := true }
def FnOrderUptoSaid : Prop := fnOrderUptoRow.holds Tryd.pinned (OpenSpec.upto fnOrderSpec)

/-- 'laws.FnStays', WHERE WHAT IT READS IS OF BULK AT MOST 1048576: true; the input reads as it did. -/
def fnStaysUptoRow : OpenClaim := { program := "ytiagnnmnaakmoaadoor", sum := "71d4e16f291c2951cdb2e0e53fed68fc852b8aa844cff65b7e3a33cbb73b926f", func := "loop.example/polarisedlight/laws.FnStays", spec := "fnStays", unfollowed := true, recurses := true, named := ["loop.example/polarisedlight/impl.same", "loop.example/polarisedlight/impl.one", "loop.example/polarisedlight/impl.zero", "loop.example/polarisedlight/impl.turns"], apart := false, laid := [("loop.example/polarisedlight/impl.zero", laid_loop_example_polarisedlight_impl_zero), ("loop.example/polarisedlight/impl.one", laid_loop_example_polarisedlight_impl_one), ("loop.example/polarisedlight/impl.turns", laid_loop_example_polarisedlight_impl_turns), ("loop.example/polarisedlight/impl.same", laid_loop_example_polarisedlight_impl_same)], narrowed := true }
def FnStaysUptoSaid : Prop := fnStaysUptoRow.holds Tryd.pinned (OpenSpec.upto fnStaysSpec)

end Rows
end Go.Proofs.YtiagnnmnaakmoaaDoor
