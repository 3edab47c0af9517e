/-
  NARROWER THAN 'FOR EVERY INPUT', by the rows' own cells (each row's printed sentence says how): FnExactMeterRow: laid · FnRow: laid · FnCalibrate: laid · FnMeterDet: laid · FnGood: laid · FnExactMeterGood: laid · FnExactMeterDet: laid · FnExactMeterTurn: laid · FnExactMeterRead: laid · FnTurn: laid · FnExactMeterSolve: laid.
  DERIVED. THE GIVEN ROWS OF THIS SEAT. 11 by the template 'for every input the law returns true; each argument reads behind the call as it read before'; 0 by the template 'total and deterministic' (their statements: YtalcjmefmffcnaaDoorTotals.lean).
  GIVEN WITH THE SEED: the statements are not yours to turn. If you find one false, say at which input.
  Laid BY PROGRAM, IN A SANDBOX (cutbox-rows.mjs): the forced cells as the released guide's own fill.sh prints them over the translation 137d32f1740ed84a… (all of the seat's roots in one cut). By AI agents, Wed Nov 11 2026. No macro, syntax, notation, axiom, sorry.
-/
import Derived.Test.YtalcjmefmffcnaaDoorChecked
import GoSem.Claim
import GoSem.ClaimJoined
import GoSem.ClaimMapViews
import Derived.JoinedTies
import Derived.KernelRfl
namespace Go.Proofs.YtalcjmefmffcnaaDoor
/- THE CELL 'sum', in the pinned program and in every row, IS THE sha256 OF THE DUMP (.gsa) THAT YtalcjmefmffcnaaDoorProg.lean LOADS. Nothing in Lean hashes anything: it is a label: what it is worth is what the hold of that sum in a sandbox is worth. -/
noncomputable def Tryd.pinned : Pinned := { name := "ytalcjmefmffcnaadoor", sum := "137d32f1740ed84ad010cc950fccb29716e6ce860b5b92ba2a45ac95dfad50c0", checked := Tryd.checked }
namespace Rows
def none {H : Type} : Left H := { results := [], args := [] }

/- WHAT THE LISTED PACKAGE-LEVEL VARIABLES READ AS WHEN THE CALL BEGINS. Each datum BY PROGRAM (the guide's laid-datum.mjs) off the statement by which the dump's own 'gosem.cut.vars' lays the variable. In a bare row this is a premise. The card (YtalcjmefmffcnaaDoorCards.lean) ties it to the program's text. -/
def laid_loop_example_polarisedlight_impl_zero {H : Type} : DataW H := .agg [.lit (.int .i64 0), .lit (.int .i64 0), .lit (.int .i64 1)]
def laid_loop_example_polarisedlight_impl_one {H : Type} : DataW H := .agg [.lit (.int .i64 1), .lit (.int .i64 0), .lit (.int .i64 1)]
def laid_loop_example_polarisedlight_impl_turns {H : Type} : DataW H := .agg [.agg [.lit (.int .i64 1), .lit (.int .i64 0), .lit (.int .i64 1)], .agg [.lit (.int .i64 0), .lit (.int .i64 1), .lit (.int .i64 1)], .agg [.lit (.int .i64 (-1)), .lit (.int .i64 0), .lit (.int .i64 1)], .agg [.lit (.int .i64 0), .lit (.int .i64 (-1)), .lit (.int .i64 1)]]

/-- 'laws.FnExactMeterRow': WHATEVER THE INPUT: true; the input reads as it did. -/
def fnExactMeterRowSpec : ChangeSpec := { name := "fnExactMeterRow", vars := ["loop.example/polarisedlight/impl.one", "loop.example/polarisedlight/impl.zero", "loop.example/polarisedlight/impl.turns"], fn := fun _ => fun
  | [d, g1, g2, g3] => { results := [.lit (.bool true)], args := [d], vars := [g1, g2, g3] }
  | _ => none }
def fnExactMeterRowRow : OpenClaim := { program := "ytalcjmefmffcnaadoor", sum := "137d32f1740ed84ad010cc950fccb29716e6ce860b5b92ba2a45ac95dfad50c0", func := "loop.example/polarisedlight/laws.FnExactMeterRow", spec := "fnExactMeterRow", unfollowed := true, recurses := true, named := ["loop.example/polarisedlight/impl.one", "loop.example/polarisedlight/impl.zero", "loop.example/polarisedlight/impl.turns"], apart := false, laid := [("loop.example/polarisedlight/impl.zero", laid_loop_example_polarisedlight_impl_zero), ("loop.example/polarisedlight/impl.one", laid_loop_example_polarisedlight_impl_one), ("loop.example/polarisedlight/impl.turns", laid_loop_example_polarisedlight_impl_turns)] }
def FnExactMeterRowSaid : Prop := fnExactMeterRowRow.holds Tryd.pinned (OpenSpec.ofChange fnExactMeterRowSpec)

/-- ITS FALSE NEIGHBOUR: 'it returns false'. Refute it at one input. -/
def fnExactMeterRowWrong : ChangeSpec := { name := "fnExactMeterRow", vars := ["loop.example/polarisedlight/impl.one", "loop.example/polarisedlight/impl.zero", "loop.example/polarisedlight/impl.turns"], fn := fun _ => fun
  | [d, g1, g2, g3] => { results := [.lit (.bool false)], args := [d], vars := [g1, g2, g3] }
  | _ => none }
def FnExactMeterRowWrongFalsely : Prop := fnExactMeterRowRow.holds Tryd.pinned (OpenSpec.ofChange fnExactMeterRowWrong)

/-- 'laws.FnRow': WHATEVER THE INPUT: true; the input reads as it did. -/
def fnRowSpec : ChangeSpec := { name := "fnRow", vars := ["loop.example/polarisedlight/impl.one", "loop.example/polarisedlight/impl.zero", "loop.example/polarisedlight/impl.turns"], fn := fun _ => fun
  | [d, g1, g2, g3] => { results := [.lit (.bool true)], args := [d], vars := [g1, g2, g3] }
  | _ => none }
def fnRowRow : OpenClaim := { program := "ytalcjmefmffcnaadoor", sum := "137d32f1740ed84ad010cc950fccb29716e6ce860b5b92ba2a45ac95dfad50c0", func := "loop.example/polarisedlight/laws.FnRow", spec := "fnRow", unfollowed := true, recurses := true, named := ["loop.example/polarisedlight/impl.one", "loop.example/polarisedlight/impl.zero", "loop.example/polarisedlight/impl.turns"], apart := false, laid := [("loop.example/polarisedlight/impl.zero", laid_loop_example_polarisedlight_impl_zero), ("loop.example/polarisedlight/impl.one", laid_loop_example_polarisedlight_impl_one), ("loop.example/polarisedlight/impl.turns", laid_loop_example_polarisedlight_impl_turns)] }
def FnRowSaid : Prop := fnRowRow.holds Tryd.pinned (OpenSpec.ofChange fnRowSpec)

/-- ITS FALSE NEIGHBOUR: 'it returns false'. Refute it at one input. -/
def fnRowWrong : ChangeSpec := { name := "fnRow", vars := ["loop.example/polarisedlight/impl.one", "loop.example/polarisedlight/impl.zero", "loop.example/polarisedlight/impl.turns"], fn := fun _ => fun
  | [d, g1, g2, g3] => { results := [.lit (.bool false)], args := [d], vars := [g1, g2, g3] }
  | _ => none }
def FnRowWrongFalsely : Prop := fnRowRow.holds Tryd.pinned (OpenSpec.ofChange fnRowWrong)

/-- 'laws.FnCalibrate': WHATEVER THE INPUT: true; the input reads as it did. -/
def fnCalibrateSpec : ChangeSpec := { name := "fnCalibrate", vars := ["loop.example/polarisedlight/impl.zero"], fn := fun _ => fun
  | [d, g1] => { results := [.lit (.bool true)], args := [d], vars := [g1] }
  | _ => none }
def fnCalibrateRow : OpenClaim := { program := "ytalcjmefmffcnaadoor", sum := "137d32f1740ed84ad010cc950fccb29716e6ce860b5b92ba2a45ac95dfad50c0", func := "loop.example/polarisedlight/laws.FnCalibrate", spec := "fnCalibrate", recurses := true, named := ["loop.example/polarisedlight/impl.zero"], apart := false, laid := [("loop.example/polarisedlight/impl.zero", laid_loop_example_polarisedlight_impl_zero)] }
def FnCalibrateSaid : Prop := fnCalibrateRow.holds Tryd.pinned (OpenSpec.ofChange fnCalibrateSpec)

/-- ITS FALSE NEIGHBOUR: 'it returns false'. Refute it at one input. -/
def fnCalibrateWrong : ChangeSpec := { name := "fnCalibrate", vars := ["loop.example/polarisedlight/impl.zero"], fn := fun _ => fun
  | [d, g1] => { results := [.lit (.bool false)], args := [d], vars := [g1] }
  | _ => none }
def FnCalibrateWrongFalsely : Prop := fnCalibrateRow.holds Tryd.pinned (OpenSpec.ofChange fnCalibrateWrong)

/-- 'laws.FnMeterDet': WHATEVER THE INPUT: true; the input reads as it did. -/
def fnMeterDetSpec : ChangeSpec := { name := "fnMeterDet", vars := ["loop.example/polarisedlight/impl.one", "loop.example/polarisedlight/impl.zero", "loop.example/polarisedlight/impl.turns"], fn := fun _ => fun
  | [d, g1, g2, g3] => { results := [.lit (.bool true)], args := [d], vars := [g1, g2, g3] }
  | _ => none }
def fnMeterDetRow : OpenClaim := { program := "ytalcjmefmffcnaadoor", sum := "137d32f1740ed84ad010cc950fccb29716e6ce860b5b92ba2a45ac95dfad50c0", func := "loop.example/polarisedlight/laws.FnMeterDet", spec := "fnMeterDet", unfollowed := true, recurses := true, named := ["loop.example/polarisedlight/impl.one", "loop.example/polarisedlight/impl.zero", "loop.example/polarisedlight/impl.turns"], apart := false, laid := [("loop.example/polarisedlight/impl.zero", laid_loop_example_polarisedlight_impl_zero), ("loop.example/polarisedlight/impl.one", laid_loop_example_polarisedlight_impl_one), ("loop.example/polarisedlight/impl.turns", laid_loop_example_polarisedlight_impl_turns)] }
def FnMeterDetSaid : Prop := fnMeterDetRow.holds Tryd.pinned (OpenSpec.ofChange fnMeterDetSpec)

/-- ITS FALSE NEIGHBOUR: 'it returns false'. Refute it at one input. -/
def fnMeterDetWrong : ChangeSpec := { name := "fnMeterDet", vars := ["loop.example/polarisedlight/impl.one", "loop.example/polarisedlight/impl.zero", "loop.example/polarisedlight/impl.turns"], fn := fun _ => fun
  | [d, g1, g2, g3] => { results := [.lit (.bool false)], args := [d], vars := [g1, g2, g3] }
  | _ => none }
def FnMeterDetWrongFalsely : Prop := fnMeterDetRow.holds Tryd.pinned (OpenSpec.ofChange fnMeterDetWrong)

/-- 'laws.FnGood': WHATEVER THE INPUT: true; the input reads as it did. -/
def fnGoodSpec : ChangeSpec := { name := "fnGood", vars := ["loop.example/polarisedlight/impl.zero", "loop.example/polarisedlight/impl.one", "loop.example/polarisedlight/impl.turns"], fn := fun _ => fun
  | [d, g1, g2, g3] => { results := [.lit (.bool true)], args := [d], vars := [g1, g2, g3] }
  | _ => none }
def fnGoodRow : OpenClaim := { program := "ytalcjmefmffcnaadoor", sum := "137d32f1740ed84ad010cc950fccb29716e6ce860b5b92ba2a45ac95dfad50c0", func := "loop.example/polarisedlight/laws.FnGood", spec := "fnGood", unfollowed := true, recurses := true, named := ["loop.example/polarisedlight/impl.zero", "loop.example/polarisedlight/impl.one", "loop.example/polarisedlight/impl.turns"], apart := false, laid := [("loop.example/polarisedlight/impl.zero", laid_loop_example_polarisedlight_impl_zero), ("loop.example/polarisedlight/impl.one", laid_loop_example_polarisedlight_impl_one), ("loop.example/polarisedlight/impl.turns", laid_loop_example_polarisedlight_impl_turns)] }
def FnGoodSaid : Prop := fnGoodRow.holds Tryd.pinned (OpenSpec.ofChange fnGoodSpec)

/-- ITS FALSE NEIGHBOUR: 'it returns false'. Refute it at one input. -/
def fnGoodWrong : ChangeSpec := { name := "fnGood", vars := ["loop.example/polarisedlight/impl.zero", "loop.example/polarisedlight/impl.one", "loop.example/polarisedlight/impl.turns"], fn := fun _ => fun
  | [d, g1, g2, g3] => { results := [.lit (.bool false)], args := [d], vars := [g1, g2, g3] }
  | _ => none }
def FnGoodWrongFalsely : Prop := fnGoodRow.holds Tryd.pinned (OpenSpec.ofChange fnGoodWrong)

/-- 'laws.FnExactMeterGood': WHATEVER THE INPUT: true; the input reads as it did. -/
def fnExactMeterGoodSpec : ChangeSpec := { name := "fnExactMeterGood", vars := ["loop.example/polarisedlight/impl.zero", "loop.example/polarisedlight/impl.one", "loop.example/polarisedlight/impl.turns"], fn := fun _ => fun
  | [d, g1, g2, g3] => { results := [.lit (.bool true)], args := [d], vars := [g1, g2, g3] }
  | _ => none }
def fnExactMeterGoodRow : OpenClaim := { program := "ytalcjmefmffcnaadoor", sum := "137d32f1740ed84ad010cc950fccb29716e6ce860b5b92ba2a45ac95dfad50c0", func := "loop.example/polarisedlight/laws.FnExactMeterGood", spec := "fnExactMeterGood", unfollowed := true, recurses := true, named := ["loop.example/polarisedlight/impl.zero", "loop.example/polarisedlight/impl.one", "loop.example/polarisedlight/impl.turns"], apart := false, laid := [("loop.example/polarisedlight/impl.zero", laid_loop_example_polarisedlight_impl_zero), ("loop.example/polarisedlight/impl.one", laid_loop_example_polarisedlight_impl_one), ("loop.example/polarisedlight/impl.turns", laid_loop_example_polarisedlight_impl_turns)] }
def FnExactMeterGoodSaid : Prop := fnExactMeterGoodRow.holds Tryd.pinned (OpenSpec.ofChange fnExactMeterGoodSpec)

/-- ITS FALSE NEIGHBOUR: 'it returns false'. Refute it at one input. -/
def fnExactMeterGoodWrong : ChangeSpec := { name := "fnExactMeterGood", vars := ["loop.example/polarisedlight/impl.zero", "loop.example/polarisedlight/impl.one", "loop.example/polarisedlight/impl.turns"], fn := fun _ => fun
  | [d, g1, g2, g3] => { results := [.lit (.bool false)], args := [d], vars := [g1, g2, g3] }
  | _ => none }
def FnExactMeterGoodWrongFalsely : Prop := fnExactMeterGoodRow.holds Tryd.pinned (OpenSpec.ofChange fnExactMeterGoodWrong)

/-- 'laws.FnExactMeterDet': WHATEVER THE INPUT: true; the input reads as it did. -/
def fnExactMeterDetSpec : ChangeSpec := { name := "fnExactMeterDet", vars := ["loop.example/polarisedlight/impl.one", "loop.example/polarisedlight/impl.zero", "loop.example/polarisedlight/impl.turns"], fn := fun _ => fun
  | [d, g1, g2, g3] => { results := [.lit (.bool true)], args := [d], vars := [g1, g2, g3] }
  | _ => none }
def fnExactMeterDetRow : OpenClaim := { program := "ytalcjmefmffcnaadoor", sum := "137d32f1740ed84ad010cc950fccb29716e6ce860b5b92ba2a45ac95dfad50c0", func := "loop.example/polarisedlight/laws.FnExactMeterDet", spec := "fnExactMeterDet", unfollowed := true, recurses := true, named := ["loop.example/polarisedlight/impl.one", "loop.example/polarisedlight/impl.zero", "loop.example/polarisedlight/impl.turns"], apart := false, laid := [("loop.example/polarisedlight/impl.zero", laid_loop_example_polarisedlight_impl_zero), ("loop.example/polarisedlight/impl.one", laid_loop_example_polarisedlight_impl_one), ("loop.example/polarisedlight/impl.turns", laid_loop_example_polarisedlight_impl_turns)] }
def FnExactMeterDetSaid : Prop := fnExactMeterDetRow.holds Tryd.pinned (OpenSpec.ofChange fnExactMeterDetSpec)

/-- ITS FALSE NEIGHBOUR: 'it returns false'. Refute it at one input. -/
def fnExactMeterDetWrong : ChangeSpec := { name := "fnExactMeterDet", vars := ["loop.example/polarisedlight/impl.one", "loop.example/polarisedlight/impl.zero", "loop.example/polarisedlight/impl.turns"], fn := fun _ => fun
  | [d, g1, g2, g3] => { results := [.lit (.bool false)], args := [d], vars := [g1, g2, g3] }
  | _ => none }
def FnExactMeterDetWrongFalsely : Prop := fnExactMeterDetRow.holds Tryd.pinned (OpenSpec.ofChange fnExactMeterDetWrong)

/-- 'laws.FnExactMeterTurn': WHATEVER THE INPUT: true; the input reads as it did. -/
def fnExactMeterTurnSpec : ChangeSpec := { name := "fnExactMeterTurn", vars := ["loop.example/polarisedlight/impl.one", "loop.example/polarisedlight/impl.zero", "loop.example/polarisedlight/impl.turns"], fn := fun _ => fun
  | [d1, d2, d3, d4, g1, g2, g3] => { results := [.lit (.bool true)], args := [d1, d2, d3, d4], vars := [g1, g2, g3] }
  | _ => none }
def fnExactMeterTurnRow : OpenClaim := { program := "ytalcjmefmffcnaadoor", sum := "137d32f1740ed84ad010cc950fccb29716e6ce860b5b92ba2a45ac95dfad50c0", func := "loop.example/polarisedlight/laws.FnExactMeterTurn", spec := "fnExactMeterTurn", unfollowed := true, recurses := true, named := ["loop.example/polarisedlight/impl.one", "loop.example/polarisedlight/impl.zero", "loop.example/polarisedlight/impl.turns"], apart := false, laid := [("loop.example/polarisedlight/impl.zero", laid_loop_example_polarisedlight_impl_zero), ("loop.example/polarisedlight/impl.one", laid_loop_example_polarisedlight_impl_one), ("loop.example/polarisedlight/impl.turns", laid_loop_example_polarisedlight_impl_turns)] }
def FnExactMeterTurnSaid : Prop := fnExactMeterTurnRow.holds Tryd.pinned (OpenSpec.ofChange fnExactMeterTurnSpec)

/-- ITS FALSE NEIGHBOUR: 'it returns false'. Refute it at one input. -/
def fnExactMeterTurnWrong : ChangeSpec := { name := "fnExactMeterTurn", vars := ["loop.example/polarisedlight/impl.one", "loop.example/polarisedlight/impl.zero", "loop.example/polarisedlight/impl.turns"], fn := fun _ => fun
  | [d1, d2, d3, d4, g1, g2, g3] => { results := [.lit (.bool false)], args := [d1, d2, d3, d4], vars := [g1, g2, g3] }
  | _ => none }
def FnExactMeterTurnWrongFalsely : Prop := fnExactMeterTurnRow.holds Tryd.pinned (OpenSpec.ofChange fnExactMeterTurnWrong)

/-- 'laws.FnExactMeterRead': WHATEVER THE INPUT: true; the input reads as it did. -/
def fnExactMeterReadSpec : ChangeSpec := { name := "fnExactMeterRead", vars := ["loop.example/polarisedlight/impl.one", "loop.example/polarisedlight/impl.zero", "loop.example/polarisedlight/impl.turns"], fn := fun _ => fun
  | [d1, d2, g1, g2, g3] => { results := [.lit (.bool true)], args := [d1, d2], vars := [g1, g2, g3] }
  | _ => none }
def fnExactMeterReadRow : OpenClaim := { program := "ytalcjmefmffcnaadoor", sum := "137d32f1740ed84ad010cc950fccb29716e6ce860b5b92ba2a45ac95dfad50c0", func := "loop.example/polarisedlight/laws.FnExactMeterRead", spec := "fnExactMeterRead", unfollowed := true, recurses := true, named := ["loop.example/polarisedlight/impl.one", "loop.example/polarisedlight/impl.zero", "loop.example/polarisedlight/impl.turns"], apart := false, laid := [("loop.example/polarisedlight/impl.zero", laid_loop_example_polarisedlight_impl_zero), ("loop.example/polarisedlight/impl.one", laid_loop_example_polarisedlight_impl_one), ("loop.example/polarisedlight/impl.turns", laid_loop_example_polarisedlight_impl_turns)] }
def FnExactMeterReadSaid : Prop := fnExactMeterReadRow.holds Tryd.pinned (OpenSpec.ofChange fnExactMeterReadSpec)

/-- ITS FALSE NEIGHBOUR: 'it returns false'. Refute it at one input. -/
def fnExactMeterReadWrong : ChangeSpec := { name := "fnExactMeterRead", vars := ["loop.example/polarisedlight/impl.one", "loop.example/polarisedlight/impl.zero", "loop.example/polarisedlight/impl.turns"], fn := fun _ => fun
  | [d1, d2, g1, g2, g3] => { results := [.lit (.bool false)], args := [d1, d2], vars := [g1, g2, g3] }
  | _ => none }
def FnExactMeterReadWrongFalsely : Prop := fnExactMeterReadRow.holds Tryd.pinned (OpenSpec.ofChange fnExactMeterReadWrong)

/-- 'laws.FnTurn': WHATEVER THE INPUT: true; the input reads as it did. -/
def fnTurnSpec : ChangeSpec := { name := "fnTurn", vars := ["loop.example/polarisedlight/impl.one", "loop.example/polarisedlight/impl.zero", "loop.example/polarisedlight/impl.turns"], fn := fun _ => fun
  | [d, g1, g2, g3] => { results := [.lit (.bool true)], args := [d], vars := [g1, g2, g3] }
  | _ => none }
def fnTurnRow : OpenClaim := { program := "ytalcjmefmffcnaadoor", sum := "137d32f1740ed84ad010cc950fccb29716e6ce860b5b92ba2a45ac95dfad50c0", func := "loop.example/polarisedlight/laws.FnTurn", spec := "fnTurn", unfollowed := true, recurses := true, named := ["loop.example/polarisedlight/impl.one", "loop.example/polarisedlight/impl.zero", "loop.example/polarisedlight/impl.turns"], apart := false, laid := [("loop.example/polarisedlight/impl.zero", laid_loop_example_polarisedlight_impl_zero), ("loop.example/polarisedlight/impl.one", laid_loop_example_polarisedlight_impl_one), ("loop.example/polarisedlight/impl.turns", laid_loop_example_polarisedlight_impl_turns)] }
def FnTurnSaid : Prop := fnTurnRow.holds Tryd.pinned (OpenSpec.ofChange fnTurnSpec)

/-- ITS FALSE NEIGHBOUR: 'it returns false'. Refute it at one input. -/
def fnTurnWrong : ChangeSpec := { name := "fnTurn", vars := ["loop.example/polarisedlight/impl.one", "loop.example/polarisedlight/impl.zero", "loop.example/polarisedlight/impl.turns"], fn := fun _ => fun
  | [d, g1, g2, g3] => { results := [.lit (.bool false)], args := [d], vars := [g1, g2, g3] }
  | _ => none }
def FnTurnWrongFalsely : Prop := fnTurnRow.holds Tryd.pinned (OpenSpec.ofChange fnTurnWrong)

/-- 'laws.FnExactMeterSolve': WHATEVER THE INPUT: true; the input reads as it did. -/
def fnExactMeterSolveSpec : ChangeSpec := { name := "fnExactMeterSolve", vars := ["loop.example/polarisedlight/impl.one", "loop.example/polarisedlight/impl.zero", "loop.example/polarisedlight/impl.turns"], fn := fun _ => fun
  | [d1, d2, g1, g2, g3] => { results := [.lit (.bool true)], args := [d1, d2], vars := [g1, g2, g3] }
  | _ => none }
def fnExactMeterSolveRow : OpenClaim := { program := "ytalcjmefmffcnaadoor", sum := "137d32f1740ed84ad010cc950fccb29716e6ce860b5b92ba2a45ac95dfad50c0", func := "loop.example/polarisedlight/laws.FnExactMeterSolve", spec := "fnExactMeterSolve", unfollowed := true, recurses := true, named := ["loop.example/polarisedlight/impl.one", "loop.example/polarisedlight/impl.zero", "loop.example/polarisedlight/impl.turns"], apart := false, laid := [("loop.example/polarisedlight/impl.zero", laid_loop_example_polarisedlight_impl_zero), ("loop.example/polarisedlight/impl.one", laid_loop_example_polarisedlight_impl_one), ("loop.example/polarisedlight/impl.turns", laid_loop_example_polarisedlight_impl_turns)] }
def FnExactMeterSolveSaid : Prop := fnExactMeterSolveRow.holds Tryd.pinned (OpenSpec.ofChange fnExactMeterSolveSpec)

/-- ITS FALSE NEIGHBOUR: 'it returns false'. Refute it at one input. -/
def fnExactMeterSolveWrong : ChangeSpec := { name := "fnExactMeterSolve", vars := ["loop.example/polarisedlight/impl.one", "loop.example/polarisedlight/impl.zero", "loop.example/polarisedlight/impl.turns"], fn := fun _ => fun
  | [d1, d2, g1, g2, g3] => { results := [.lit (.bool false)], args := [d1, d2], vars := [g1, g2, g3] }
  | _ => none }
def FnExactMeterSolveWrongFalsely : Prop := fnExactMeterSolveRow.holds Tryd.pinned (OpenSpec.ofChange fnExactMeterSolveWrong)

/- THE SECOND FORM. 'bulk': how many values and letters a reading holds, each counted each time it is reached (what is shared counts as often as it is met; a slice's spare places count too). A statement '..UptoSaid' is the law's where the arguments, and the package variables that the reading takes, are together of bulk at most 1048576: NARROWER than '..Said'. Prove '..Said' where nothing that the law and all that it calls make is longer than what came in: it says more and counts as full. Else prove '..UptoSaid'. A law counts once. -/
mutual
def uptoBulk {H : Type} : DataW H → Nat
  | .lit (.string bytes) => bytes.length + 1
  | .lit _ => 1
  | .nil => 1
  | .ptr d => uptoBulk d + 1
  | .slice elems spare => uptoBulkAll elems + uptoBulkAll spare + 1
  | .agg parts => uptoBulkAll parts + 1
  | .iface _ d => uptoBulk d + 1
  | .map entries => uptoBulkEntries entries + 1
  | .held _ => 1
def uptoBulkAll {H : Type} : List (DataW H) → Nat
  | [] => 0
  | d :: r => uptoBulk d + uptoBulkAll r
def uptoBulkEntries {H : Type} : List (Lit × DataW H) → Nat
  | [] => 0
  | x :: r => uptoBulkEntry x + uptoBulkEntries r
def uptoBulkEntry {H : Type} : Lit × DataW H → Nat
  | (.string bytes, d) => bytes.length + uptoBulk d + 1
  | (_, d) => uptoBulk d + 1
 end
def uptoSmall : (H : Type) → List (DataW H) → Bool := fun _ ds => decide (uptoBulkAll ds ≤ 1048576)
def OpenSpec.upto (s : _root_.Go.ChangeSpec) : _root_.Go.OpenSpec := { _root_.Go.OpenSpec.ofChange s with cond := some uptoSmall }

/-- 'laws.FnExactMeterRow', WHERE WHAT IT READS IS OF BULK AT MOST 1048576: true; the input reads as it did. -/
def fnExactMeterRowUptoRow : OpenClaim := { program := "ytalcjmefmffcnaadoor", sum := "137d32f1740ed84ad010cc950fccb29716e6ce860b5b92ba2a45ac95dfad50c0", func := "loop.example/polarisedlight/laws.FnExactMeterRow", spec := "fnExactMeterRow", unfollowed := true, recurses := true, named := ["loop.example/polarisedlight/impl.one", "loop.example/polarisedlight/impl.zero", "loop.example/polarisedlight/impl.turns"], apart := false, laid := [("loop.example/polarisedlight/impl.zero", laid_loop_example_polarisedlight_impl_zero), ("loop.example/polarisedlight/impl.one", laid_loop_example_polarisedlight_impl_one), ("loop.example/polarisedlight/impl.turns", laid_loop_example_polarisedlight_impl_turns)], narrowed := true }
def FnExactMeterRowUptoSaid : Prop := fnExactMeterRowUptoRow.holds Tryd.pinned (OpenSpec.upto fnExactMeterRowSpec)

/-- 'laws.FnRow', WHERE WHAT IT READS IS OF BULK AT MOST 1048576: true; the input reads as it did. -/
def fnRowUptoRow : OpenClaim := { program := "ytalcjmefmffcnaadoor", sum := "137d32f1740ed84ad010cc950fccb29716e6ce860b5b92ba2a45ac95dfad50c0", func := "loop.example/polarisedlight/laws.FnRow", spec := "fnRow", unfollowed := true, recurses := true, named := ["loop.example/polarisedlight/impl.one", "loop.example/polarisedlight/impl.zero", "loop.example/polarisedlight/impl.turns"], apart := false, laid := [("loop.example/polarisedlight/impl.zero", laid_loop_example_polarisedlight_impl_zero), ("loop.example/polarisedlight/impl.one", laid_loop_example_polarisedlight_impl_one), ("loop.example/polarisedlight/impl.turns", laid_loop_example_polarisedlight_impl_turns)], narrowed := true }
def FnRowUptoSaid : Prop := fnRowUptoRow.holds Tryd.pinned (OpenSpec.upto fnRowSpec)

/-- 'laws.FnCalibrate', WHERE WHAT IT READS IS OF BULK AT MOST 1048576: true; the input reads as it did. -/
def fnCalibrateUptoRow : OpenClaim := { program := "ytalcjmefmffcnaadoor", sum := "137d32f1740ed84ad010cc950fccb29716e6ce860b5b92ba2a45ac95dfad50c0", func := "loop.example/polarisedlight/laws.FnCalibrate", spec := "fnCalibrate", recurses := true, named := ["loop.example/polarisedlight/impl.zero"], apart := false, laid := [("loop.example/polarisedlight/impl.zero", laid_loop_example_polarisedlight_impl_zero)], narrowed := true }
def FnCalibrateUptoSaid : Prop := fnCalibrateUptoRow.holds Tryd.pinned (OpenSpec.upto fnCalibrateSpec)

/-- 'laws.FnMeterDet', WHERE WHAT IT READS IS OF BULK AT MOST 1048576: true; the input reads as it did. -/
def fnMeterDetUptoRow : OpenClaim := { program := "ytalcjmefmffcnaadoor", sum := "137d32f1740ed84ad010cc950fccb29716e6ce860b5b92ba2a45ac95dfad50c0", func := "loop.example/polarisedlight/laws.FnMeterDet", spec := "fnMeterDet", unfollowed := true, recurses := true, named := ["loop.example/polarisedlight/impl.one", "loop.example/polarisedlight/impl.zero", "loop.example/polarisedlight/impl.turns"], apart := false, laid := [("loop.example/polarisedlight/impl.zero", laid_loop_example_polarisedlight_impl_zero), ("loop.example/polarisedlight/impl.one", laid_loop_example_polarisedlight_impl_one), ("loop.example/polarisedlight/impl.turns", laid_loop_example_polarisedlight_impl_turns)], narrowed := true }
def FnMeterDetUptoSaid : Prop := fnMeterDetUptoRow.holds Tryd.pinned (OpenSpec.upto fnMeterDetSpec)

/-- 'laws.FnGood', WHERE WHAT IT READS IS OF BULK AT MOST 1048576: true; the input reads as it did. -/
def fnGoodUptoRow : OpenClaim := { program := "ytalcjmefmffcnaadoor", sum := "137d32f1740ed84ad010cc950fccb29716e6ce860b5b92ba2a45ac95dfad50c0", func := "loop.example/polarisedlight/laws.FnGood", spec := "fnGood", unfollowed := true, recurses := true, named := ["loop.example/polarisedlight/impl.zero", "loop.example/polarisedlight/impl.one", "loop.example/polarisedlight/impl.turns"], apart := false, laid := [("loop.example/polarisedlight/impl.zero", laid_loop_example_polarisedlight_impl_zero), ("loop.example/polarisedlight/impl.one", laid_loop_example_polarisedlight_impl_one), ("loop.example/polarisedlight/impl.turns", laid_loop_example_polarisedlight_impl_turns)], narrowed := true }
def FnGoodUptoSaid : Prop := fnGoodUptoRow.holds Tryd.pinned (OpenSpec.upto fnGoodSpec)

/-- 'laws.FnExactMeterGood', WHERE WHAT IT READS IS OF BULK AT MOST 1048576: true; the input reads as it did. -/
def fnExactMeterGoodUptoRow : OpenClaim := { program := "ytalcjmefmffcnaadoor", sum := "137d32f1740ed84ad010cc950fccb29716e6ce860b5b92ba2a45ac95dfad50c0", func := "loop.example/polarisedlight/laws.FnExactMeterGood", spec := "fnExactMeterGood", unfollowed := true, recurses := true, named := ["loop.example/polarisedlight/impl.zero", "loop.example/polarisedlight/impl.one", "loop.example/polarisedlight/impl.turns"], apart := false, laid := [("loop.example/polarisedlight/impl.zero", laid_loop_example_polarisedlight_impl_zero), ("loop.example/polarisedlight/impl.one", laid_loop_example_polarisedlight_impl_one), ("loop.example/polarisedlight/impl.turns", laid_loop_example_polarisedlight_impl_turns)], narrowed := true }
def FnExactMeterGoodUptoSaid : Prop := fnExactMeterGoodUptoRow.holds Tryd.pinned (OpenSpec.upto fnExactMeterGoodSpec)

/-- 'laws.FnExactMeterDet', WHERE WHAT IT READS IS OF BULK AT MOST 1048576: true; the input reads as it did. -/
def fnExactMeterDetUptoRow : OpenClaim := { program := "ytalcjmefmffcnaadoor", sum := "137d32f1740ed84ad010cc950fccb29716e6ce860b5b92ba2a45ac95dfad50c0", func := "loop.example/polarisedlight/laws.FnExactMeterDet", spec := "fnExactMeterDet", unfollowed := true, recurses := true, named := ["loop.example/polarisedlight/impl.one", "loop.example/polarisedlight/impl.zero", "loop.example/polarisedlight/impl.turns"], apart := false, laid := [("loop.example/polarisedlight/impl.zero", laid_loop_example_polarisedlight_impl_zero), ("loop.example/polarisedlight/impl.one", laid_loop_example_polarisedlight_impl_one), ("loop.example/polarisedlight/impl.turns", laid_loop_example_polarisedlight_impl_turns)], narrowed := true }
def FnExactMeterDetUptoSaid : Prop := fnExactMeterDetUptoRow.holds Tryd.pinned (OpenSpec.upto fnExactMeterDetSpec)

/-- 'laws.FnExactMeterTurn', WHERE WHAT IT READS IS OF BULK AT MOST 1048576: true; the input reads as it did. -/
def fnExactMeterTurnUptoRow : OpenClaim := { program := "ytalcjmefmffcnaadoor", sum := "137d32f1740ed84ad010cc950fccb29716e6ce860b5b92ba2a45ac95dfad50c0", func := "loop.example/polarisedlight/laws.FnExactMeterTurn", spec := "fnExactMeterTurn", unfollowed := true, recurses := true, named := ["loop.example/polarisedlight/impl.one", "loop.example/polarisedlight/impl.zero", "loop.example/polarisedlight/impl.turns"], apart := false, laid := [("loop.example/polarisedlight/impl.zero", laid_loop_example_polarisedlight_impl_zero), ("loop.example/polarisedlight/impl.one", laid_loop_example_polarisedlight_impl_one), ("loop.example/polarisedlight/impl.turns", laid_loop_example_polarisedlight_impl_turns)], narrowed := true }
def FnExactMeterTurnUptoSaid : Prop := fnExactMeterTurnUptoRow.holds Tryd.pinned (OpenSpec.upto fnExactMeterTurnSpec)

/-- 'laws.FnExactMeterRead', WHERE WHAT IT READS IS OF BULK AT MOST 1048576: true; the input reads as it did. -/
def fnExactMeterReadUptoRow : OpenClaim := { program := "ytalcjmefmffcnaadoor", sum := "137d32f1740ed84ad010cc950fccb29716e6ce860b5b92ba2a45ac95dfad50c0", func := "loop.example/polarisedlight/laws.FnExactMeterRead", spec := "fnExactMeterRead", unfollowed := true, recurses := true, named := ["loop.example/polarisedlight/impl.one", "loop.example/polarisedlight/impl.zero", "loop.example/polarisedlight/impl.turns"], apart := false, laid := [("loop.example/polarisedlight/impl.zero", laid_loop_example_polarisedlight_impl_zero), ("loop.example/polarisedlight/impl.one", laid_loop_example_polarisedlight_impl_one), ("loop.example/polarisedlight/impl.turns", laid_loop_example_polarisedlight_impl_turns)], narrowed := true }
def FnExactMeterReadUptoSaid : Prop := fnExactMeterReadUptoRow.holds Tryd.pinned (OpenSpec.upto fnExactMeterReadSpec)

/-- 'laws.FnTurn', WHERE WHAT IT READS IS OF BULK AT MOST 1048576: true; the input reads as it did. -/
def fnTurnUptoRow : OpenClaim := { program := "ytalcjmefmffcnaadoor", sum := "137d32f1740ed84ad010cc950fccb29716e6ce860b5b92ba2a45ac95dfad50c0", func := "loop.example/polarisedlight/laws.FnTurn", spec := "fnTurn", unfollowed := true, recurses := true, named := ["loop.example/polarisedlight/impl.one", "loop.example/polarisedlight/impl.zero", "loop.example/polarisedlight/impl.turns"], apart := false, laid := [("loop.example/polarisedlight/impl.zero", laid_loop_example_polarisedlight_impl_zero), ("loop.example/polarisedlight/impl.one", laid_loop_example_polarisedlight_impl_one), ("loop.example/polarisedlight/impl.turns", laid_loop_example_polarisedlight_impl_turns)], narrowed := true }
def FnTurnUptoSaid : Prop := fnTurnUptoRow.holds Tryd.pinned (OpenSpec.upto fnTurnSpec)

/-- 'laws.FnExactMeterSolve', WHERE WHAT IT READS IS OF BULK AT MOST 1048576: true; the input reads as it did. -/
def fnExactMeterSolveUptoRow : OpenClaim := { program := "ytalcjmefmffcnaadoor", sum := "137d32f1740ed84ad010cc950fccb29716e6ce860b5b92ba2a45ac95dfad50c0", func := "loop.example/polarisedlight/laws.FnExactMeterSolve", spec := "fnExactMeterSolve", unfollowed := true, recurses := true, named := ["loop.example/polarisedlight/impl.one", "loop.example/polarisedlight/impl.zero", "loop.example/polarisedlight/impl.turns"], apart := false, laid := [("loop.example/polarisedlight/impl.zero", laid_loop_example_polarisedlight_impl_zero), ("loop.example/polarisedlight/impl.one", laid_loop_example_polarisedlight_impl_one), ("loop.example/polarisedlight/impl.turns", laid_loop_example_polarisedlight_impl_turns)], narrowed := true }
def FnExactMeterSolveUptoSaid : Prop := fnExactMeterSolveUptoRow.holds Tryd.pinned (OpenSpec.upto fnExactMeterSolveSpec)

end Rows
end Go.Proofs.YtalcjmefmffcnaaDoor
