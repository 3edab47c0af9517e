/-
  NARROWER THAN 'FOR EVERY INPUT', by the rows' own cells (each row's printed sentence says how): FnExactRatioVector: laid · FnRatioVector: laid · FnExactRatioOf: laid.
  DERIVED. THE GIVEN ROWS OF THIS SEAT. 3 by the template 'for every input the law returns true; each argument reads behind the call as it read before'; 0 by the template 'total and deterministic' (their statements: YtejpbdgblpehnaaDoorTotals.lean).
  GIVEN WITH THE SEED: the statements are not yours to turn. If you find one false, say at which input.
  Laid BY PROGRAM, IN A SANDBOX (cutbox-rows.mjs): the forced cells as the released guide's own fill.sh prints them over the translation de92eb78f978c1c8… (all of the seat's roots in one cut). By AI agents, Wed Nov 11 2026. No macro, syntax, notation, axiom, sorry.
-/
import Derived.Test.YtejpbdgblpehnaaDoorChecked
import GoSem.Claim
import GoSem.ClaimJoined
import GoSem.ClaimMapViews
import Derived.JoinedTies
import Derived.KernelRfl
namespace Go.Proofs.YtejpbdgblpehnaaDoor
/- THE CELL 'sum', in the pinned program and in every row, IS THE sha256 OF THE DUMP (.gsa) THAT YtejpbdgblpehnaaDoorProg.lean LOADS. Nothing in Lean hashes anything: it is a label: what it is worth is what the hold of that sum in a sandbox is worth. -/
noncomputable def Tryd.pinned : Pinned := { name := "ytejpbdgblpehnaadoor", sum := "de92eb78f978c1c8ea61fa1c1f9d7954221de8699cb87364a581ec7c9d2aaa80", checked := Tryd.checked }
namespace Rows
def none {H : Type} : Left H := { results := [], args := [] }

/- WHAT THE LISTED PACKAGE-LEVEL VARIABLES READ AS WHEN THE CALL BEGINS. Each datum BY PROGRAM (the guide's laid-datum.mjs) off the statement by which the dump's own 'gosem.cut.vars' lays the variable. In a bare row this is a premise. The card (YtejpbdgblpehnaaDoorCards.lean) ties it to the program's text. -/
def laid_loop_example_polarisedlight_impl_one {H : Type} : DataW H := .agg [.lit (.int .i64 1), .lit (.int .i64 0), .lit (.int .i64 1)]
def laid_loop_example_polarisedlight_impl_zero {H : Type} : DataW H := .agg [.lit (.int .i64 0), .lit (.int .i64 0), .lit (.int .i64 1)]

/-- 'laws.FnExactRatioVector': WHATEVER THE INPUT: true; the input reads as it did. -/
def fnExactRatioVectorSpec : ChangeSpec := { name := "fnExactRatioVector", vars := ["loop.example/polarisedlight/impl.one"], fn := fun _ => fun
  | [d, g1] => { results := [.lit (.bool true)], args := [d], vars := [g1] }
  | _ => none }
def fnExactRatioVectorRow : OpenClaim := { program := "ytejpbdgblpehnaadoor", sum := "de92eb78f978c1c8ea61fa1c1f9d7954221de8699cb87364a581ec7c9d2aaa80", func := "loop.example/polarisedlight/laws.FnExactRatioVector", spec := "fnExactRatioVector", named := ["loop.example/polarisedlight/impl.one"], apart := false, laid := [("loop.example/polarisedlight/impl.one", laid_loop_example_polarisedlight_impl_one)] }
def FnExactRatioVectorSaid : Prop := fnExactRatioVectorRow.holds Tryd.pinned (OpenSpec.ofChange fnExactRatioVectorSpec)

/-- ITS FALSE NEIGHBOUR: 'it returns false'. Refute it at one input. -/
def fnExactRatioVectorWrong : ChangeSpec := { name := "fnExactRatioVector", vars := ["loop.example/polarisedlight/impl.one"], fn := fun _ => fun
  | [d, g1] => { results := [.lit (.bool false)], args := [d], vars := [g1] }
  | _ => none }
def FnExactRatioVectorWrongFalsely : Prop := fnExactRatioVectorRow.holds Tryd.pinned (OpenSpec.ofChange fnExactRatioVectorWrong)

/-- 'laws.FnRatioVector': WHATEVER THE INPUT: true; the input reads as it did. -/
def fnRatioVectorSpec : ChangeSpec := { name := "fnRatioVector", vars := ["loop.example/polarisedlight/impl.one", "loop.example/polarisedlight/impl.zero"], fn := fun _ => fun
  | [d, g1, g2] => { results := [.lit (.bool true)], args := [d], vars := [g1, g2] }
  | _ => none }
def fnRatioVectorRow : OpenClaim := { program := "ytejpbdgblpehnaadoor", sum := "de92eb78f978c1c8ea61fa1c1f9d7954221de8699cb87364a581ec7c9d2aaa80", func := "loop.example/polarisedlight/laws.FnRatioVector", spec := "fnRatioVector", named := ["loop.example/polarisedlight/impl.one", "loop.example/polarisedlight/impl.zero"], apart := false, laid := [("loop.example/polarisedlight/impl.zero", laid_loop_example_polarisedlight_impl_zero), ("loop.example/polarisedlight/impl.one", laid_loop_example_polarisedlight_impl_one)] }
def FnRatioVectorSaid : Prop := fnRatioVectorRow.holds Tryd.pinned (OpenSpec.ofChange fnRatioVectorSpec)

/-- ITS FALSE NEIGHBOUR: 'it returns false'. Refute it at one input. -/
def fnRatioVectorWrong : ChangeSpec := { name := "fnRatioVector", vars := ["loop.example/polarisedlight/impl.one", "loop.example/polarisedlight/impl.zero"], fn := fun _ => fun
  | [d, g1, g2] => { results := [.lit (.bool false)], args := [d], vars := [g1, g2] }
  | _ => none }
def FnRatioVectorWrongFalsely : Prop := fnRatioVectorRow.holds Tryd.pinned (OpenSpec.ofChange fnRatioVectorWrong)

/-- 'laws.FnExactRatioOf': WHATEVER THE INPUT: true; the input reads as it did. -/
def fnExactRatioOfSpec : ChangeSpec := { name := "fnExactRatioOf", vars := ["loop.example/polarisedlight/impl.zero"], fn := fun _ => fun
  | [d, g1] => { results := [.lit (.bool true)], args := [d], vars := [g1] }
  | _ => none }
def fnExactRatioOfRow : OpenClaim := { program := "ytejpbdgblpehnaadoor", sum := "de92eb78f978c1c8ea61fa1c1f9d7954221de8699cb87364a581ec7c9d2aaa80", func := "loop.example/polarisedlight/laws.FnExactRatioOf", spec := "fnExactRatioOf", named := ["loop.example/polarisedlight/impl.zero"], apart := false, laid := [("loop.example/polarisedlight/impl.zero", laid_loop_example_polarisedlight_impl_zero)] }
def FnExactRatioOfSaid : Prop := fnExactRatioOfRow.holds Tryd.pinned (OpenSpec.ofChange fnExactRatioOfSpec)

/-- ITS FALSE NEIGHBOUR: 'it returns false'. Refute it at one input. -/
def fnExactRatioOfWrong : ChangeSpec := { name := "fnExactRatioOf", vars := ["loop.example/polarisedlight/impl.zero"], fn := fun _ => fun
  | [d, g1] => { results := [.lit (.bool false)], args := [d], vars := [g1] }
  | _ => none }
def FnExactRatioOfWrongFalsely : Prop := fnExactRatioOfRow.holds Tryd.pinned (OpenSpec.ofChange fnExactRatioOfWrong)

/- THE SECOND FORM. 'bulk': how many values and letters a reading holds, each counted each time it is reached (what is shared counts as often as it is met; a slice's spare places count too). A statement '..UptoSaid' is the law's where the arguments, and the package variables that the reading takes, are together of bulk at most 1048576: NARROWER than '..Said'. Prove '..Said' where nothing that the law and all that it calls make is longer than what came in: it says more and counts as full. Else prove '..UptoSaid'. A law counts once. -/
mutual
def uptoBulk {H : Type} : DataW H → Nat
  | .lit (.string bytes) => bytes.length + 1
  | .lit _ => 1
  | .nil => 1
  | .ptr d => uptoBulk d + 1
  | .slice elems spare => uptoBulkAll elems + uptoBulkAll spare + 1
  | .agg parts => uptoBulkAll parts + 1
  | .iface _ d => uptoBulk d + 1
  | .map entries => uptoBulkEntries entries + 1
  | .held _ => 1
def uptoBulkAll {H : Type} : List (DataW H) → Nat
  | [] => 0
  | d :: r => uptoBulk d + uptoBulkAll r
def uptoBulkEntries {H : Type} : List (Lit × DataW H) → Nat
  | [] => 0
  | x :: r => uptoBulkEntry x + uptoBulkEntries r
def uptoBulkEntry {H : Type} : Lit × DataW H → Nat
  | (.string bytes, d) => bytes.length + uptoBulk d + 1
  | (_, d) => uptoBulk d + 1
 end
def uptoSmall : (H : Type) → List (DataW H) → Bool := fun _ ds => decide (uptoBulkAll ds ≤ 1048576)
def OpenSpec.upto (s : _root_.Go.ChangeSpec) : _root_.Go.OpenSpec := { _root_.Go.OpenSpec.ofChange s with cond := some uptoSmall }

/-- 'laws.FnExactRatioVector', WHERE WHAT IT READS IS OF BULK AT MOST 1048576: true; the input reads as it did. -/
def fnExactRatioVectorUptoRow : OpenClaim := { program := "ytejpbdgblpehnaadoor", sum := "de92eb78f978c1c8ea61fa1c1f9d7954221de8699cb87364a581ec7c9d2aaa80", func := "loop.example/polarisedlight/laws.FnExactRatioVector", spec := "fnExactRatioVector", named := ["loop.example/polarisedlight/impl.one"], apart := false, laid := [("loop.example/polarisedlight/impl.one", laid_loop_example_polarisedlight_impl_one)], narrowed := true }
def FnExactRatioVectorUptoSaid : Prop := fnExactRatioVectorUptoRow.holds Tryd.pinned (OpenSpec.upto fnExactRatioVectorSpec)

/-- 'laws.FnRatioVector', WHERE WHAT IT READS IS OF BULK AT MOST 1048576: true; the input reads as it did. -/
def fnRatioVectorUptoRow : OpenClaim := { program := "ytejpbdgblpehnaadoor", sum := "de92eb78f978c1c8ea61fa1c1f9d7954221de8699cb87364a581ec7c9d2aaa80", func := "loop.example/polarisedlight/laws.FnRatioVector", spec := "fnRatioVector", named := ["loop.example/polarisedlight/impl.one", "loop.example/polarisedlight/impl.zero"], apart := false, laid := [("loop.example/polarisedlight/impl.zero", laid_loop_example_polarisedlight_impl_zero), ("loop.example/polarisedlight/impl.one", laid_loop_example_polarisedlight_impl_one)], narrowed := true }
def FnRatioVectorUptoSaid : Prop := fnRatioVectorUptoRow.holds Tryd.pinned (OpenSpec.upto fnRatioVectorSpec)

/-- 'laws.FnExactRatioOf', WHERE WHAT IT READS IS OF BULK AT MOST 1048576: true; the input reads as it did. -/
def fnExactRatioOfUptoRow : OpenClaim := { program := "ytejpbdgblpehnaadoor", sum := "de92eb78f978c1c8ea61fa1c1f9d7954221de8699cb87364a581ec7c9d2aaa80", func := "loop.example/polarisedlight/laws.FnExactRatioOf", spec := "fnExactRatioOf", named := ["loop.example/polarisedlight/impl.zero"], apart := false, laid := [("loop.example/polarisedlight/impl.zero", laid_loop_example_polarisedlight_impl_zero)], narrowed := true }
def FnExactRatioOfUptoSaid : Prop := fnExactRatioOfUptoRow.holds Tryd.pinned (OpenSpec.upto fnExactRatioOfSpec)

end Rows
end Go.Proofs.YtejpbdgblpehnaaDoor
