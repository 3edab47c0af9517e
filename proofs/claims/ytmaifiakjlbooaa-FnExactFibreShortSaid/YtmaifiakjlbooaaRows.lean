/-
  No cell of these rows narrows 'for every input' (looked for: loops, veiled, ifaces, maps, wideKeys, modest, calm, conditions, laid).
  DERIVED. THE GIVEN ROWS OF THIS SEAT. 4 by the template 'for every input the law returns true; each argument reads behind the call as it read before'; 0 by the template 'total and deterministic' (their statements: YtmaifiakjlbooaaTotals.lean).
  GIVEN WITH THE SEED: the statements are not yours to turn. If you find one false, say at which input.
  Laid BY PROGRAM, IN A SANDBOX (cutbox-rows.mjs): the forced cells as the released guide's own fill.sh prints them over the translation d2c07c61ab514c88… (all of the seat's roots in one cut). By AI agents, Wed Nov 11 2026. No macro, syntax, notation, axiom, sorry.
-/
import Derived.Test.YtmaifiakjlbooaaChecked
import GoSem.Claim
import GoSem.ClaimJoined
import GoSem.ClaimMapViews
import Derived.JoinedTies
import Derived.KernelRfl
namespace Go.Proofs.Ytmaifiakjlbooaa
/- THE CELL 'sum', in the pinned program and in every row, IS THE sha256 OF THE DUMP (.gsa) THAT YtmaifiakjlbooaaProg.lean LOADS. Nothing in Lean hashes anything: it is a label: what it is worth is what the hold of that sum in a sandbox is worth. -/
noncomputable def Try.pinned : Pinned := { name := "ytmaifiakjlbooaa", sum := "d2c07c61ab514c887a0e4b0edee39fab81fd792a1bd3457c80f601e8552c42be", checked := Try.checked }
namespace Rows
def none {H : Type} : Left H := { results := [], args := [] }

/-- 'laws.FnFibre': WHATEVER THE INPUT: true; the input reads as it did. -/
def fnFibreSpec : ChangeSpec := { name := "fnFibre", fn := fun _ => fun
  | [d] => { results := [.lit (.bool true)], args := [d] }
  | _ => none }
def fnFibreRow : OpenClaim := { program := "ytmaifiakjlbooaa", sum := "d2c07c61ab514c887a0e4b0edee39fab81fd792a1bd3457c80f601e8552c42be", func := "loop.example/polarisedlight/laws.FnFibre", spec := "fnFibre", apart := false }
def FnFibreSaid : Prop := fnFibreRow.holds Try.pinned (OpenSpec.ofChange fnFibreSpec)

/-- ITS FALSE NEIGHBOUR: 'it returns false'. Refute it at one input. -/
def fnFibreWrong : ChangeSpec := { name := "fnFibre", fn := fun _ => fun
  | [d] => { results := [.lit (.bool false)], args := [d] }
  | _ => none }
def FnFibreWrongFalsely : Prop := fnFibreRow.holds Try.pinned (OpenSpec.ofChange fnFibreWrong)

/-- 'laws.FnFibreBack': WHATEVER THE INPUT: true; the input reads as it did. -/
def fnFibreBackSpec : ChangeSpec := { name := "fnFibreBack", fn := fun _ => fun
  | [d] => { results := [.lit (.bool true)], args := [d] }
  | _ => none }
def fnFibreBackRow : OpenClaim := { program := "ytmaifiakjlbooaa", sum := "d2c07c61ab514c887a0e4b0edee39fab81fd792a1bd3457c80f601e8552c42be", func := "loop.example/polarisedlight/laws.FnFibreBack", spec := "fnFibreBack", apart := false }
def FnFibreBackSaid : Prop := fnFibreBackRow.holds Try.pinned (OpenSpec.ofChange fnFibreBackSpec)

/-- ITS FALSE NEIGHBOUR: 'it returns false'. Refute it at one input. -/
def fnFibreBackWrong : ChangeSpec := { name := "fnFibreBack", fn := fun _ => fun
  | [d] => { results := [.lit (.bool false)], args := [d] }
  | _ => none }
def FnFibreBackWrongFalsely : Prop := fnFibreBackRow.holds Try.pinned (OpenSpec.ofChange fnFibreBackWrong)

/-- 'laws.FnExactFibreBack': WHATEVER THE INPUT: true; the input reads as it did. -/
def fnExactFibreBackSpec : ChangeSpec := { name := "fnExactFibreBack", fn := fun _ => fun
  | [d] => { results := [.lit (.bool true)], args := [d] }
  | _ => none }
def fnExactFibreBackRow : OpenClaim := { program := "ytmaifiakjlbooaa", sum := "d2c07c61ab514c887a0e4b0edee39fab81fd792a1bd3457c80f601e8552c42be", func := "loop.example/polarisedlight/laws.FnExactFibreBack", spec := "fnExactFibreBack", apart := false }
def FnExactFibreBackSaid : Prop := fnExactFibreBackRow.holds Try.pinned (OpenSpec.ofChange fnExactFibreBackSpec)

/-- ITS FALSE NEIGHBOUR: 'it returns false'. Refute it at one input. -/
def fnExactFibreBackWrong : ChangeSpec := { name := "fnExactFibreBack", fn := fun _ => fun
  | [d] => { results := [.lit (.bool false)], args := [d] }
  | _ => none }
def FnExactFibreBackWrongFalsely : Prop := fnExactFibreBackRow.holds Try.pinned (OpenSpec.ofChange fnExactFibreBackWrong)

/-- 'laws.FnExactFibreShort': WHATEVER THE INPUT: true; the input reads as it did. -/
def fnExactFibreShortSpec : ChangeSpec := { name := "fnExactFibreShort", fn := fun _ => fun
  | [d] => { results := [.lit (.bool true)], args := [d] }
  | _ => none }
def fnExactFibreShortRow : OpenClaim := { program := "ytmaifiakjlbooaa", sum := "d2c07c61ab514c887a0e4b0edee39fab81fd792a1bd3457c80f601e8552c42be", func := "loop.example/polarisedlight/laws.FnExactFibreShort", spec := "fnExactFibreShort", apart := false }
def FnExactFibreShortSaid : Prop := fnExactFibreShortRow.holds Try.pinned (OpenSpec.ofChange fnExactFibreShortSpec)

/-- ITS FALSE NEIGHBOUR: 'it returns false'. Refute it at one input. -/
def fnExactFibreShortWrong : ChangeSpec := { name := "fnExactFibreShort", fn := fun _ => fun
  | [d] => { results := [.lit (.bool false)], args := [d] }
  | _ => none }
def FnExactFibreShortWrongFalsely : Prop := fnExactFibreShortRow.holds Try.pinned (OpenSpec.ofChange fnExactFibreShortWrong)

/- THE SECOND FORM. 'bulk': how many values and letters a reading holds, each counted each time it is reached (what is shared counts as often as it is met; a slice's spare places count too). A statement '..UptoSaid' is the law's where the arguments, and the package variables that the reading takes, are together of bulk at most 1048576: NARROWER than '..Said'. Prove '..Said' where nothing that the law and all that it calls make is longer than what came in: it says more and counts as full. Else prove '..UptoSaid'. A law counts once. -/
mutual
def uptoBulk {H : Type} : DataW H → Nat
  | .lit (.string bytes) => bytes.length + 1
  | .lit _ => 1
  | .nil => 1
  | .ptr d => uptoBulk d + 1
  | .slice elems spare => uptoBulkAll elems + uptoBulkAll spare + 1
  | .agg parts => uptoBulkAll parts + 1
  | .iface _ d => uptoBulk d + 1
  | .map entries => uptoBulkEntries entries + 1
  | .held _ => 1
def uptoBulkAll {H : Type} : List (DataW H) → Nat
  | [] => 0
  | d :: r => uptoBulk d + uptoBulkAll r
def uptoBulkEntries {H : Type} : List (Lit × DataW H) → Nat
  | [] => 0
  | x :: r => uptoBulkEntry x + uptoBulkEntries r
def uptoBulkEntry {H : Type} : Lit × DataW H → Nat
  | (.string bytes, d) => bytes.length + uptoBulk d + 1
  | (_, d) => uptoBulk d + 1
 end
def uptoSmall : (H : Type) → List (DataW H) → Bool := fun _ ds => decide (uptoBulkAll ds ≤ 1048576)
def OpenSpec.upto (s : _root_.Go.ChangeSpec) : _root_.Go.OpenSpec := { _root_.Go.OpenSpec.ofChange s with cond := some uptoSmall }

/-- 'laws.FnFibre', WHERE WHAT IT READS IS OF BULK AT MOST 1048576: true; the input reads as it did. -/
def fnFibreUptoRow : OpenClaim := { program := "ytmaifiakjlbooaa", sum := "d2c07c61ab514c887a0e4b0edee39fab81fd792a1bd3457c80f601e8552c42be", func := "loop.example/polarisedlight/laws.FnFibre", spec := "fnFibre", apart := false, narrowed := true }
def FnFibreUptoSaid : Prop := fnFibreUptoRow.holds Try.pinned (OpenSpec.upto fnFibreSpec)

/-- 'laws.FnFibreBack', WHERE WHAT IT READS IS OF BULK AT MOST 1048576: true; the input reads as it did. -/
def fnFibreBackUptoRow : OpenClaim := { program := "ytmaifiakjlbooaa", sum := "d2c07c61ab514c887a0e4b0edee39fab81fd792a1bd3457c80f601e8552c42be", func := "loop.example/polarisedlight/laws.FnFibreBack", spec := "fnFibreBack", apart := false, narrowed := true }
def FnFibreBackUptoSaid : Prop := fnFibreBackUptoRow.holds Try.pinned (OpenSpec.upto fnFibreBackSpec)

/-- 'laws.FnExactFibreBack', WHERE WHAT IT READS IS OF BULK AT MOST 1048576: true; the input reads as it did. -/
def fnExactFibreBackUptoRow : OpenClaim := { program := "ytmaifiakjlbooaa", sum := "d2c07c61ab514c887a0e4b0edee39fab81fd792a1bd3457c80f601e8552c42be", func := "loop.example/polarisedlight/laws.FnExactFibreBack", spec := "fnExactFibreBack", apart := false, narrowed := true }
def FnExactFibreBackUptoSaid : Prop := fnExactFibreBackUptoRow.holds Try.pinned (OpenSpec.upto fnExactFibreBackSpec)

/-- 'laws.FnExactFibreShort', WHERE WHAT IT READS IS OF BULK AT MOST 1048576: true; the input reads as it did. -/
def fnExactFibreShortUptoRow : OpenClaim := { program := "ytmaifiakjlbooaa", sum := "d2c07c61ab514c887a0e4b0edee39fab81fd792a1bd3457c80f601e8552c42be", func := "loop.example/polarisedlight/laws.FnExactFibreShort", spec := "fnExactFibreShort", apart := false, narrowed := true }
def FnExactFibreShortUptoSaid : Prop := fnExactFibreShortUptoRow.holds Try.pinned (OpenSpec.upto fnExactFibreShortSpec)

end Rows
end Go.Proofs.Ytmaifiakjlbooaa
