/-
  DERIVED. GIVEN WITH THE SEED: THE CARDS: each row of YtodhbkinbcemnaaGreatDoorRows.lean that lists a variable, with what it lists TIED to the program's text (the seventh form; the later family's looks); each row that meets fmt, with fmt's text TOLD by the authors' own Lean function (tested against real Go, not proved from fmt's source: count such statements apart). THE CARD IS WHAT COUNTS. Prove the row's statement (the work); the ties are given (YtodhbkinbcemnaaGreatDoorTie.lean); close each card by the builder's one call (the guide's Derived/Test/ToyasCard.lean, 'card_holds'). Laid BY PROGRAM, IN A SANDBOX (cutbox-door.mjs). By AI agents, Wed Nov 11 2026. No macro, syntax, notation, axiom, sorry.
-/
import Derived.Test.YtodhbkinbcemnaaGreatDoorRows
import GoSem.ClaimSeven
namespace Go.Proofs.YtodhbkinbcemnaaGreatDoor
namespace Rows

/-- THE TIED CARD OF 'laws.FnMeterRead'. -/
def fnMeterReadCard : Claim7 := { stood := { row := fnMeterReadRow, standIns := [], harness := (true, "f5bd9bd68540a7de14238dd60616ba0b5921b3d2dd7c78346ebd38559ec87d23"), looks := false }, kinds := [], alts := [], laidByText := true, laidKinds := [.data, .data, .data], laidTests := true, laidLooks := .later }
def FnMeterReadCardSaid : Prop := Claim7.holds Tryz.pinned (.plain (OpenSpec.ofChange fnMeterReadSpec)) fnMeterReadCard

/-- THE TIED CARD OF 'laws.FnSolved'. -/
def fnSolvedCard : Claim7 := { stood := { row := fnSolvedRow, standIns := [], harness := (true, "f5bd9bd68540a7de14238dd60616ba0b5921b3d2dd7c78346ebd38559ec87d23"), looks := false }, kinds := [], alts := [], laidByText := true, laidKinds := [.data, .data, .data], laidTests := true, laidLooks := .later }
def FnSolvedCardSaid : Prop := Claim7.holds Tryz.pinned (.plain (OpenSpec.ofChange fnSolvedSpec)) fnSolvedCard

/-- THE TIED CARD OF 'laws.FnSolve'. -/
def fnSolveCard : Claim7 := { stood := { row := fnSolveRow, standIns := [], harness := (true, "f5bd9bd68540a7de14238dd60616ba0b5921b3d2dd7c78346ebd38559ec87d23"), looks := false }, kinds := [], alts := [], laidByText := true, laidKinds := [.data, .data, .data], laidTests := true, laidLooks := .later }
def FnSolveCardSaid : Prop := Claim7.holds Tryz.pinned (.plain (OpenSpec.ofChange fnSolveSpec)) fnSolveCard

/-- THE SECOND FORM's CARD OF 'laws.FnMeterRead'. -/
def fnMeterReadUptoCard : Claim7 := { stood := { row := fnMeterReadUptoRow, standIns := [], harness := (true, "f5bd9bd68540a7de14238dd60616ba0b5921b3d2dd7c78346ebd38559ec87d23"), looks := false }, kinds := [], alts := [], laidByText := true, laidKinds := [.data, .data, .data], laidTests := true, laidLooks := .later }
def FnMeterReadUptoCardSaid : Prop := Claim7.holds Tryz.pinned (.plain (OpenSpec.upto fnMeterReadSpec)) fnMeterReadUptoCard

/-- THE SECOND FORM's CARD OF 'laws.FnSolved'. -/
def fnSolvedUptoCard : Claim7 := { stood := { row := fnSolvedUptoRow, standIns := [], harness := (true, "f5bd9bd68540a7de14238dd60616ba0b5921b3d2dd7c78346ebd38559ec87d23"), looks := false }, kinds := [], alts := [], laidByText := true, laidKinds := [.data, .data, .data], laidTests := true, laidLooks := .later }
def FnSolvedUptoCardSaid : Prop := Claim7.holds Tryz.pinned (.plain (OpenSpec.upto fnSolvedSpec)) fnSolvedUptoCard

/-- THE SECOND FORM's CARD OF 'laws.FnSolve'. -/
def fnSolveUptoCard : Claim7 := { stood := { row := fnSolveUptoRow, standIns := [], harness := (true, "f5bd9bd68540a7de14238dd60616ba0b5921b3d2dd7c78346ebd38559ec87d23"), looks := false }, kinds := [], alts := [], laidByText := true, laidKinds := [.data, .data, .data], laidTests := true, laidLooks := .later }
def FnSolveUptoCardSaid : Prop := Claim7.holds Tryz.pinned (.plain (OpenSpec.upto fnSolveSpec)) fnSolveUptoCard
end Rows
end Go.Proofs.YtodhbkinbcemnaaGreatDoor
