/-
  DERIVED. GIVEN WITH THE SEED: THE CARDS: each row of YtodhbkinbcemnaaDoorRows.lean that lists a variable, with what it lists TIED to the program's text (the seventh form; the later family's looks); each row that meets fmt, with fmt's text TOLD by the authors' own Lean function (tested against real Go, not proved from fmt's source: count such statements apart). THE CARD IS WHAT COUNTS. Prove the row's statement (the work); the ties are given (YtodhbkinbcemnaaDoorTie.lean); close each card by the builder's one call (the guide's Derived/Test/ToyasCard.lean, 'card_holds'). Laid BY PROGRAM, IN A SANDBOX (cutbox-door.mjs). By AI agents, Wed Nov 11 2026. No macro, syntax, notation, axiom, sorry.
-/
import Derived.Test.YtodhbkinbcemnaaDoorRows
import GoSem.ClaimSeven
namespace Go.Proofs.YtodhbkinbcemnaaDoor
namespace Rows

/-- THE TIED CARD OF 'laws.FnExactMeterTurn'. -/
def fnExactMeterTurnCard : Claim7 := { stood := { row := fnExactMeterTurnRow, standIns := [], harness := (true, "c1bfa9d90dbfd8b05c6185d2711c59aa0219bb331518d3779b0647096fac574e"), looks := false }, kinds := [], alts := [], laidByText := true, laidKinds := [.data, .data, .data], laidTests := true, laidLooks := .later }
def FnExactMeterTurnCardSaid : Prop := Claim7.holds Tryd.pinned (.plain (OpenSpec.ofChange fnExactMeterTurnSpec)) fnExactMeterTurnCard

/-- THE TIED CARD OF 'laws.FnTurn'. -/
def fnTurnCard : Claim7 := { stood := { row := fnTurnRow, standIns := [], harness := (true, "c1bfa9d90dbfd8b05c6185d2711c59aa0219bb331518d3779b0647096fac574e"), looks := false }, kinds := [], alts := [], laidByText := true, laidKinds := [.data, .data, .data], laidTests := true, laidLooks := .later }
def FnTurnCardSaid : Prop := Claim7.holds Tryd.pinned (.plain (OpenSpec.ofChange fnTurnSpec)) fnTurnCard

/-- THE SECOND FORM's CARD OF 'laws.FnExactMeterTurn'. -/
def fnExactMeterTurnUptoCard : Claim7 := { stood := { row := fnExactMeterTurnUptoRow, standIns := [], harness := (true, "c1bfa9d90dbfd8b05c6185d2711c59aa0219bb331518d3779b0647096fac574e"), looks := false }, kinds := [], alts := [], laidByText := true, laidKinds := [.data, .data, .data], laidTests := true, laidLooks := .later }
def FnExactMeterTurnUptoCardSaid : Prop := Claim7.holds Tryd.pinned (.plain (OpenSpec.upto fnExactMeterTurnSpec)) fnExactMeterTurnUptoCard

/-- THE SECOND FORM's CARD OF 'laws.FnTurn'. -/
def fnTurnUptoCard : Claim7 := { stood := { row := fnTurnUptoRow, standIns := [], harness := (true, "c1bfa9d90dbfd8b05c6185d2711c59aa0219bb331518d3779b0647096fac574e"), looks := false }, kinds := [], alts := [], laidByText := true, laidKinds := [.data, .data, .data], laidTests := true, laidLooks := .later }
def FnTurnUptoCardSaid : Prop := Claim7.holds Tryd.pinned (.plain (OpenSpec.upto fnTurnSpec)) fnTurnUptoCard
end Rows
end Go.Proofs.YtodhbkinbcemnaaDoor
