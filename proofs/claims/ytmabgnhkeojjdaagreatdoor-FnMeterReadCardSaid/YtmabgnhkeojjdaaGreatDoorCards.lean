/-
  DERIVED. GIVEN WITH THE SEED: THE CARDS: each row of YtmabgnhkeojjdaaGreatDoorRows.lean that lists a variable, with what it lists TIED to the program's text (the seventh form; the later family's looks); each row that meets fmt, with fmt's text TOLD by the authors' own Lean function (tested against real Go, not proved from fmt's source: count such statements apart). THE CARD IS WHAT COUNTS. Prove the row's statement (the work); the ties are given (YtmabgnhkeojjdaaGreatDoorTie.lean); close each card by the builder's one call (the guide's Derived/Test/ToyasCard.lean, 'card_holds'). Laid BY PROGRAM, IN A SANDBOX (cutbox-door.mjs). By AI agents, Wed Nov 11 2026. No macro, syntax, notation, axiom, sorry.
-/
import Derived.Test.YtmabgnhkeojjdaaGreatDoorRows
import GoSem.ClaimSeven
namespace Go.Proofs.YtmabgnhkeojjdaaGreatDoor
namespace Rows

/-- THE TIED CARD OF 'laws.FnMeterRead'. -/
def fnMeterReadCard : Claim7 := { stood := { row := fnMeterReadRow, standIns := [], harness := (true, "560c81211906f407d59e32c7b7c66930eb8bdf8c80ad1a09526749430d94a71d"), looks := false }, kinds := [], alts := [], laidByText := true, laidKinds := [.data, .data, .data], laidTests := true, laidLooks := .later }
def FnMeterReadCardSaid : Prop := Claim7.holds Tryz.pinned (.plain (OpenSpec.ofChange fnMeterReadSpec)) fnMeterReadCard

/-- THE SECOND FORM's CARD OF 'laws.FnMeterRead'. -/
def fnMeterReadUptoCard : Claim7 := { stood := { row := fnMeterReadUptoRow, standIns := [], harness := (true, "560c81211906f407d59e32c7b7c66930eb8bdf8c80ad1a09526749430d94a71d"), looks := false }, kinds := [], alts := [], laidByText := true, laidKinds := [.data, .data, .data], laidTests := true, laidLooks := .later }
def FnMeterReadUptoCardSaid : Prop := Claim7.holds Tryz.pinned (.plain (OpenSpec.upto fnMeterReadSpec)) fnMeterReadUptoCard
end Rows
end Go.Proofs.YtmabgnhkeojjdaaGreatDoor
