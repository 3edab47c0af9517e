/-
  DERIVED. GIVEN WITH THE SEED: THE CARDS: each row of YtjbnkefeacineaaGreatDoorRows.lean that lists a variable, with what it lists TIED to the program's text (the seventh form; the later family's looks); each row that meets fmt, with fmt's text TOLD by the authors' own Lean function (tested against real Go, not proved from fmt's source: count such statements apart). THE CARD IS WHAT COUNTS. Prove the row's statement (the work); the ties are given (YtjbnkefeacineaaGreatDoorTie.lean); close each card by the builder's one call (the guide's Derived/Test/ToyasCard.lean, 'card_holds'). Laid BY PROGRAM, IN A SANDBOX (cutbox-door.mjs). By AI agents, Wed Nov 11 2026. No macro, syntax, notation, axiom, sorry.
-/
import Derived.Test.YtjbnkefeacineaaGreatDoorRows
import GoSem.ClaimSeven
namespace Go.Proofs.YtjbnkefeacineaaGreatDoor
namespace Rows

/-- THE TIED CARD OF 'laws.FnBright'. -/
def fnBrightCard : Claim7 := { stood := { row := fnBrightRow, standIns := [], harness := (true, "b4f7b99d832cb9a11f50068fd51b541167543b1fa020b4242fe55defd6ca1a09"), looks := true }, kinds := [], alts := [], laidByText := true, laidKinds := [.data, .data, .data, .data, .sentinel, .sentinel, .data, .data, .data, .pinned], laidTests := true, laidLooks := .later }
def FnBrightCardSaid : Prop := Claim7.holds Tryz.pinned (.plain (OpenSpec.ofChange fnBrightSpec)) fnBrightCard

/-- THE TIED CARD OF 'laws.FnPortTable'. -/
def fnPortTableCard : Claim7 := { stood := { row := fnPortTableRow, standIns := [], harness := (true, "b4f7b99d832cb9a11f50068fd51b541167543b1fa020b4242fe55defd6ca1a09"), looks := true }, kinds := [], alts := [], laidByText := true, laidKinds := [.data, .data, .data, .data, .sentinel, .sentinel, .data, .data, .data, .pinned], laidTests := true, laidLooks := .later }
def FnPortTableCardSaid : Prop := Claim7.holds Tryz.pinned (.plain (OpenSpec.ofChange fnPortTableSpec)) fnPortTableCard

/-- THE TIED CARD OF 'laws.FnSeen'. -/
def fnSeenCard : Claim7 := { stood := { row := fnSeenRow, standIns := [], harness := (true, "b4f7b99d832cb9a11f50068fd51b541167543b1fa020b4242fe55defd6ca1a09"), looks := true }, kinds := [], alts := [], laidByText := true, laidKinds := [.data, .data, .data, .data, .sentinel, .sentinel, .data, .data, .data, .pinned], laidTests := true, laidLooks := .later }
def FnSeenCardSaid : Prop := Claim7.holds Tryz.pinned (.plain (OpenSpec.ofChange fnSeenSpec)) fnSeenCard

/-- THE TIED CARD OF 'laws.FnPort'. -/
def fnPortCard : Claim7 := { stood := { row := fnPortRow, standIns := [], harness := (true, "b4f7b99d832cb9a11f50068fd51b541167543b1fa020b4242fe55defd6ca1a09"), looks := true }, kinds := [], alts := [], laidByText := true, laidKinds := [.data, .data, .data, .data, .sentinel, .sentinel, .data, .data, .data, .pinned], laidTests := true, laidLooks := .later }
def FnPortCardSaid : Prop := Claim7.holds Tryz.pinned (.plain (OpenSpec.ofChange fnPortSpec)) fnPortCard

/-- THE TIED CARD OF 'laws.FnPortPowers'. -/
def fnPortPowersCard : Claim7 := { stood := { row := fnPortPowersRow, standIns := [], harness := (true, "b4f7b99d832cb9a11f50068fd51b541167543b1fa020b4242fe55defd6ca1a09"), looks := true }, kinds := [], alts := [], laidByText := true, laidKinds := [.data, .data, .data, .data, .sentinel, .sentinel, .data, .data, .data, .pinned], laidTests := true, laidLooks := .later }
def FnPortPowersCardSaid : Prop := Claim7.holds Tryz.pinned (.plain (OpenSpec.ofChange fnPortPowersSpec)) fnPortPowersCard

/-- THE TIED CARD OF 'laws.FnPortKeeps'. -/
def fnPortKeepsCard : Claim7 := { stood := { row := fnPortKeepsRow, standIns := [], harness := (true, "b4f7b99d832cb9a11f50068fd51b541167543b1fa020b4242fe55defd6ca1a09"), looks := true }, kinds := [], alts := [], laidByText := true, laidKinds := [.data, .data, .data, .data, .sentinel, .sentinel, .data, .data, .data, .pinned], laidTests := true, laidLooks := .later }
def FnPortKeepsCardSaid : Prop := Claim7.holds Tryz.pinned (.plain (OpenSpec.ofChange fnPortKeepsSpec)) fnPortKeepsCard

/-- THE TIED CARD OF 'laws.FnDark'. -/
def fnDarkCard : Claim7 := { stood := { row := fnDarkRow, standIns := [], harness := (true, "b4f7b99d832cb9a11f50068fd51b541167543b1fa020b4242fe55defd6ca1a09"), looks := true }, kinds := [], alts := [], laidByText := true, laidKinds := [.data, .data, .data, .data, .sentinel, .sentinel, .data, .data, .data, .pinned], laidTests := true, laidLooks := .later }
def FnDarkCardSaid : Prop := Claim7.holds Tryz.pinned (.plain (OpenSpec.ofChange fnDarkSpec)) fnDarkCard

/-- THE TIED CARD OF 'laws.FnFringes'. -/
def fnFringesCard : Claim7 := { stood := { row := fnFringesRow, standIns := [], harness := (true, "b4f7b99d832cb9a11f50068fd51b541167543b1fa020b4242fe55defd6ca1a09"), looks := true }, kinds := [], alts := [], laidByText := true, laidKinds := [.data, .data, .data, .data, .sentinel, .sentinel, .data, .data, .data, .pinned], laidTests := true, laidLooks := .later }
def FnFringesCardSaid : Prop := Claim7.holds Tryz.pinned (.plain (OpenSpec.ofChange fnFringesSpec)) fnFringesCard

/-- THE TIED CARD OF 'laws.FnPortKept'. -/
def fnPortKeptCard : Claim7 := { stood := { row := fnPortKeptRow, standIns := [], harness := (true, "b4f7b99d832cb9a11f50068fd51b541167543b1fa020b4242fe55defd6ca1a09"), looks := true }, kinds := [], alts := [], laidByText := true, laidKinds := [.data, .data, .data, .data, .sentinel, .sentinel, .data, .data, .data, .pinned], laidTests := true, laidLooks := .later }
def FnPortKeptCardSaid : Prop := Claim7.holds Tryz.pinned (.plain (OpenSpec.ofChange fnPortKeptSpec)) fnPortKeptCard

/-- THE SECOND FORM's CARD OF 'laws.FnBright'. -/
def fnBrightUptoCard : Claim7 := { stood := { row := fnBrightUptoRow, standIns := [], harness := (true, "b4f7b99d832cb9a11f50068fd51b541167543b1fa020b4242fe55defd6ca1a09"), looks := true }, kinds := [], alts := [], laidByText := true, laidKinds := [.data, .data, .data, .data, .sentinel, .sentinel, .data, .data, .data, .pinned], laidTests := true, laidLooks := .later }
def FnBrightUptoCardSaid : Prop := Claim7.holds Tryz.pinned (.plain (OpenSpec.upto fnBrightSpec)) fnBrightUptoCard

/-- THE SECOND FORM's CARD OF 'laws.FnPortTable'. -/
def fnPortTableUptoCard : Claim7 := { stood := { row := fnPortTableUptoRow, standIns := [], harness := (true, "b4f7b99d832cb9a11f50068fd51b541167543b1fa020b4242fe55defd6ca1a09"), looks := true }, kinds := [], alts := [], laidByText := true, laidKinds := [.data, .data, .data, .data, .sentinel, .sentinel, .data, .data, .data, .pinned], laidTests := true, laidLooks := .later }
def FnPortTableUptoCardSaid : Prop := Claim7.holds Tryz.pinned (.plain (OpenSpec.upto fnPortTableSpec)) fnPortTableUptoCard

/-- THE SECOND FORM's CARD OF 'laws.FnSeen'. -/
def fnSeenUptoCard : Claim7 := { stood := { row := fnSeenUptoRow, standIns := [], harness := (true, "b4f7b99d832cb9a11f50068fd51b541167543b1fa020b4242fe55defd6ca1a09"), looks := true }, kinds := [], alts := [], laidByText := true, laidKinds := [.data, .data, .data, .data, .sentinel, .sentinel, .data, .data, .data, .pinned], laidTests := true, laidLooks := .later }
def FnSeenUptoCardSaid : Prop := Claim7.holds Tryz.pinned (.plain (OpenSpec.upto fnSeenSpec)) fnSeenUptoCard

/-- THE SECOND FORM's CARD OF 'laws.FnPort'. -/
def fnPortUptoCard : Claim7 := { stood := { row := fnPortUptoRow, standIns := [], harness := (true, "b4f7b99d832cb9a11f50068fd51b541167543b1fa020b4242fe55defd6ca1a09"), looks := true }, kinds := [], alts := [], laidByText := true, laidKinds := [.data, .data, .data, .data, .sentinel, .sentinel, .data, .data, .data, .pinned], laidTests := true, laidLooks := .later }
def FnPortUptoCardSaid : Prop := Claim7.holds Tryz.pinned (.plain (OpenSpec.upto fnPortSpec)) fnPortUptoCard

/-- THE SECOND FORM's CARD OF 'laws.FnPortPowers'. -/
def fnPortPowersUptoCard : Claim7 := { stood := { row := fnPortPowersUptoRow, standIns := [], harness := (true, "b4f7b99d832cb9a11f50068fd51b541167543b1fa020b4242fe55defd6ca1a09"), looks := true }, kinds := [], alts := [], laidByText := true, laidKinds := [.data, .data, .data, .data, .sentinel, .sentinel, .data, .data, .data, .pinned], laidTests := true, laidLooks := .later }
def FnPortPowersUptoCardSaid : Prop := Claim7.holds Tryz.pinned (.plain (OpenSpec.upto fnPortPowersSpec)) fnPortPowersUptoCard

/-- THE SECOND FORM's CARD OF 'laws.FnPortKeeps'. -/
def fnPortKeepsUptoCard : Claim7 := { stood := { row := fnPortKeepsUptoRow, standIns := [], harness := (true, "b4f7b99d832cb9a11f50068fd51b541167543b1fa020b4242fe55defd6ca1a09"), looks := true }, kinds := [], alts := [], laidByText := true, laidKinds := [.data, .data, .data, .data, .sentinel, .sentinel, .data, .data, .data, .pinned], laidTests := true, laidLooks := .later }
def FnPortKeepsUptoCardSaid : Prop := Claim7.holds Tryz.pinned (.plain (OpenSpec.upto fnPortKeepsSpec)) fnPortKeepsUptoCard

/-- THE SECOND FORM's CARD OF 'laws.FnDark'. -/
def fnDarkUptoCard : Claim7 := { stood := { row := fnDarkUptoRow, standIns := [], harness := (true, "b4f7b99d832cb9a11f50068fd51b541167543b1fa020b4242fe55defd6ca1a09"), looks := true }, kinds := [], alts := [], laidByText := true, laidKinds := [.data, .data, .data, .data, .sentinel, .sentinel, .data, .data, .data, .pinned], laidTests := true, laidLooks := .later }
def FnDarkUptoCardSaid : Prop := Claim7.holds Tryz.pinned (.plain (OpenSpec.upto fnDarkSpec)) fnDarkUptoCard

/-- THE SECOND FORM's CARD OF 'laws.FnFringes'. -/
def fnFringesUptoCard : Claim7 := { stood := { row := fnFringesUptoRow, standIns := [], harness := (true, "b4f7b99d832cb9a11f50068fd51b541167543b1fa020b4242fe55defd6ca1a09"), looks := true }, kinds := [], alts := [], laidByText := true, laidKinds := [.data, .data, .data, .data, .sentinel, .sentinel, .data, .data, .data, .pinned], laidTests := true, laidLooks := .later }
def FnFringesUptoCardSaid : Prop := Claim7.holds Tryz.pinned (.plain (OpenSpec.upto fnFringesSpec)) fnFringesUptoCard

/-- THE SECOND FORM's CARD OF 'laws.FnPortKept'. -/
def fnPortKeptUptoCard : Claim7 := { stood := { row := fnPortKeptUptoRow, standIns := [], harness := (true, "b4f7b99d832cb9a11f50068fd51b541167543b1fa020b4242fe55defd6ca1a09"), looks := true }, kinds := [], alts := [], laidByText := true, laidKinds := [.data, .data, .data, .data, .sentinel, .sentinel, .data, .data, .data, .pinned], laidTests := true, laidLooks := .later }
def FnPortKeptUptoCardSaid : Prop := Claim7.holds Tryz.pinned (.plain (OpenSpec.upto fnPortKeptSpec)) fnPortKeptUptoCard
end Rows
end Go.Proofs.YtjbnkefeacineaaGreatDoor
