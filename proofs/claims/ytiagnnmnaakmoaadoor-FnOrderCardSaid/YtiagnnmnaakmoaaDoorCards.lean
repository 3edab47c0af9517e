/-
  DERIVED. GIVEN WITH THE SEED: THE CARDS: each row of YtiagnnmnaakmoaaDoorRows.lean that lists a variable, with what it lists TIED to the program's text (the seventh form; the later family's looks); each row that meets fmt, with fmt's text TOLD by the authors' own Lean function (tested against real Go, not proved from fmt's source: count such statements apart). THE CARD IS WHAT COUNTS. Prove the row's statement (the work); the ties are given (YtiagnnmnaakmoaaDoorTie.lean); close each card by the builder's one call (the guide's Derived/Test/ToyasCard.lean, 'card_holds'). Laid BY PROGRAM, IN A SANDBOX (cutbox-door.mjs). By AI agents, Wed Nov 11 2026. No macro, syntax, notation, axiom, sorry.
-/
import Derived.Test.YtiagnnmnaakmoaaDoorRows
import GoSem.ClaimSeven
namespace Go.Proofs.YtiagnnmnaakmoaaDoor
namespace Rows

/-- THE TIED CARD OF 'laws.FnExactFibreStays'. -/
def fnExactFibreStaysCard : Claim7 := { stood := { row := fnExactFibreStaysRow, standIns := [], harness := (true, "8bae423a60bcd5979048ff767ff04a8d35d93cd14e9e9003832dbc74e4c9ef3a"), looks := false }, kinds := [], alts := [], laidByText := true, laidKinds := [.data, .data, .data, .data], laidTests := true, laidLooks := .later }
def FnExactFibreStaysCardSaid : Prop := Claim7.holds Tryd.pinned (.plain (OpenSpec.ofChange fnExactFibreStaysSpec)) fnExactFibreStaysCard

/-- THE TIED CARD OF 'laws.FnExactFibreOrder'. -/
def fnExactFibreOrderCard : Claim7 := { stood := { row := fnExactFibreOrderRow, standIns := [], harness := (true, "8bae423a60bcd5979048ff767ff04a8d35d93cd14e9e9003832dbc74e4c9ef3a"), looks := false }, kinds := [], alts := [], laidByText := true, laidKinds := [.data, .data, .data, .data], laidTests := true, laidLooks := .later }
def FnExactFibreOrderCardSaid : Prop := Claim7.holds Tryd.pinned (.plain (OpenSpec.ofChange fnExactFibreOrderSpec)) fnExactFibreOrderCard

/-- THE TIED CARD OF 'laws.FnOrder'. -/
def fnOrderCard : Claim7 := { stood := { row := fnOrderRow, standIns := [], harness := (true, "8bae423a60bcd5979048ff767ff04a8d35d93cd14e9e9003832dbc74e4c9ef3a"), looks := false }, kinds := [], alts := [], laidByText := true, laidKinds := [.data, .data, .data, .data], laidTests := true, laidLooks := .later }
def FnOrderCardSaid : Prop := Claim7.holds Tryd.pinned (.plain (OpenSpec.ofChange fnOrderSpec)) fnOrderCard

/-- THE TIED CARD OF 'laws.FnStays'. -/
def fnStaysCard : Claim7 := { stood := { row := fnStaysRow, standIns := [], harness := (true, "8bae423a60bcd5979048ff767ff04a8d35d93cd14e9e9003832dbc74e4c9ef3a"), looks := false }, kinds := [], alts := [], laidByText := true, laidKinds := [.data, .data, .data, .data], laidTests := true, laidLooks := .later }
def FnStaysCardSaid : Prop := Claim7.holds Tryd.pinned (.plain (OpenSpec.ofChange fnStaysSpec)) fnStaysCard

/-- THE SECOND FORM's CARD OF 'laws.FnExactFibreStays'. -/
def fnExactFibreStaysUptoCard : Claim7 := { stood := { row := fnExactFibreStaysUptoRow, standIns := [], harness := (true, "8bae423a60bcd5979048ff767ff04a8d35d93cd14e9e9003832dbc74e4c9ef3a"), looks := false }, kinds := [], alts := [], laidByText := true, laidKinds := [.data, .data, .data, .data], laidTests := true, laidLooks := .later }
def FnExactFibreStaysUptoCardSaid : Prop := Claim7.holds Tryd.pinned (.plain (OpenSpec.upto fnExactFibreStaysSpec)) fnExactFibreStaysUptoCard

/-- THE SECOND FORM's CARD OF 'laws.FnExactFibreOrder'. -/
def fnExactFibreOrderUptoCard : Claim7 := { stood := { row := fnExactFibreOrderUptoRow, standIns := [], harness := (true, "8bae423a60bcd5979048ff767ff04a8d35d93cd14e9e9003832dbc74e4c9ef3a"), looks := false }, kinds := [], alts := [], laidByText := true, laidKinds := [.data, .data, .data, .data], laidTests := true, laidLooks := .later }
def FnExactFibreOrderUptoCardSaid : Prop := Claim7.holds Tryd.pinned (.plain (OpenSpec.upto fnExactFibreOrderSpec)) fnExactFibreOrderUptoCard

/-- THE SECOND FORM's CARD OF 'laws.FnOrder'. -/
def fnOrderUptoCard : Claim7 := { stood := { row := fnOrderUptoRow, standIns := [], harness := (true, "8bae423a60bcd5979048ff767ff04a8d35d93cd14e9e9003832dbc74e4c9ef3a"), looks := false }, kinds := [], alts := [], laidByText := true, laidKinds := [.data, .data, .data, .data], laidTests := true, laidLooks := .later }
def FnOrderUptoCardSaid : Prop := Claim7.holds Tryd.pinned (.plain (OpenSpec.upto fnOrderSpec)) fnOrderUptoCard

/-- THE SECOND FORM's CARD OF 'laws.FnStays'. -/
def fnStaysUptoCard : Claim7 := { stood := { row := fnStaysUptoRow, standIns := [], harness := (true, "8bae423a60bcd5979048ff767ff04a8d35d93cd14e9e9003832dbc74e4c9ef3a"), looks := false }, kinds := [], alts := [], laidByText := true, laidKinds := [.data, .data, .data, .data], laidTests := true, laidLooks := .later }
def FnStaysUptoCardSaid : Prop := Claim7.holds Tryd.pinned (.plain (OpenSpec.upto fnStaysSpec)) fnStaysUptoCard
end Rows
end Go.Proofs.YtiagnnmnaakmoaaDoor
