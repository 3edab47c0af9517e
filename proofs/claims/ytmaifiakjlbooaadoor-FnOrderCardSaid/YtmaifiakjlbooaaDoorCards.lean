/-
  DERIVED. GIVEN WITH THE SEED: THE CARDS: each row of YtmaifiakjlbooaaDoorRows.lean that lists a variable, with what it lists TIED to the program's text (the seventh form; the later family's looks); each row that meets fmt, with fmt's text TOLD by the authors' own Lean function (tested against real Go, not proved from fmt's source: count such statements apart). THE CARD IS WHAT COUNTS. Prove the row's statement (the work); the ties are given (YtmaifiakjlbooaaDoorTie.lean); close each card by the builder's one call (the guide's Derived/Test/ToyasCard.lean, 'card_holds'). Laid BY PROGRAM, IN A SANDBOX (cutbox-door.mjs). By AI agents, Wed Nov 11 2026. No macro, syntax, notation, axiom, sorry.
-/
import Derived.Test.YtmaifiakjlbooaaDoorRows
import GoSem.ClaimSeven
namespace Go.Proofs.YtmaifiakjlbooaaDoor
namespace Rows

/-- THE TIED CARD OF 'laws.FnBeat'. -/
def fnBeatCard : Claim7 := { stood := { row := fnBeatRow, standIns := [], harness := (true, "45daca68761156e5abc45c5a5be50bb7b933f7d47855c5c97e045bbb4232698f"), looks := false }, kinds := [], alts := [], laidByText := true, laidKinds := [.data, .data, .data, .data], laidTests := true, laidLooks := .later }
def FnBeatCardSaid : Prop := Claim7.holds Tryd.pinned (.plain (OpenSpec.ofChange fnBeatSpec)) fnBeatCard

/-- THE TIED CARD OF 'laws.FnShort'. -/
def fnShortCard : Claim7 := { stood := { row := fnShortRow, standIns := [], harness := (true, "45daca68761156e5abc45c5a5be50bb7b933f7d47855c5c97e045bbb4232698f"), looks := false }, kinds := [], alts := [], laidByText := true, laidKinds := [.data, .data, .data, .data], laidTests := true, laidLooks := .later }
def FnShortCardSaid : Prop := Claim7.holds Tryd.pinned (.plain (OpenSpec.ofChange fnShortSpec)) fnShortCard

/-- THE TIED CARD OF 'laws.FnFibreMat'. -/
def fnFibreMatCard : Claim7 := { stood := { row := fnFibreMatRow, standIns := [], harness := (true, "45daca68761156e5abc45c5a5be50bb7b933f7d47855c5c97e045bbb4232698f"), looks := false }, kinds := [], alts := [], laidByText := true, laidKinds := [.data, .data, .data, .data], laidTests := true, laidLooks := .later }
def FnFibreMatCardSaid : Prop := Claim7.holds Tryd.pinned (.plain (OpenSpec.ofChange fnFibreMatSpec)) fnFibreMatCard

/-- THE TIED CARD OF 'laws.FnExactFibreMat'. -/
def fnExactFibreMatCard : Claim7 := { stood := { row := fnExactFibreMatRow, standIns := [], harness := (true, "45daca68761156e5abc45c5a5be50bb7b933f7d47855c5c97e045bbb4232698f"), looks := false }, kinds := [], alts := [], laidByText := true, laidKinds := [.data, .data, .data, .data], laidTests := true, laidLooks := .later }
def FnExactFibreMatCardSaid : Prop := Claim7.holds Tryd.pinned (.plain (OpenSpec.ofChange fnExactFibreMatSpec)) fnExactFibreMatCard

/-- THE TIED CARD OF 'laws.FnExactFibreRun'. -/
def fnExactFibreRunCard : Claim7 := { stood := { row := fnExactFibreRunRow, standIns := [], harness := (true, "45daca68761156e5abc45c5a5be50bb7b933f7d47855c5c97e045bbb4232698f"), looks := false }, kinds := [], alts := [], laidByText := true, laidKinds := [.data, .data, .data, .data], laidTests := true, laidLooks := .later }
def FnExactFibreRunCardSaid : Prop := Claim7.holds Tryd.pinned (.plain (OpenSpec.ofChange fnExactFibreRunSpec)) fnExactFibreRunCard

/-- THE TIED CARD OF 'laws.FnExactFibreStays'. -/
def fnExactFibreStaysCard : Claim7 := { stood := { row := fnExactFibreStaysRow, standIns := [], harness := (true, "45daca68761156e5abc45c5a5be50bb7b933f7d47855c5c97e045bbb4232698f"), looks := false }, kinds := [], alts := [], laidByText := true, laidKinds := [.data, .data, .data, .data], laidTests := true, laidLooks := .later }
def FnExactFibreStaysCardSaid : Prop := Claim7.holds Tryd.pinned (.plain (OpenSpec.ofChange fnExactFibreStaysSpec)) fnExactFibreStaysCard

/-- THE TIED CARD OF 'laws.FnExactFibreOrder'. -/
def fnExactFibreOrderCard : Claim7 := { stood := { row := fnExactFibreOrderRow, standIns := [], harness := (true, "45daca68761156e5abc45c5a5be50bb7b933f7d47855c5c97e045bbb4232698f"), looks := false }, kinds := [], alts := [], laidByText := true, laidKinds := [.data, .data, .data, .data], laidTests := true, laidLooks := .later }
def FnExactFibreOrderCardSaid : Prop := Claim7.holds Tryd.pinned (.plain (OpenSpec.ofChange fnExactFibreOrderSpec)) fnExactFibreOrderCard

/-- THE TIED CARD OF 'laws.FnOrder'. -/
def fnOrderCard : Claim7 := { stood := { row := fnOrderRow, standIns := [], harness := (true, "45daca68761156e5abc45c5a5be50bb7b933f7d47855c5c97e045bbb4232698f"), looks := false }, kinds := [], alts := [], laidByText := true, laidKinds := [.data, .data, .data, .data], laidTests := true, laidLooks := .later }
def FnOrderCardSaid : Prop := Claim7.holds Tryd.pinned (.plain (OpenSpec.ofChange fnOrderSpec)) fnOrderCard

/-- THE TIED CARD OF 'laws.FnFibreRun'. -/
def fnFibreRunCard : Claim7 := { stood := { row := fnFibreRunRow, standIns := [], harness := (true, "45daca68761156e5abc45c5a5be50bb7b933f7d47855c5c97e045bbb4232698f"), looks := false }, kinds := [], alts := [], laidByText := true, laidKinds := [.data, .data, .data, .data], laidTests := true, laidLooks := .later }
def FnFibreRunCardSaid : Prop := Claim7.holds Tryd.pinned (.plain (OpenSpec.ofChange fnFibreRunSpec)) fnFibreRunCard

/-- THE TIED CARD OF 'laws.FnStays'. -/
def fnStaysCard : Claim7 := { stood := { row := fnStaysRow, standIns := [], harness := (true, "45daca68761156e5abc45c5a5be50bb7b933f7d47855c5c97e045bbb4232698f"), looks := false }, kinds := [], alts := [], laidByText := true, laidKinds := [.data, .data, .data, .data], laidTests := true, laidLooks := .later }
def FnStaysCardSaid : Prop := Claim7.holds Tryd.pinned (.plain (OpenSpec.ofChange fnStaysSpec)) fnStaysCard

/-- THE SECOND FORM's CARD OF 'laws.FnBeat'. -/
def fnBeatUptoCard : Claim7 := { stood := { row := fnBeatUptoRow, standIns := [], harness := (true, "45daca68761156e5abc45c5a5be50bb7b933f7d47855c5c97e045bbb4232698f"), looks := false }, kinds := [], alts := [], laidByText := true, laidKinds := [.data, .data, .data, .data], laidTests := true, laidLooks := .later }
def FnBeatUptoCardSaid : Prop := Claim7.holds Tryd.pinned (.plain (OpenSpec.upto fnBeatSpec)) fnBeatUptoCard

/-- THE SECOND FORM's CARD OF 'laws.FnShort'. -/
def fnShortUptoCard : Claim7 := { stood := { row := fnShortUptoRow, standIns := [], harness := (true, "45daca68761156e5abc45c5a5be50bb7b933f7d47855c5c97e045bbb4232698f"), looks := false }, kinds := [], alts := [], laidByText := true, laidKinds := [.data, .data, .data, .data], laidTests := true, laidLooks := .later }
def FnShortUptoCardSaid : Prop := Claim7.holds Tryd.pinned (.plain (OpenSpec.upto fnShortSpec)) fnShortUptoCard

/-- THE SECOND FORM's CARD OF 'laws.FnFibreMat'. -/
def fnFibreMatUptoCard : Claim7 := { stood := { row := fnFibreMatUptoRow, standIns := [], harness := (true, "45daca68761156e5abc45c5a5be50bb7b933f7d47855c5c97e045bbb4232698f"), looks := false }, kinds := [], alts := [], laidByText := true, laidKinds := [.data, .data, .data, .data], laidTests := true, laidLooks := .later }
def FnFibreMatUptoCardSaid : Prop := Claim7.holds Tryd.pinned (.plain (OpenSpec.upto fnFibreMatSpec)) fnFibreMatUptoCard

/-- THE SECOND FORM's CARD OF 'laws.FnExactFibreMat'. -/
def fnExactFibreMatUptoCard : Claim7 := { stood := { row := fnExactFibreMatUptoRow, standIns := [], harness := (true, "45daca68761156e5abc45c5a5be50bb7b933f7d47855c5c97e045bbb4232698f"), looks := false }, kinds := [], alts := [], laidByText := true, laidKinds := [.data, .data, .data, .data], laidTests := true, laidLooks := .later }
def FnExactFibreMatUptoCardSaid : Prop := Claim7.holds Tryd.pinned (.plain (OpenSpec.upto fnExactFibreMatSpec)) fnExactFibreMatUptoCard

/-- THE SECOND FORM's CARD OF 'laws.FnExactFibreRun'. -/
def fnExactFibreRunUptoCard : Claim7 := { stood := { row := fnExactFibreRunUptoRow, standIns := [], harness := (true, "45daca68761156e5abc45c5a5be50bb7b933f7d47855c5c97e045bbb4232698f"), looks := false }, kinds := [], alts := [], laidByText := true, laidKinds := [.data, .data, .data, .data], laidTests := true, laidLooks := .later }
def FnExactFibreRunUptoCardSaid : Prop := Claim7.holds Tryd.pinned (.plain (OpenSpec.upto fnExactFibreRunSpec)) fnExactFibreRunUptoCard

/-- THE SECOND FORM's CARD OF 'laws.FnExactFibreStays'. -/
def fnExactFibreStaysUptoCard : Claim7 := { stood := { row := fnExactFibreStaysUptoRow, standIns := [], harness := (true, "45daca68761156e5abc45c5a5be50bb7b933f7d47855c5c97e045bbb4232698f"), looks := false }, kinds := [], alts := [], laidByText := true, laidKinds := [.data, .data, .data, .data], laidTests := true, laidLooks := .later }
def FnExactFibreStaysUptoCardSaid : Prop := Claim7.holds Tryd.pinned (.plain (OpenSpec.upto fnExactFibreStaysSpec)) fnExactFibreStaysUptoCard

/-- THE SECOND FORM's CARD OF 'laws.FnExactFibreOrder'. -/
def fnExactFibreOrderUptoCard : Claim7 := { stood := { row := fnExactFibreOrderUptoRow, standIns := [], harness := (true, "45daca68761156e5abc45c5a5be50bb7b933f7d47855c5c97e045bbb4232698f"), looks := false }, kinds := [], alts := [], laidByText := true, laidKinds := [.data, .data, .data, .data], laidTests := true, laidLooks := .later }
def FnExactFibreOrderUptoCardSaid : Prop := Claim7.holds Tryd.pinned (.plain (OpenSpec.upto fnExactFibreOrderSpec)) fnExactFibreOrderUptoCard

/-- THE SECOND FORM's CARD OF 'laws.FnOrder'. -/
def fnOrderUptoCard : Claim7 := { stood := { row := fnOrderUptoRow, standIns := [], harness := (true, "45daca68761156e5abc45c5a5be50bb7b933f7d47855c5c97e045bbb4232698f"), looks := false }, kinds := [], alts := [], laidByText := true, laidKinds := [.data, .data, .data, .data], laidTests := true, laidLooks := .later }
def FnOrderUptoCardSaid : Prop := Claim7.holds Tryd.pinned (.plain (OpenSpec.upto fnOrderSpec)) fnOrderUptoCard

/-- THE SECOND FORM's CARD OF 'laws.FnFibreRun'. -/
def fnFibreRunUptoCard : Claim7 := { stood := { row := fnFibreRunUptoRow, standIns := [], harness := (true, "45daca68761156e5abc45c5a5be50bb7b933f7d47855c5c97e045bbb4232698f"), looks := false }, kinds := [], alts := [], laidByText := true, laidKinds := [.data, .data, .data, .data], laidTests := true, laidLooks := .later }
def FnFibreRunUptoCardSaid : Prop := Claim7.holds Tryd.pinned (.plain (OpenSpec.upto fnFibreRunSpec)) fnFibreRunUptoCard

/-- THE SECOND FORM's CARD OF 'laws.FnStays'. -/
def fnStaysUptoCard : Claim7 := { stood := { row := fnStaysUptoRow, standIns := [], harness := (true, "45daca68761156e5abc45c5a5be50bb7b933f7d47855c5c97e045bbb4232698f"), looks := false }, kinds := [], alts := [], laidByText := true, laidKinds := [.data, .data, .data, .data], laidTests := true, laidLooks := .later }
def FnStaysUptoCardSaid : Prop := Claim7.holds Tryd.pinned (.plain (OpenSpec.upto fnStaysSpec)) fnStaysUptoCard
end Rows
end Go.Proofs.YtmaifiakjlbooaaDoor
