/-
  DERIVED. GIVEN WITH THE SEED: THE CARDS: each row of YtkdggljioekkhaaGreatDoorRows.lean that lists a variable, with what it lists TIED to the program's text (the seventh form; the later family's looks); each row that meets fmt, with fmt's text TOLD by the authors' own Lean function (tested against real Go, not proved from fmt's source: count such statements apart). THE CARD IS WHAT COUNTS. Prove the row's statement (the work); the ties are given (YtkdggljioekkhaaGreatDoorTie.lean); close each card by the builder's one call (the guide's Derived/Test/ToyasCard.lean, 'card_holds'). Laid BY PROGRAM, IN A SANDBOX (cutbox-door.mjs). By AI agents, Wed Nov 11 2026. No macro, syntax, notation, axiom, sorry.
-/
import Derived.Test.YtkdggljioekkhaaGreatDoorRows
import GoSem.ClaimSeven
namespace Go.Proofs.YtkdggljioekkhaaGreatDoor
namespace Rows

/-- THE TIED CARD OF 'laws.FnExactPortVector'. -/
def fnExactPortVectorCard : Claim7 := { stood := { row := fnExactPortVectorRow, standIns := [], harness := (true, "f5a1f3933ee93d42488512a0dc1ef3120cb44a52bd734e6ada6632773132cece"), looks := true }, kinds := [], alts := [], laidByText := true, laidKinds := [.data, .data, .data, .data, .sentinel, .sentinel, .data, .data, .data, .pinned], laidTests := true, laidLooks := .later }
def FnExactPortVectorCardSaid : Prop := Claim7.holds Tryz.pinned (.plain (OpenSpec.ofChange fnExactPortVectorSpec)) fnExactPortVectorCard

/-- THE TIED CARD OF 'laws.FnExactPortPowers'. -/
def fnExactPortPowersCard : Claim7 := { stood := { row := fnExactPortPowersRow, standIns := [], harness := (true, "f5a1f3933ee93d42488512a0dc1ef3120cb44a52bd734e6ada6632773132cece"), looks := true }, kinds := [], alts := [], laidByText := true, laidKinds := [.data, .data, .data, .data, .sentinel, .sentinel, .data, .data, .data, .pinned], laidTests := true, laidLooks := .later }
def FnExactPortPowersCardSaid : Prop := Claim7.holds Tryz.pinned (.plain (OpenSpec.ofChange fnExactPortPowersSpec)) fnExactPortPowersCard

/-- THE TIED CARD OF 'laws.FnExactPortDark'. -/
def fnExactPortDarkCard : Claim7 := { stood := { row := fnExactPortDarkRow, standIns := [], harness := (true, "f5a1f3933ee93d42488512a0dc1ef3120cb44a52bd734e6ada6632773132cece"), looks := true }, kinds := [], alts := [], laidByText := true, laidKinds := [.data, .data, .data, .data, .sentinel, .sentinel, .data, .data, .data, .pinned], laidTests := true, laidLooks := .later }
def FnExactPortDarkCardSaid : Prop := Claim7.holds Tryz.pinned (.plain (OpenSpec.ofChange fnExactPortDarkSpec)) fnExactPortDarkCard

/-- THE TIED CARD OF 'laws.FnExactPortKeeps'. -/
def fnExactPortKeepsCard : Claim7 := { stood := { row := fnExactPortKeepsRow, standIns := [], harness := (true, "f5a1f3933ee93d42488512a0dc1ef3120cb44a52bd734e6ada6632773132cece"), looks := true }, kinds := [], alts := [], laidByText := true, laidKinds := [.data, .data, .data, .data, .sentinel, .sentinel, .data, .data, .data, .pinned], laidTests := true, laidLooks := .later }
def FnExactPortKeepsCardSaid : Prop := Claim7.holds Tryz.pinned (.plain (OpenSpec.ofChange fnExactPortKeepsSpec)) fnExactPortKeepsCard

/-- THE TIED CARD OF 'laws.FnExactPortTable'. -/
def fnExactPortTableCard : Claim7 := { stood := { row := fnExactPortTableRow, standIns := [], harness := (true, "f5a1f3933ee93d42488512a0dc1ef3120cb44a52bd734e6ada6632773132cece"), looks := true }, kinds := [], alts := [], laidByText := true, laidKinds := [.data, .data, .data, .data, .sentinel, .sentinel, .data, .data, .data, .pinned], laidTests := true, laidLooks := .later }
def FnExactPortTableCardSaid : Prop := Claim7.holds Tryz.pinned (.plain (OpenSpec.ofChange fnExactPortTableSpec)) fnExactPortTableCard

/-- THE TIED CARD OF 'laws.FnExactPortFringes'. -/
def fnExactPortFringesCard : Claim7 := { stood := { row := fnExactPortFringesRow, standIns := [], harness := (true, "f5a1f3933ee93d42488512a0dc1ef3120cb44a52bd734e6ada6632773132cece"), looks := true }, kinds := [], alts := [], laidByText := true, laidKinds := [.data, .data, .data, .data, .sentinel, .sentinel, .data, .data, .data, .pinned], laidTests := true, laidLooks := .later }
def FnExactPortFringesCardSaid : Prop := Claim7.holds Tryz.pinned (.plain (OpenSpec.ofChange fnExactPortFringesSpec)) fnExactPortFringesCard

/-- THE TIED CARD OF 'laws.FnExactPortBright'. -/
def fnExactPortBrightCard : Claim7 := { stood := { row := fnExactPortBrightRow, standIns := [], harness := (true, "f5a1f3933ee93d42488512a0dc1ef3120cb44a52bd734e6ada6632773132cece"), looks := true }, kinds := [], alts := [], laidByText := true, laidKinds := [.data, .data, .data, .data, .sentinel, .sentinel, .data, .data, .data, .pinned], laidTests := true, laidLooks := .later }
def FnExactPortBrightCardSaid : Prop := Claim7.holds Tryz.pinned (.plain (OpenSpec.ofChange fnExactPortBrightSpec)) fnExactPortBrightCard

/-- THE TIED CARD OF 'laws.FnExactPortSeen'. -/
def fnExactPortSeenCard : Claim7 := { stood := { row := fnExactPortSeenRow, standIns := [], harness := (true, "f5a1f3933ee93d42488512a0dc1ef3120cb44a52bd734e6ada6632773132cece"), looks := true }, kinds := [], alts := [], laidByText := true, laidKinds := [.data, .data, .data, .data, .sentinel, .sentinel, .data, .data, .data, .pinned], laidTests := true, laidLooks := .later }
def FnExactPortSeenCardSaid : Prop := Claim7.holds Tryz.pinned (.plain (OpenSpec.ofChange fnExactPortSeenSpec)) fnExactPortSeenCard

/-- THE SECOND FORM's CARD OF 'laws.FnExactPortVector'. -/
def fnExactPortVectorUptoCard : Claim7 := { stood := { row := fnExactPortVectorUptoRow, standIns := [], harness := (true, "f5a1f3933ee93d42488512a0dc1ef3120cb44a52bd734e6ada6632773132cece"), looks := true }, kinds := [], alts := [], laidByText := true, laidKinds := [.data, .data, .data, .data, .sentinel, .sentinel, .data, .data, .data, .pinned], laidTests := true, laidLooks := .later }
def FnExactPortVectorUptoCardSaid : Prop := Claim7.holds Tryz.pinned (.plain (OpenSpec.upto fnExactPortVectorSpec)) fnExactPortVectorUptoCard

/-- THE SECOND FORM's CARD OF 'laws.FnExactPortPowers'. -/
def fnExactPortPowersUptoCard : Claim7 := { stood := { row := fnExactPortPowersUptoRow, standIns := [], harness := (true, "f5a1f3933ee93d42488512a0dc1ef3120cb44a52bd734e6ada6632773132cece"), looks := true }, kinds := [], alts := [], laidByText := true, laidKinds := [.data, .data, .data, .data, .sentinel, .sentinel, .data, .data, .data, .pinned], laidTests := true, laidLooks := .later }
def FnExactPortPowersUptoCardSaid : Prop := Claim7.holds Tryz.pinned (.plain (OpenSpec.upto fnExactPortPowersSpec)) fnExactPortPowersUptoCard

/-- THE SECOND FORM's CARD OF 'laws.FnExactPortDark'. -/
def fnExactPortDarkUptoCard : Claim7 := { stood := { row := fnExactPortDarkUptoRow, standIns := [], harness := (true, "f5a1f3933ee93d42488512a0dc1ef3120cb44a52bd734e6ada6632773132cece"), looks := true }, kinds := [], alts := [], laidByText := true, laidKinds := [.data, .data, .data, .data, .sentinel, .sentinel, .data, .data, .data, .pinned], laidTests := true, laidLooks := .later }
def FnExactPortDarkUptoCardSaid : Prop := Claim7.holds Tryz.pinned (.plain (OpenSpec.upto fnExactPortDarkSpec)) fnExactPortDarkUptoCard

/-- THE SECOND FORM's CARD OF 'laws.FnExactPortKeeps'. -/
def fnExactPortKeepsUptoCard : Claim7 := { stood := { row := fnExactPortKeepsUptoRow, standIns := [], harness := (true, "f5a1f3933ee93d42488512a0dc1ef3120cb44a52bd734e6ada6632773132cece"), looks := true }, kinds := [], alts := [], laidByText := true, laidKinds := [.data, .data, .data, .data, .sentinel, .sentinel, .data, .data, .data, .pinned], laidTests := true, laidLooks := .later }
def FnExactPortKeepsUptoCardSaid : Prop := Claim7.holds Tryz.pinned (.plain (OpenSpec.upto fnExactPortKeepsSpec)) fnExactPortKeepsUptoCard

/-- THE SECOND FORM's CARD OF 'laws.FnExactPortTable'. -/
def fnExactPortTableUptoCard : Claim7 := { stood := { row := fnExactPortTableUptoRow, standIns := [], harness := (true, "f5a1f3933ee93d42488512a0dc1ef3120cb44a52bd734e6ada6632773132cece"), looks := true }, kinds := [], alts := [], laidByText := true, laidKinds := [.data, .data, .data, .data, .sentinel, .sentinel, .data, .data, .data, .pinned], laidTests := true, laidLooks := .later }
def FnExactPortTableUptoCardSaid : Prop := Claim7.holds Tryz.pinned (.plain (OpenSpec.upto fnExactPortTableSpec)) fnExactPortTableUptoCard

/-- THE SECOND FORM's CARD OF 'laws.FnExactPortFringes'. -/
def fnExactPortFringesUptoCard : Claim7 := { stood := { row := fnExactPortFringesUptoRow, standIns := [], harness := (true, "f5a1f3933ee93d42488512a0dc1ef3120cb44a52bd734e6ada6632773132cece"), looks := true }, kinds := [], alts := [], laidByText := true, laidKinds := [.data, .data, .data, .data, .sentinel, .sentinel, .data, .data, .data, .pinned], laidTests := true, laidLooks := .later }
def FnExactPortFringesUptoCardSaid : Prop := Claim7.holds Tryz.pinned (.plain (OpenSpec.upto fnExactPortFringesSpec)) fnExactPortFringesUptoCard

/-- THE SECOND FORM's CARD OF 'laws.FnExactPortBright'. -/
def fnExactPortBrightUptoCard : Claim7 := { stood := { row := fnExactPortBrightUptoRow, standIns := [], harness := (true, "f5a1f3933ee93d42488512a0dc1ef3120cb44a52bd734e6ada6632773132cece"), looks := true }, kinds := [], alts := [], laidByText := true, laidKinds := [.data, .data, .data, .data, .sentinel, .sentinel, .data, .data, .data, .pinned], laidTests := true, laidLooks := .later }
def FnExactPortBrightUptoCardSaid : Prop := Claim7.holds Tryz.pinned (.plain (OpenSpec.upto fnExactPortBrightSpec)) fnExactPortBrightUptoCard

/-- THE SECOND FORM's CARD OF 'laws.FnExactPortSeen'. -/
def fnExactPortSeenUptoCard : Claim7 := { stood := { row := fnExactPortSeenUptoRow, standIns := [], harness := (true, "f5a1f3933ee93d42488512a0dc1ef3120cb44a52bd734e6ada6632773132cece"), looks := true }, kinds := [], alts := [], laidByText := true, laidKinds := [.data, .data, .data, .data, .sentinel, .sentinel, .data, .data, .data, .pinned], laidTests := true, laidLooks := .later }
def FnExactPortSeenUptoCardSaid : Prop := Claim7.holds Tryz.pinned (.plain (OpenSpec.upto fnExactPortSeenSpec)) fnExactPortSeenUptoCard
end Rows
end Go.Proofs.YtkdggljioekkhaaGreatDoor
