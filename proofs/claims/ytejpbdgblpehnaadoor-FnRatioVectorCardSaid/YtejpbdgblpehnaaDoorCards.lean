/-
  DERIVED. GIVEN WITH THE SEED: THE CARDS: each row of YtejpbdgblpehnaaDoorRows.lean that lists a variable, with what it lists TIED to the program's text (the seventh form; the later family's looks); each row that meets fmt, with fmt's text TOLD by the authors' own Lean function (tested against real Go, not proved from fmt's source: count such statements apart). THE CARD IS WHAT COUNTS. Prove the row's statement (the work); the ties are given (YtejpbdgblpehnaaDoorTie.lean); close each card by the builder's one call (the guide's Derived/Test/ToyasCard.lean, 'card_holds'). Laid BY PROGRAM, IN A SANDBOX (cutbox-door.mjs). By AI agents, Wed Nov 11 2026. No macro, syntax, notation, axiom, sorry.
-/
import Derived.Test.YtejpbdgblpehnaaDoorRows
import GoSem.ClaimSeven
namespace Go.Proofs.YtejpbdgblpehnaaDoor
namespace Rows

/-- THE TIED CARD OF 'laws.FnExactRatioVector'. -/
def fnExactRatioVectorCard : Claim7 := { stood := { row := fnExactRatioVectorRow, standIns := [], harness := (true, "ade816b922fb620d612b99aa0968d40f5522e2eca344fc2916de0098a9b2a99e"), looks := false }, kinds := [], alts := [], laidByText := true, laidKinds := [.data], laidTests := true, laidLooks := .later }
def FnExactRatioVectorCardSaid : Prop := Claim7.holds Tryd.pinned (.plain (OpenSpec.ofChange fnExactRatioVectorSpec)) fnExactRatioVectorCard

/-- THE TIED CARD OF 'laws.FnRatioVector'. -/
def fnRatioVectorCard : Claim7 := { stood := { row := fnRatioVectorRow, standIns := [], harness := (true, "ade816b922fb620d612b99aa0968d40f5522e2eca344fc2916de0098a9b2a99e"), looks := false }, kinds := [], alts := [], laidByText := true, laidKinds := [.data, .data], laidTests := true, laidLooks := .later }
def FnRatioVectorCardSaid : Prop := Claim7.holds Tryd.pinned (.plain (OpenSpec.ofChange fnRatioVectorSpec)) fnRatioVectorCard

/-- THE TIED CARD OF 'laws.FnExactRatioOf'. -/
def fnExactRatioOfCard : Claim7 := { stood := { row := fnExactRatioOfRow, standIns := [], harness := (true, "ade816b922fb620d612b99aa0968d40f5522e2eca344fc2916de0098a9b2a99e"), looks := false }, kinds := [], alts := [], laidByText := true, laidKinds := [.data], laidTests := true, laidLooks := .later }
def FnExactRatioOfCardSaid : Prop := Claim7.holds Tryd.pinned (.plain (OpenSpec.ofChange fnExactRatioOfSpec)) fnExactRatioOfCard

/-- THE SECOND FORM's CARD OF 'laws.FnExactRatioVector'. -/
def fnExactRatioVectorUptoCard : Claim7 := { stood := { row := fnExactRatioVectorUptoRow, standIns := [], harness := (true, "ade816b922fb620d612b99aa0968d40f5522e2eca344fc2916de0098a9b2a99e"), looks := false }, kinds := [], alts := [], laidByText := true, laidKinds := [.data], laidTests := true, laidLooks := .later }
def FnExactRatioVectorUptoCardSaid : Prop := Claim7.holds Tryd.pinned (.plain (OpenSpec.upto fnExactRatioVectorSpec)) fnExactRatioVectorUptoCard

/-- THE SECOND FORM's CARD OF 'laws.FnRatioVector'. -/
def fnRatioVectorUptoCard : Claim7 := { stood := { row := fnRatioVectorUptoRow, standIns := [], harness := (true, "ade816b922fb620d612b99aa0968d40f5522e2eca344fc2916de0098a9b2a99e"), looks := false }, kinds := [], alts := [], laidByText := true, laidKinds := [.data, .data], laidTests := true, laidLooks := .later }
def FnRatioVectorUptoCardSaid : Prop := Claim7.holds Tryd.pinned (.plain (OpenSpec.upto fnRatioVectorSpec)) fnRatioVectorUptoCard

/-- THE SECOND FORM's CARD OF 'laws.FnExactRatioOf'. -/
def fnExactRatioOfUptoCard : Claim7 := { stood := { row := fnExactRatioOfUptoRow, standIns := [], harness := (true, "ade816b922fb620d612b99aa0968d40f5522e2eca344fc2916de0098a9b2a99e"), looks := false }, kinds := [], alts := [], laidByText := true, laidKinds := [.data], laidTests := true, laidLooks := .later }
def FnExactRatioOfUptoCardSaid : Prop := Claim7.holds Tryd.pinned (.plain (OpenSpec.upto fnExactRatioOfSpec)) fnExactRatioOfUptoCard
end Rows
end Go.Proofs.YtejpbdgblpehnaaDoor
