/-
  DERIVED. GIVEN WITH THE SEED: THE CARDS: each row of YtmaacdfbhilegaaDoorRows.lean that lists a variable, with what it lists TIED to the program's text (the seventh form; the later family's looks); each row that meets fmt, with fmt's text TOLD by the authors' own Lean function (tested against real Go, not proved from fmt's source: count such statements apart). THE CARD IS WHAT COUNTS. Prove the row's statement (the work); the ties are given (YtmaacdfbhilegaaDoorTie.lean); close each card by the builder's one call (the guide's Derived/Test/ToyasCard.lean, 'card_holds'). Laid BY PROGRAM, IN A SANDBOX (cutbox-door.mjs). By AI agents, Wed Nov 11 2026. No macro, syntax, notation, axiom, sorry.
-/
import Derived.Test.YtmaacdfbhilegaaDoorRows
import GoSem.ClaimSeven
namespace Go.Proofs.YtmaacdfbhilegaaDoor
namespace Rows

/-- THE TIED CARD OF 'laws.FnExactMeterMean'. -/
def fnExactMeterMeanCard : Claim7 := { stood := { row := fnExactMeterMeanRow, standIns := [], harness := (true, "12a8e431661248fd9a3b1c078f42facdb166a306e65bd9d78034b6713f280022"), looks := false }, kinds := [], alts := [], laidByText := true, laidKinds := [.data], laidTests := true, laidLooks := .later }
def FnExactMeterMeanCardSaid : Prop := Claim7.holds Tryd.pinned (.plain (OpenSpec.ofChange fnExactMeterMeanSpec)) fnExactMeterMeanCard

/-- THE TIED CARD OF 'laws.FnMean'. -/
def fnMeanCard : Claim7 := { stood := { row := fnMeanRow, standIns := [], harness := (true, "12a8e431661248fd9a3b1c078f42facdb166a306e65bd9d78034b6713f280022"), looks := false }, kinds := [], alts := [], laidByText := true, laidKinds := [.data], laidTests := true, laidLooks := .later }
def FnMeanCardSaid : Prop := Claim7.holds Tryd.pinned (.plain (OpenSpec.ofChange fnMeanSpec)) fnMeanCard

/-- THE SECOND FORM's CARD OF 'laws.FnExactMeterMean'. -/
def fnExactMeterMeanUptoCard : Claim7 := { stood := { row := fnExactMeterMeanUptoRow, standIns := [], harness := (true, "12a8e431661248fd9a3b1c078f42facdb166a306e65bd9d78034b6713f280022"), looks := false }, kinds := [], alts := [], laidByText := true, laidKinds := [.data], laidTests := true, laidLooks := .later }
def FnExactMeterMeanUptoCardSaid : Prop := Claim7.holds Tryd.pinned (.plain (OpenSpec.upto fnExactMeterMeanSpec)) fnExactMeterMeanUptoCard

/-- THE SECOND FORM's CARD OF 'laws.FnMean'. -/
def fnMeanUptoCard : Claim7 := { stood := { row := fnMeanUptoRow, standIns := [], harness := (true, "12a8e431661248fd9a3b1c078f42facdb166a306e65bd9d78034b6713f280022"), looks := false }, kinds := [], alts := [], laidByText := true, laidKinds := [.data], laidTests := true, laidLooks := .later }
def FnMeanUptoCardSaid : Prop := Claim7.holds Tryd.pinned (.plain (OpenSpec.upto fnMeanSpec)) fnMeanUptoCard
end Rows
end Go.Proofs.YtmaacdfbhilegaaDoor
