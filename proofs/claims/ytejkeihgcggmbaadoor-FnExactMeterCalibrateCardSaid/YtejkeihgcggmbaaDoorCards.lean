/-
  DERIVED. GIVEN WITH THE SEED: THE CARDS: each row of YtejkeihgcggmbaaDoorRows.lean that lists a variable, with what it lists TIED to the program's text (the seventh form; the later family's looks); each row that meets fmt, with fmt's text TOLD by the authors' own Lean function (tested against real Go, not proved from fmt's source: count such statements apart). THE CARD IS WHAT COUNTS. Prove the row's statement (the work); the ties are given (YtejkeihgcggmbaaDoorTie.lean); close each card by the builder's one call (the guide's Derived/Test/ToyasCard.lean, 'card_holds'). Laid BY PROGRAM, IN A SANDBOX (cutbox-door.mjs). By AI agents, Wed Nov 11 2026. No macro, syntax, notation, axiom, sorry.
-/
import Derived.Test.YtejkeihgcggmbaaDoorRows
import GoSem.ClaimSeven
namespace Go.Proofs.YtejkeihgcggmbaaDoor
namespace Rows

/-- THE TIED CARD OF 'laws.FnExactMeterCalibrate'. -/
def fnExactMeterCalibrateCard : Claim7 := { stood := { row := fnExactMeterCalibrateRow, standIns := [], harness := (true, "a908538562b584a297371ff69fb90fdfa1f30471c527840775e2f62d24adbff1"), looks := false }, kinds := [], alts := [], laidByText := true, laidKinds := [.data], laidTests := true, laidLooks := .later }
def FnExactMeterCalibrateCardSaid : Prop := Claim7.holds Tryd.pinned (.plain (OpenSpec.ofChange fnExactMeterCalibrateSpec)) fnExactMeterCalibrateCard

/-- THE SECOND FORM's CARD OF 'laws.FnExactMeterCalibrate'. -/
def fnExactMeterCalibrateUptoCard : Claim7 := { stood := { row := fnExactMeterCalibrateUptoRow, standIns := [], harness := (true, "a908538562b584a297371ff69fb90fdfa1f30471c527840775e2f62d24adbff1"), looks := false }, kinds := [], alts := [], laidByText := true, laidKinds := [.data], laidTests := true, laidLooks := .later }
def FnExactMeterCalibrateUptoCardSaid : Prop := Claim7.holds Tryd.pinned (.plain (OpenSpec.upto fnExactMeterCalibrateSpec)) fnExactMeterCalibrateUptoCard
end Rows
end Go.Proofs.YtejkeihgcggmbaaDoor
