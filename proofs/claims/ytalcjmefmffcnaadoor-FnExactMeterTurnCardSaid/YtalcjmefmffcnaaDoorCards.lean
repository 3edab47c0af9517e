/-
  DERIVED. GIVEN WITH THE SEED: THE CARDS: each row of YtalcjmefmffcnaaDoorRows.lean that lists a variable, with what it lists TIED to the program's text (the seventh form; the later family's looks); each row that meets fmt, with fmt's text TOLD by the authors' own Lean function (tested against real Go, not proved from fmt's source: count such statements apart). THE CARD IS WHAT COUNTS. Prove the row's statement (the work); the ties are given (YtalcjmefmffcnaaDoorTie.lean); close each card by the builder's one call (the guide's Derived/Test/ToyasCard.lean, 'card_holds'). Laid BY PROGRAM, IN A SANDBOX (cutbox-door.mjs). By AI agents, Wed Nov 11 2026. No macro, syntax, notation, axiom, sorry.
-/
import Derived.Test.YtalcjmefmffcnaaDoorRows
import GoSem.ClaimSeven
namespace Go.Proofs.YtalcjmefmffcnaaDoor
namespace Rows

/-- THE TIED CARD OF 'laws.FnExactMeterRow'. -/
def fnExactMeterRowCard : Claim7 := { stood := { row := fnExactMeterRowRow, standIns := [], harness := (true, "0cc76bee20cbf6547893dc9d4691de9635262e99ef78837c3cb88c6b958bb515"), looks := false }, kinds := [], alts := [], laidByText := true, laidKinds := [.data, .data, .data], laidTests := true, laidLooks := .later }
def FnExactMeterRowCardSaid : Prop := Claim7.holds Tryd.pinned (.plain (OpenSpec.ofChange fnExactMeterRowSpec)) fnExactMeterRowCard

/-- THE TIED CARD OF 'laws.FnRow'. -/
def fnRowCard : Claim7 := { stood := { row := fnRowRow, standIns := [], harness := (true, "0cc76bee20cbf6547893dc9d4691de9635262e99ef78837c3cb88c6b958bb515"), looks := false }, kinds := [], alts := [], laidByText := true, laidKinds := [.data, .data, .data], laidTests := true, laidLooks := .later }
def FnRowCardSaid : Prop := Claim7.holds Tryd.pinned (.plain (OpenSpec.ofChange fnRowSpec)) fnRowCard

/-- THE TIED CARD OF 'laws.FnCalibrate'. -/
def fnCalibrateCard : Claim7 := { stood := { row := fnCalibrateRow, standIns := [], harness := (true, "0cc76bee20cbf6547893dc9d4691de9635262e99ef78837c3cb88c6b958bb515"), looks := false }, kinds := [], alts := [], laidByText := true, laidKinds := [.data], laidTests := true, laidLooks := .later }
def FnCalibrateCardSaid : Prop := Claim7.holds Tryd.pinned (.plain (OpenSpec.ofChange fnCalibrateSpec)) fnCalibrateCard

/-- THE TIED CARD OF 'laws.FnMeterDet'. -/
def fnMeterDetCard : Claim7 := { stood := { row := fnMeterDetRow, standIns := [], harness := (true, "0cc76bee20cbf6547893dc9d4691de9635262e99ef78837c3cb88c6b958bb515"), looks := false }, kinds := [], alts := [], laidByText := true, laidKinds := [.data, .data, .data], laidTests := true, laidLooks := .later }
def FnMeterDetCardSaid : Prop := Claim7.holds Tryd.pinned (.plain (OpenSpec.ofChange fnMeterDetSpec)) fnMeterDetCard

/-- THE TIED CARD OF 'laws.FnGood'. -/
def fnGoodCard : Claim7 := { stood := { row := fnGoodRow, standIns := [], harness := (true, "0cc76bee20cbf6547893dc9d4691de9635262e99ef78837c3cb88c6b958bb515"), looks := false }, kinds := [], alts := [], laidByText := true, laidKinds := [.data, .data, .data], laidTests := true, laidLooks := .later }
def FnGoodCardSaid : Prop := Claim7.holds Tryd.pinned (.plain (OpenSpec.ofChange fnGoodSpec)) fnGoodCard

/-- THE TIED CARD OF 'laws.FnExactMeterGood'. -/
def fnExactMeterGoodCard : Claim7 := { stood := { row := fnExactMeterGoodRow, standIns := [], harness := (true, "0cc76bee20cbf6547893dc9d4691de9635262e99ef78837c3cb88c6b958bb515"), looks := false }, kinds := [], alts := [], laidByText := true, laidKinds := [.data, .data, .data], laidTests := true, laidLooks := .later }
def FnExactMeterGoodCardSaid : Prop := Claim7.holds Tryd.pinned (.plain (OpenSpec.ofChange fnExactMeterGoodSpec)) fnExactMeterGoodCard

/-- THE TIED CARD OF 'laws.FnExactMeterDet'. -/
def fnExactMeterDetCard : Claim7 := { stood := { row := fnExactMeterDetRow, standIns := [], harness := (true, "0cc76bee20cbf6547893dc9d4691de9635262e99ef78837c3cb88c6b958bb515"), looks := false }, kinds := [], alts := [], laidByText := true, laidKinds := [.data, .data, .data], laidTests := true, laidLooks := .later }
def FnExactMeterDetCardSaid : Prop := Claim7.holds Tryd.pinned (.plain (OpenSpec.ofChange fnExactMeterDetSpec)) fnExactMeterDetCard

/-- THE TIED CARD OF 'laws.FnExactMeterTurn'. -/
def fnExactMeterTurnCard : Claim7 := { stood := { row := fnExactMeterTurnRow, standIns := [], harness := (true, "0cc76bee20cbf6547893dc9d4691de9635262e99ef78837c3cb88c6b958bb515"), looks := false }, kinds := [], alts := [], laidByText := true, laidKinds := [.data, .data, .data], laidTests := true, laidLooks := .later }
def FnExactMeterTurnCardSaid : Prop := Claim7.holds Tryd.pinned (.plain (OpenSpec.ofChange fnExactMeterTurnSpec)) fnExactMeterTurnCard

/-- THE TIED CARD OF 'laws.FnExactMeterRead'. -/
def fnExactMeterReadCard : Claim7 := { stood := { row := fnExactMeterReadRow, standIns := [], harness := (true, "0cc76bee20cbf6547893dc9d4691de9635262e99ef78837c3cb88c6b958bb515"), looks := false }, kinds := [], alts := [], laidByText := true, laidKinds := [.data, .data, .data], laidTests := true, laidLooks := .later }
def FnExactMeterReadCardSaid : Prop := Claim7.holds Tryd.pinned (.plain (OpenSpec.ofChange fnExactMeterReadSpec)) fnExactMeterReadCard

/-- THE TIED CARD OF 'laws.FnTurn'. -/
def fnTurnCard : Claim7 := { stood := { row := fnTurnRow, standIns := [], harness := (true, "0cc76bee20cbf6547893dc9d4691de9635262e99ef78837c3cb88c6b958bb515"), looks := false }, kinds := [], alts := [], laidByText := true, laidKinds := [.data, .data, .data], laidTests := true, laidLooks := .later }
def FnTurnCardSaid : Prop := Claim7.holds Tryd.pinned (.plain (OpenSpec.ofChange fnTurnSpec)) fnTurnCard

/-- THE TIED CARD OF 'laws.FnExactMeterSolve'. -/
def fnExactMeterSolveCard : Claim7 := { stood := { row := fnExactMeterSolveRow, standIns := [], harness := (true, "0cc76bee20cbf6547893dc9d4691de9635262e99ef78837c3cb88c6b958bb515"), looks := false }, kinds := [], alts := [], laidByText := true, laidKinds := [.data, .data, .data], laidTests := true, laidLooks := .later }
def FnExactMeterSolveCardSaid : Prop := Claim7.holds Tryd.pinned (.plain (OpenSpec.ofChange fnExactMeterSolveSpec)) fnExactMeterSolveCard

/-- THE SECOND FORM's CARD OF 'laws.FnExactMeterRow'. -/
def fnExactMeterRowUptoCard : Claim7 := { stood := { row := fnExactMeterRowUptoRow, standIns := [], harness := (true, "0cc76bee20cbf6547893dc9d4691de9635262e99ef78837c3cb88c6b958bb515"), looks := false }, kinds := [], alts := [], laidByText := true, laidKinds := [.data, .data, .data], laidTests := true, laidLooks := .later }
def FnExactMeterRowUptoCardSaid : Prop := Claim7.holds Tryd.pinned (.plain (OpenSpec.upto fnExactMeterRowSpec)) fnExactMeterRowUptoCard

/-- THE SECOND FORM's CARD OF 'laws.FnRow'. -/
def fnRowUptoCard : Claim7 := { stood := { row := fnRowUptoRow, standIns := [], harness := (true, "0cc76bee20cbf6547893dc9d4691de9635262e99ef78837c3cb88c6b958bb515"), looks := false }, kinds := [], alts := [], laidByText := true, laidKinds := [.data, .data, .data], laidTests := true, laidLooks := .later }
def FnRowUptoCardSaid : Prop := Claim7.holds Tryd.pinned (.plain (OpenSpec.upto fnRowSpec)) fnRowUptoCard

/-- THE SECOND FORM's CARD OF 'laws.FnCalibrate'. -/
def fnCalibrateUptoCard : Claim7 := { stood := { row := fnCalibrateUptoRow, standIns := [], harness := (true, "0cc76bee20cbf6547893dc9d4691de9635262e99ef78837c3cb88c6b958bb515"), looks := false }, kinds := [], alts := [], laidByText := true, laidKinds := [.data], laidTests := true, laidLooks := .later }
def FnCalibrateUptoCardSaid : Prop := Claim7.holds Tryd.pinned (.plain (OpenSpec.upto fnCalibrateSpec)) fnCalibrateUptoCard

/-- THE SECOND FORM's CARD OF 'laws.FnMeterDet'. -/
def fnMeterDetUptoCard : Claim7 := { stood := { row := fnMeterDetUptoRow, standIns := [], harness := (true, "0cc76bee20cbf6547893dc9d4691de9635262e99ef78837c3cb88c6b958bb515"), looks := false }, kinds := [], alts := [], laidByText := true, laidKinds := [.data, .data, .data], laidTests := true, laidLooks := .later }
def FnMeterDetUptoCardSaid : Prop := Claim7.holds Tryd.pinned (.plain (OpenSpec.upto fnMeterDetSpec)) fnMeterDetUptoCard

/-- THE SECOND FORM's CARD OF 'laws.FnGood'. -/
def fnGoodUptoCard : Claim7 := { stood := { row := fnGoodUptoRow, standIns := [], harness := (true, "0cc76bee20cbf6547893dc9d4691de9635262e99ef78837c3cb88c6b958bb515"), looks := false }, kinds := [], alts := [], laidByText := true, laidKinds := [.data, .data, .data], laidTests := true, laidLooks := .later }
def FnGoodUptoCardSaid : Prop := Claim7.holds Tryd.pinned (.plain (OpenSpec.upto fnGoodSpec)) fnGoodUptoCard

/-- THE SECOND FORM's CARD OF 'laws.FnExactMeterGood'. -/
def fnExactMeterGoodUptoCard : Claim7 := { stood := { row := fnExactMeterGoodUptoRow, standIns := [], harness := (true, "0cc76bee20cbf6547893dc9d4691de9635262e99ef78837c3cb88c6b958bb515"), looks := false }, kinds := [], alts := [], laidByText := true, laidKinds := [.data, .data, .data], laidTests := true, laidLooks := .later }
def FnExactMeterGoodUptoCardSaid : Prop := Claim7.holds Tryd.pinned (.plain (OpenSpec.upto fnExactMeterGoodSpec)) fnExactMeterGoodUptoCard

/-- THE SECOND FORM's CARD OF 'laws.FnExactMeterDet'. -/
def fnExactMeterDetUptoCard : Claim7 := { stood := { row := fnExactMeterDetUptoRow, standIns := [], harness := (true, "0cc76bee20cbf6547893dc9d4691de9635262e99ef78837c3cb88c6b958bb515"), looks := false }, kinds := [], alts := [], laidByText := true, laidKinds := [.data, .data, .data], laidTests := true, laidLooks := .later }
def FnExactMeterDetUptoCardSaid : Prop := Claim7.holds Tryd.pinned (.plain (OpenSpec.upto fnExactMeterDetSpec)) fnExactMeterDetUptoCard

/-- THE SECOND FORM's CARD OF 'laws.FnExactMeterTurn'. -/
def fnExactMeterTurnUptoCard : Claim7 := { stood := { row := fnExactMeterTurnUptoRow, standIns := [], harness := (true, "0cc76bee20cbf6547893dc9d4691de9635262e99ef78837c3cb88c6b958bb515"), looks := false }, kinds := [], alts := [], laidByText := true, laidKinds := [.data, .data, .data], laidTests := true, laidLooks := .later }
def FnExactMeterTurnUptoCardSaid : Prop := Claim7.holds Tryd.pinned (.plain (OpenSpec.upto fnExactMeterTurnSpec)) fnExactMeterTurnUptoCard

/-- THE SECOND FORM's CARD OF 'laws.FnExactMeterRead'. -/
def fnExactMeterReadUptoCard : Claim7 := { stood := { row := fnExactMeterReadUptoRow, standIns := [], harness := (true, "0cc76bee20cbf6547893dc9d4691de9635262e99ef78837c3cb88c6b958bb515"), looks := false }, kinds := [], alts := [], laidByText := true, laidKinds := [.data, .data, .data], laidTests := true, laidLooks := .later }
def FnExactMeterReadUptoCardSaid : Prop := Claim7.holds Tryd.pinned (.plain (OpenSpec.upto fnExactMeterReadSpec)) fnExactMeterReadUptoCard

/-- THE SECOND FORM's CARD OF 'laws.FnTurn'. -/
def fnTurnUptoCard : Claim7 := { stood := { row := fnTurnUptoRow, standIns := [], harness := (true, "0cc76bee20cbf6547893dc9d4691de9635262e99ef78837c3cb88c6b958bb515"), looks := false }, kinds := [], alts := [], laidByText := true, laidKinds := [.data, .data, .data], laidTests := true, laidLooks := .later }
def FnTurnUptoCardSaid : Prop := Claim7.holds Tryd.pinned (.plain (OpenSpec.upto fnTurnSpec)) fnTurnUptoCard

/-- THE SECOND FORM's CARD OF 'laws.FnExactMeterSolve'. -/
def fnExactMeterSolveUptoCard : Claim7 := { stood := { row := fnExactMeterSolveUptoRow, standIns := [], harness := (true, "0cc76bee20cbf6547893dc9d4691de9635262e99ef78837c3cb88c6b958bb515"), looks := false }, kinds := [], alts := [], laidByText := true, laidKinds := [.data, .data, .data], laidTests := true, laidLooks := .later }
def FnExactMeterSolveUptoCardSaid : Prop := Claim7.holds Tryd.pinned (.plain (OpenSpec.upto fnExactMeterSolveSpec)) fnExactMeterSolveUptoCard
end Rows
end Go.Proofs.YtalcjmefmffcnaaDoor
