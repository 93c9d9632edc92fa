/-
  DERIVED. GIVEN WITH THE SEED: THE CARDS: each row of YtfmfefjplehjgaaDoorRows.lean that lists a variable, with what it lists TIED to the program's text (the seventh form; the later family's looks); each row that meets fmt, with fmt's text TOLD by the authors' own Lean function (tested against real Go, not proved from fmt's source: count such statements apart). THE CARD IS WHAT COUNTS. Prove the row's statement (the work); the ties are given (YtfmfefjplehjgaaDoorTie.lean); close each card by the builder's one call (the guide's Derived/Test/ToyasCard.lean, 'card_holds'). Laid BY PROGRAM, IN A SANDBOX (cutbox-door.mjs). By AI agents, Wed Nov 11 2026. No macro, syntax, notation, axiom, sorry.
-/
import Derived.Test.YtfmfefjplehjgaaDoorRows
import GoSem.ClaimSeven
namespace Go.Proofs.YtfmfefjplehjgaaDoor
namespace Rows

/-- THE TIED CARD OF 'laws.FnExactStepWorld'. -/
def fnExactStepWorldCard : Claim7 := { stood := { row := fnExactStepWorldRow, standIns := [], harness := (true, "c0d9e29f19c08d01a8d9286b7d6c960f249512035f9ce943163bc263db2123dc"), looks := false }, kinds := [], alts := [], laidByText := true, laidKinds := [.data, .pinned], laidTests := true, laidLooks := .later }
def FnExactStepWorldCardSaid : Prop := Claim7.holds Tryd.pinned (.plain (OpenSpec.ofChange fnExactStepWorldSpec)) fnExactStepWorldCard

/-- THE TIED CARD OF 'laws.FnExactWorldAfter'. -/
def fnExactWorldAfterCard : Claim7 := { stood := { row := fnExactWorldAfterRow, standIns := [], harness := (true, "c0d9e29f19c08d01a8d9286b7d6c960f249512035f9ce943163bc263db2123dc"), looks := false }, kinds := [], alts := [], laidByText := true, laidKinds := [.data, .pinned], laidTests := true, laidLooks := .later }
def FnExactWorldAfterCardSaid : Prop := Claim7.holds Tryd.pinned (.plain (OpenSpec.ofChange fnExactWorldAfterSpec)) fnExactWorldAfterCard

/-- THE TIED CARD OF 'laws.FnExactTurnsAfter'. -/
def fnExactTurnsAfterCard : Claim7 := { stood := { row := fnExactTurnsAfterRow, standIns := [], harness := (true, "c0d9e29f19c08d01a8d9286b7d6c960f249512035f9ce943163bc263db2123dc"), looks := false }, kinds := [], alts := [], laidByText := true, laidKinds := [.data, .pinned], laidTests := true, laidLooks := .later }
def FnExactTurnsAfterCardSaid : Prop := Claim7.holds Tryd.pinned (.plain (OpenSpec.ofChange fnExactTurnsAfterSpec)) fnExactTurnsAfterCard

/-- THE TIED CARD OF 'laws.FnExactTrackAfter'. -/
def fnExactTrackAfterCard : Claim7 := { stood := { row := fnExactTrackAfterRow, standIns := [], harness := (true, "c0d9e29f19c08d01a8d9286b7d6c960f249512035f9ce943163bc263db2123dc"), looks := false }, kinds := [], alts := [], laidByText := true, laidKinds := [.data, .pinned], laidTests := true, laidLooks := .later }
def FnExactTrackAfterCardSaid : Prop := Claim7.holds Tryd.pinned (.plain (OpenSpec.ofChange fnExactTrackAfterSpec)) fnExactTrackAfterCard

/-- THE TIED CARD OF 'laws.FnExactVisitsAfter'. -/
def fnExactVisitsAfterCard : Claim7 := { stood := { row := fnExactVisitsAfterRow, standIns := [], harness := (true, "c0d9e29f19c08d01a8d9286b7d6c960f249512035f9ce943163bc263db2123dc"), looks := false }, kinds := [], alts := [], laidByText := true, laidKinds := [.data, .pinned], laidTests := true, laidLooks := .later }
def FnExactVisitsAfterCardSaid : Prop := Claim7.holds Tryd.pinned (.plain (OpenSpec.ofChange fnExactVisitsAfterSpec)) fnExactVisitsAfterCard

/-- THE TIED CARD OF 'laws.FnExactCellsVisited'. -/
def fnExactCellsVisitedCard : Claim7 := { stood := { row := fnExactCellsVisitedRow, standIns := [], harness := (true, "c0d9e29f19c08d01a8d9286b7d6c960f249512035f9ce943163bc263db2123dc"), looks := false }, kinds := [], alts := [], laidByText := true, laidKinds := [.data, .pinned], laidTests := true, laidLooks := .later }
def FnExactCellsVisitedCardSaid : Prop := Claim7.holds Tryd.pinned (.plain (OpenSpec.ofChange fnExactCellsVisitedSpec)) fnExactCellsVisitedCard

/-- THE TIED CARD OF 'laws.FnExactMostVisited'. -/
def fnExactMostVisitedCard : Claim7 := { stood := { row := fnExactMostVisitedRow, standIns := [], harness := (true, "c0d9e29f19c08d01a8d9286b7d6c960f249512035f9ce943163bc263db2123dc"), looks := false }, kinds := [], alts := [], laidByText := true, laidKinds := [.data, .pinned], laidTests := true, laidLooks := .later }
def FnExactMostVisitedCardSaid : Prop := Claim7.holds Tryd.pinned (.plain (OpenSpec.ofChange fnExactMostVisitedSpec)) fnExactMostVisitedCard

/-- THE TIED CARD OF 'laws.FnExactNeverVisited'. -/
def fnExactNeverVisitedCard : Claim7 := { stood := { row := fnExactNeverVisitedRow, standIns := [], harness := (true, "c0d9e29f19c08d01a8d9286b7d6c960f249512035f9ce943163bc263db2123dc"), looks := false }, kinds := [], alts := [], laidByText := true, laidKinds := [.data, .pinned], laidTests := true, laidLooks := .later }
def FnExactNeverVisitedCardSaid : Prop := Claim7.holds Tryd.pinned (.plain (OpenSpec.ofChange fnExactNeverVisitedSpec)) fnExactNeverVisitedCard

/-- THE TIED CARD OF 'laws.FnExactFirstReturn'. -/
def fnExactFirstReturnCard : Claim7 := { stood := { row := fnExactFirstReturnRow, standIns := [], harness := (true, "c0d9e29f19c08d01a8d9286b7d6c960f249512035f9ce943163bc263db2123dc"), looks := false }, kinds := [], alts := [], laidByText := true, laidKinds := [.data, .pinned], laidTests := true, laidLooks := .later }
def FnExactFirstReturnCardSaid : Prop := Claim7.holds Tryd.pinned (.plain (OpenSpec.ofChange fnExactFirstReturnSpec)) fnExactFirstReturnCard

/-- THE TIED CARD OF 'laws.FnExactAntPeriod'. -/
def fnExactAntPeriodCard : Claim7 := { stood := { row := fnExactAntPeriodRow, standIns := [], harness := (true, "c0d9e29f19c08d01a8d9286b7d6c960f249512035f9ce943163bc263db2123dc"), looks := false }, kinds := [], alts := [], laidByText := true, laidKinds := [.data, .pinned], laidTests := true, laidLooks := .later }
def FnExactAntPeriodCardSaid : Prop := Claim7.holds Tryd.pinned (.plain (OpenSpec.ofChange fnExactAntPeriodSpec)) fnExactAntPeriodCard

/-- THE TIED CARD OF 'laws.FnExactPeriodOf'. -/
def fnExactPeriodOfCard : Claim7 := { stood := { row := fnExactPeriodOfRow, standIns := [], harness := (true, "c0d9e29f19c08d01a8d9286b7d6c960f249512035f9ce943163bc263db2123dc"), looks := false }, kinds := [], alts := [], laidByText := true, laidKinds := [.data, .pinned], laidTests := true, laidLooks := .later }
def FnExactPeriodOfCardSaid : Prop := Claim7.holds Tryd.pinned (.plain (OpenSpec.ofChange fnExactPeriodOfSpec)) fnExactPeriodOfCard

/-- THE TIED CARD OF 'laws.FnExactStepsBetween'. -/
def fnExactStepsBetweenCard : Claim7 := { stood := { row := fnExactStepsBetweenRow, standIns := [], harness := (true, "c0d9e29f19c08d01a8d9286b7d6c960f249512035f9ce943163bc263db2123dc"), looks := false }, kinds := [], alts := [], laidByText := true, laidKinds := [.data, .pinned], laidTests := true, laidLooks := .later }
def FnExactStepsBetweenCardSaid : Prop := Claim7.holds Tryd.pinned (.plain (OpenSpec.ofChange fnExactStepsBetweenSpec)) fnExactStepsBetweenCard

/-- THE TIED CARD OF 'laws.FnExactCoverSteps'. -/
def fnExactCoverStepsCard : Claim7 := { stood := { row := fnExactCoverStepsRow, standIns := [], harness := (true, "c0d9e29f19c08d01a8d9286b7d6c960f249512035f9ce943163bc263db2123dc"), looks := false }, kinds := [], alts := [], laidByText := true, laidKinds := [.data, .pinned], laidTests := true, laidLooks := .later }
def FnExactCoverStepsCardSaid : Prop := Claim7.holds Tryd.pinned (.plain (OpenSpec.ofChange fnExactCoverStepsSpec)) fnExactCoverStepsCard

/-- THE SECOND FORM's CARD OF 'laws.FnExactStepWorld'. -/
def fnExactStepWorldUptoCard : Claim7 := { stood := { row := fnExactStepWorldUptoRow, standIns := [], harness := (true, "c0d9e29f19c08d01a8d9286b7d6c960f249512035f9ce943163bc263db2123dc"), looks := false }, kinds := [], alts := [], laidByText := true, laidKinds := [.data, .pinned], laidTests := true, laidLooks := .later }
def FnExactStepWorldUptoCardSaid : Prop := Claim7.holds Tryd.pinned (.plain (OpenSpec.upto fnExactStepWorldSpec)) fnExactStepWorldUptoCard

/-- THE SECOND FORM's CARD OF 'laws.FnExactWorldAfter'. -/
def fnExactWorldAfterUptoCard : Claim7 := { stood := { row := fnExactWorldAfterUptoRow, standIns := [], harness := (true, "c0d9e29f19c08d01a8d9286b7d6c960f249512035f9ce943163bc263db2123dc"), looks := false }, kinds := [], alts := [], laidByText := true, laidKinds := [.data, .pinned], laidTests := true, laidLooks := .later }
def FnExactWorldAfterUptoCardSaid : Prop := Claim7.holds Tryd.pinned (.plain (OpenSpec.upto fnExactWorldAfterSpec)) fnExactWorldAfterUptoCard

/-- THE SECOND FORM's CARD OF 'laws.FnExactTurnsAfter'. -/
def fnExactTurnsAfterUptoCard : Claim7 := { stood := { row := fnExactTurnsAfterUptoRow, standIns := [], harness := (true, "c0d9e29f19c08d01a8d9286b7d6c960f249512035f9ce943163bc263db2123dc"), looks := false }, kinds := [], alts := [], laidByText := true, laidKinds := [.data, .pinned], laidTests := true, laidLooks := .later }
def FnExactTurnsAfterUptoCardSaid : Prop := Claim7.holds Tryd.pinned (.plain (OpenSpec.upto fnExactTurnsAfterSpec)) fnExactTurnsAfterUptoCard

/-- THE SECOND FORM's CARD OF 'laws.FnExactTrackAfter'. -/
def fnExactTrackAfterUptoCard : Claim7 := { stood := { row := fnExactTrackAfterUptoRow, standIns := [], harness := (true, "c0d9e29f19c08d01a8d9286b7d6c960f249512035f9ce943163bc263db2123dc"), looks := false }, kinds := [], alts := [], laidByText := true, laidKinds := [.data, .pinned], laidTests := true, laidLooks := .later }
def FnExactTrackAfterUptoCardSaid : Prop := Claim7.holds Tryd.pinned (.plain (OpenSpec.upto fnExactTrackAfterSpec)) fnExactTrackAfterUptoCard

/-- THE SECOND FORM's CARD OF 'laws.FnExactVisitsAfter'. -/
def fnExactVisitsAfterUptoCard : Claim7 := { stood := { row := fnExactVisitsAfterUptoRow, standIns := [], harness := (true, "c0d9e29f19c08d01a8d9286b7d6c960f249512035f9ce943163bc263db2123dc"), looks := false }, kinds := [], alts := [], laidByText := true, laidKinds := [.data, .pinned], laidTests := true, laidLooks := .later }
def FnExactVisitsAfterUptoCardSaid : Prop := Claim7.holds Tryd.pinned (.plain (OpenSpec.upto fnExactVisitsAfterSpec)) fnExactVisitsAfterUptoCard

/-- THE SECOND FORM's CARD OF 'laws.FnExactCellsVisited'. -/
def fnExactCellsVisitedUptoCard : Claim7 := { stood := { row := fnExactCellsVisitedUptoRow, standIns := [], harness := (true, "c0d9e29f19c08d01a8d9286b7d6c960f249512035f9ce943163bc263db2123dc"), looks := false }, kinds := [], alts := [], laidByText := true, laidKinds := [.data, .pinned], laidTests := true, laidLooks := .later }
def FnExactCellsVisitedUptoCardSaid : Prop := Claim7.holds Tryd.pinned (.plain (OpenSpec.upto fnExactCellsVisitedSpec)) fnExactCellsVisitedUptoCard

/-- THE SECOND FORM's CARD OF 'laws.FnExactMostVisited'. -/
def fnExactMostVisitedUptoCard : Claim7 := { stood := { row := fnExactMostVisitedUptoRow, standIns := [], harness := (true, "c0d9e29f19c08d01a8d9286b7d6c960f249512035f9ce943163bc263db2123dc"), looks := false }, kinds := [], alts := [], laidByText := true, laidKinds := [.data, .pinned], laidTests := true, laidLooks := .later }
def FnExactMostVisitedUptoCardSaid : Prop := Claim7.holds Tryd.pinned (.plain (OpenSpec.upto fnExactMostVisitedSpec)) fnExactMostVisitedUptoCard

/-- THE SECOND FORM's CARD OF 'laws.FnExactNeverVisited'. -/
def fnExactNeverVisitedUptoCard : Claim7 := { stood := { row := fnExactNeverVisitedUptoRow, standIns := [], harness := (true, "c0d9e29f19c08d01a8d9286b7d6c960f249512035f9ce943163bc263db2123dc"), looks := false }, kinds := [], alts := [], laidByText := true, laidKinds := [.data, .pinned], laidTests := true, laidLooks := .later }
def FnExactNeverVisitedUptoCardSaid : Prop := Claim7.holds Tryd.pinned (.plain (OpenSpec.upto fnExactNeverVisitedSpec)) fnExactNeverVisitedUptoCard

/-- THE SECOND FORM's CARD OF 'laws.FnExactFirstReturn'. -/
def fnExactFirstReturnUptoCard : Claim7 := { stood := { row := fnExactFirstReturnUptoRow, standIns := [], harness := (true, "c0d9e29f19c08d01a8d9286b7d6c960f249512035f9ce943163bc263db2123dc"), looks := false }, kinds := [], alts := [], laidByText := true, laidKinds := [.data, .pinned], laidTests := true, laidLooks := .later }
def FnExactFirstReturnUptoCardSaid : Prop := Claim7.holds Tryd.pinned (.plain (OpenSpec.upto fnExactFirstReturnSpec)) fnExactFirstReturnUptoCard

/-- THE SECOND FORM's CARD OF 'laws.FnExactAntPeriod'. -/
def fnExactAntPeriodUptoCard : Claim7 := { stood := { row := fnExactAntPeriodUptoRow, standIns := [], harness := (true, "c0d9e29f19c08d01a8d9286b7d6c960f249512035f9ce943163bc263db2123dc"), looks := false }, kinds := [], alts := [], laidByText := true, laidKinds := [.data, .pinned], laidTests := true, laidLooks := .later }
def FnExactAntPeriodUptoCardSaid : Prop := Claim7.holds Tryd.pinned (.plain (OpenSpec.upto fnExactAntPeriodSpec)) fnExactAntPeriodUptoCard

/-- THE SECOND FORM's CARD OF 'laws.FnExactPeriodOf'. -/
def fnExactPeriodOfUptoCard : Claim7 := { stood := { row := fnExactPeriodOfUptoRow, standIns := [], harness := (true, "c0d9e29f19c08d01a8d9286b7d6c960f249512035f9ce943163bc263db2123dc"), looks := false }, kinds := [], alts := [], laidByText := true, laidKinds := [.data, .pinned], laidTests := true, laidLooks := .later }
def FnExactPeriodOfUptoCardSaid : Prop := Claim7.holds Tryd.pinned (.plain (OpenSpec.upto fnExactPeriodOfSpec)) fnExactPeriodOfUptoCard

/-- THE SECOND FORM's CARD OF 'laws.FnExactStepsBetween'. -/
def fnExactStepsBetweenUptoCard : Claim7 := { stood := { row := fnExactStepsBetweenUptoRow, standIns := [], harness := (true, "c0d9e29f19c08d01a8d9286b7d6c960f249512035f9ce943163bc263db2123dc"), looks := false }, kinds := [], alts := [], laidByText := true, laidKinds := [.data, .pinned], laidTests := true, laidLooks := .later }
def FnExactStepsBetweenUptoCardSaid : Prop := Claim7.holds Tryd.pinned (.plain (OpenSpec.upto fnExactStepsBetweenSpec)) fnExactStepsBetweenUptoCard

/-- THE SECOND FORM's CARD OF 'laws.FnExactCoverSteps'. -/
def fnExactCoverStepsUptoCard : Claim7 := { stood := { row := fnExactCoverStepsUptoRow, standIns := [], harness := (true, "c0d9e29f19c08d01a8d9286b7d6c960f249512035f9ce943163bc263db2123dc"), looks := false }, kinds := [], alts := [], laidByText := true, laidKinds := [.data, .pinned], laidTests := true, laidLooks := .later }
def FnExactCoverStepsUptoCardSaid : Prop := Claim7.holds Tryd.pinned (.plain (OpenSpec.upto fnExactCoverStepsSpec)) fnExactCoverStepsUptoCard
end Rows
end Go.Proofs.YtfmfefjplehjgaaDoor
