/-
  NARROWER THAN 'FOR EVERY INPUT', by the rows' own cells (each row's printed sentence says how): FnExactStepWorld: laid · FnExactWorldAfter: laid · FnExactTurnsAfter: laid · FnExactTrackAfter: laid · FnExactVisitsAfter: laid · FnExactCellsVisited: laid · FnExactMostVisited: laid · FnExactNeverVisited: laid · FnExactFirstReturn: laid · FnExactAntPeriod: laid · FnExactPeriodOf: laid · FnExactStepsBetween: laid · FnExactCoverSteps: laid.
  DERIVED. THE GIVEN ROWS OF THIS SEAT. 13 by the template 'for every input the law returns true; each argument reads behind the call as it read before'; 0 by the template 'total and deterministic' (their statements: YtfmfefjplehjgaaDoorTotals.lean).
  GIVEN WITH THE SEED: the statements are not yours to turn. If you find one false, say at which input.
  Laid BY PROGRAM, IN A SANDBOX (cutbox-rows.mjs): the forced cells as the released guide's own fill.sh prints them over the translation 1271b3505c544e09… (all of the seat's roots in one cut). By AI agents, Wed Nov 11 2026. No macro, syntax, notation, axiom, sorry.
-/
import Derived.Test.YtfmfefjplehjgaaDoorChecked
import GoSem.PinnedTables
import GoSem.Claim
import GoSem.ClaimJoined
import GoSem.ClaimMapViews
import Derived.JoinedTies
import Derived.KernelRfl
namespace Go.Proofs.YtfmfefjplehjgaaDoor
/- THE CELL 'sum', in the pinned program and in every row, IS THE sha256 OF THE DUMP (.gsa) THAT YtfmfefjplehjgaaDoorProg.lean LOADS. Nothing in Lean hashes anything: it is a label: what it is worth is what the hold of that sum in a sandbox is worth. -/
noncomputable def Tryd.pinned : Pinned := { name := "ytfmfefjplehjgaadoor", sum := "1271b3505c544e090e8c078eea15bf4b28ba19cd29f7286062f75688531da73f", checked := Tryd.checked }
namespace Rows
def none {H : Type} : Left H := { results := [], args := [] }

/- WHAT THE LISTED PACKAGE-LEVEL VARIABLES READ AS WHEN THE CALL BEGINS. Each datum BY PROGRAM (the guide's laid-datum.mjs) off the statement by which the dump's own 'gosem.cut.vars' lays the variable. In a bare row this is a premise. The card (YtfmfefjplehjgaaDoorCards.lean) ties it to the program's text. -/
def laid_unicode_utf8_acceptRanges {H : Type} : DataW H := .agg [.agg [.lit (.int .u8 128), .lit (.int .u8 191)], .agg [.lit (.int .u8 160), .lit (.int .u8 191)], .agg [.lit (.int .u8 128), .lit (.int .u8 159)], .agg [.lit (.int .u8 144), .lit (.int .u8 191)], .agg [.lit (.int .u8 128), .lit (.int .u8 143)], .agg [.lit (.int .u8 0), .lit (.int .u8 0)], .agg [.lit (.int .u8 0), .lit (.int .u8 0)], .agg [.lit (.int .u8 0), .lit (.int .u8 0)], .agg [.lit (.int .u8 0), .lit (.int .u8 0)], .agg [.lit (.int .u8 0), .lit (.int .u8 0)], .agg [.lit (.int .u8 0), .lit (.int .u8 0)], .agg [.lit (.int .u8 0), .lit (.int .u8 0)], .agg [.lit (.int .u8 0), .lit (.int .u8 0)], .agg [.lit (.int .u8 0), .lit (.int .u8 0)], .agg [.lit (.int .u8 0), .lit (.int .u8 0)], .agg [.lit (.int .u8 0), .lit (.int .u8 0)]]
/-- One of Go's own tables, pinned by name: the form's constant. -/
def laid_unicode_utf8_first : DataW Unit := Go.Pinned.utf8First

/-- 'laws.FnExactStepWorld': WHATEVER THE INPUT: true; the input reads as it did. -/
def fnExactStepWorldSpec : ChangeSpec := { name := "fnExactStepWorld", fn := fun _ => fun
  | [d] => { results := [.lit (.bool true)], args := [d] }
  | _ => none }
def fnExactStepWorldRow : OpenClaim := { program := "ytfmfefjplehjgaadoor", sum := "1271b3505c544e090e8c078eea15bf4b28ba19cd29f7286062f75688531da73f", func := "loop.example/g01276/laws.FnExactStepWorld", spec := "fnExactStepWorld", inPlace := ["internal/bytealg.IndexByteString", "internal/bytealg.IndexString"], recurses := true, named := ["unicode/utf8.first", "unicode/utf8.acceptRanges", "internal/bytealg.MaxLen"], apart := false, laid := [("unicode/utf8.acceptRanges", laid_unicode_utf8_acceptRanges), ("unicode/utf8.first", laid_unicode_utf8_first)] }
def FnExactStepWorldSaid : Prop := fnExactStepWorldRow.holds Tryd.pinned (OpenSpec.ofChange fnExactStepWorldSpec)

/-- ITS FALSE NEIGHBOUR: 'it returns false'. Refute it at one input. -/
def fnExactStepWorldWrong : ChangeSpec := { name := "fnExactStepWorld", fn := fun _ => fun
  | [d] => { results := [.lit (.bool false)], args := [d] }
  | _ => none }
def FnExactStepWorldWrongFalsely : Prop := fnExactStepWorldRow.holds Tryd.pinned (OpenSpec.ofChange fnExactStepWorldWrong)

/-- 'laws.FnExactWorldAfter': WHATEVER THE INPUT: true; the input reads as it did. -/
def fnExactWorldAfterSpec : ChangeSpec := { name := "fnExactWorldAfter", fn := fun _ => fun
  | [d1, d2] => { results := [.lit (.bool true)], args := [d1, d2] }
  | _ => none }
def fnExactWorldAfterRow : OpenClaim := { program := "ytfmfefjplehjgaadoor", sum := "1271b3505c544e090e8c078eea15bf4b28ba19cd29f7286062f75688531da73f", func := "loop.example/g01276/laws.FnExactWorldAfter", spec := "fnExactWorldAfter", inPlace := ["internal/bytealg.IndexByteString", "internal/bytealg.IndexString"], recurses := true, named := ["unicode/utf8.first", "unicode/utf8.acceptRanges", "internal/bytealg.MaxLen"], apart := false, laid := [("unicode/utf8.acceptRanges", laid_unicode_utf8_acceptRanges), ("unicode/utf8.first", laid_unicode_utf8_first)] }
def FnExactWorldAfterSaid : Prop := fnExactWorldAfterRow.holds Tryd.pinned (OpenSpec.ofChange fnExactWorldAfterSpec)

/-- ITS FALSE NEIGHBOUR: 'it returns false'. Refute it at one input. -/
def fnExactWorldAfterWrong : ChangeSpec := { name := "fnExactWorldAfter", fn := fun _ => fun
  | [d1, d2] => { results := [.lit (.bool false)], args := [d1, d2] }
  | _ => none }
def FnExactWorldAfterWrongFalsely : Prop := fnExactWorldAfterRow.holds Tryd.pinned (OpenSpec.ofChange fnExactWorldAfterWrong)

/-- 'laws.FnExactTurnsAfter': WHATEVER THE INPUT: true; the input reads as it did. -/
def fnExactTurnsAfterSpec : ChangeSpec := { name := "fnExactTurnsAfter", fn := fun _ => fun
  | [d1, d2] => { results := [.lit (.bool true)], args := [d1, d2] }
  | _ => none }
def fnExactTurnsAfterRow : OpenClaim := { program := "ytfmfefjplehjgaadoor", sum := "1271b3505c544e090e8c078eea15bf4b28ba19cd29f7286062f75688531da73f", func := "loop.example/g01276/laws.FnExactTurnsAfter", spec := "fnExactTurnsAfter", inPlace := ["internal/bytealg.IndexByteString", "internal/bytealg.IndexString"], recurses := true, named := ["unicode/utf8.first", "unicode/utf8.acceptRanges", "internal/bytealg.MaxLen"], apart := false, laid := [("unicode/utf8.acceptRanges", laid_unicode_utf8_acceptRanges), ("unicode/utf8.first", laid_unicode_utf8_first)] }
def FnExactTurnsAfterSaid : Prop := fnExactTurnsAfterRow.holds Tryd.pinned (OpenSpec.ofChange fnExactTurnsAfterSpec)

/-- ITS FALSE NEIGHBOUR: 'it returns false'. Refute it at one input. -/
def fnExactTurnsAfterWrong : ChangeSpec := { name := "fnExactTurnsAfter", fn := fun _ => fun
  | [d1, d2] => { results := [.lit (.bool false)], args := [d1, d2] }
  | _ => none }
def FnExactTurnsAfterWrongFalsely : Prop := fnExactTurnsAfterRow.holds Tryd.pinned (OpenSpec.ofChange fnExactTurnsAfterWrong)

/-- 'laws.FnExactTrackAfter': WHATEVER THE INPUT: true; the input reads as it did. -/
def fnExactTrackAfterSpec : ChangeSpec := { name := "fnExactTrackAfter", fn := fun _ => fun
  | [d1, d2] => { results := [.lit (.bool true)], args := [d1, d2] }
  | _ => none }
def fnExactTrackAfterRow : OpenClaim := { program := "ytfmfefjplehjgaadoor", sum := "1271b3505c544e090e8c078eea15bf4b28ba19cd29f7286062f75688531da73f", func := "loop.example/g01276/laws.FnExactTrackAfter", spec := "fnExactTrackAfter", inPlace := ["internal/bytealg.IndexByteString", "internal/bytealg.IndexString"], recurses := true, named := ["unicode/utf8.first", "unicode/utf8.acceptRanges", "internal/bytealg.MaxLen"], apart := false, laid := [("unicode/utf8.acceptRanges", laid_unicode_utf8_acceptRanges), ("unicode/utf8.first", laid_unicode_utf8_first)] }
def FnExactTrackAfterSaid : Prop := fnExactTrackAfterRow.holds Tryd.pinned (OpenSpec.ofChange fnExactTrackAfterSpec)

/-- ITS FALSE NEIGHBOUR: 'it returns false'. Refute it at one input. -/
def fnExactTrackAfterWrong : ChangeSpec := { name := "fnExactTrackAfter", fn := fun _ => fun
  | [d1, d2] => { results := [.lit (.bool false)], args := [d1, d2] }
  | _ => none }
def FnExactTrackAfterWrongFalsely : Prop := fnExactTrackAfterRow.holds Tryd.pinned (OpenSpec.ofChange fnExactTrackAfterWrong)

/-- 'laws.FnExactVisitsAfter': WHATEVER THE INPUT: true; the input reads as it did. -/
def fnExactVisitsAfterSpec : ChangeSpec := { name := "fnExactVisitsAfter", fn := fun _ => fun
  | [d1, d2] => { results := [.lit (.bool true)], args := [d1, d2] }
  | _ => none }
def fnExactVisitsAfterRow : OpenClaim := { program := "ytfmfefjplehjgaadoor", sum := "1271b3505c544e090e8c078eea15bf4b28ba19cd29f7286062f75688531da73f", func := "loop.example/g01276/laws.FnExactVisitsAfter", spec := "fnExactVisitsAfter", inPlace := ["internal/bytealg.IndexByteString", "internal/bytealg.IndexString"], recurses := true, named := ["unicode/utf8.first", "unicode/utf8.acceptRanges", "internal/bytealg.MaxLen"], apart := false, laid := [("unicode/utf8.acceptRanges", laid_unicode_utf8_acceptRanges), ("unicode/utf8.first", laid_unicode_utf8_first)] }
def FnExactVisitsAfterSaid : Prop := fnExactVisitsAfterRow.holds Tryd.pinned (OpenSpec.ofChange fnExactVisitsAfterSpec)

/-- ITS FALSE NEIGHBOUR: 'it returns false'. Refute it at one input. -/
def fnExactVisitsAfterWrong : ChangeSpec := { name := "fnExactVisitsAfter", fn := fun _ => fun
  | [d1, d2] => { results := [.lit (.bool false)], args := [d1, d2] }
  | _ => none }
def FnExactVisitsAfterWrongFalsely : Prop := fnExactVisitsAfterRow.holds Tryd.pinned (OpenSpec.ofChange fnExactVisitsAfterWrong)

/-- 'laws.FnExactCellsVisited': WHATEVER THE INPUT: true; the input reads as it did. -/
def fnExactCellsVisitedSpec : ChangeSpec := { name := "fnExactCellsVisited", fn := fun _ => fun
  | [d1, d2] => { results := [.lit (.bool true)], args := [d1, d2] }
  | _ => none }
def fnExactCellsVisitedRow : OpenClaim := { program := "ytfmfefjplehjgaadoor", sum := "1271b3505c544e090e8c078eea15bf4b28ba19cd29f7286062f75688531da73f", func := "loop.example/g01276/laws.FnExactCellsVisited", spec := "fnExactCellsVisited", inPlace := ["internal/bytealg.IndexByteString", "internal/bytealg.IndexString"], recurses := true, named := ["unicode/utf8.first", "unicode/utf8.acceptRanges", "internal/bytealg.MaxLen"], apart := false, laid := [("unicode/utf8.acceptRanges", laid_unicode_utf8_acceptRanges), ("unicode/utf8.first", laid_unicode_utf8_first)] }
def FnExactCellsVisitedSaid : Prop := fnExactCellsVisitedRow.holds Tryd.pinned (OpenSpec.ofChange fnExactCellsVisitedSpec)

/-- ITS FALSE NEIGHBOUR: 'it returns false'. Refute it at one input. -/
def fnExactCellsVisitedWrong : ChangeSpec := { name := "fnExactCellsVisited", fn := fun _ => fun
  | [d1, d2] => { results := [.lit (.bool false)], args := [d1, d2] }
  | _ => none }
def FnExactCellsVisitedWrongFalsely : Prop := fnExactCellsVisitedRow.holds Tryd.pinned (OpenSpec.ofChange fnExactCellsVisitedWrong)

/-- 'laws.FnExactMostVisited': WHATEVER THE INPUT: true; the input reads as it did. -/
def fnExactMostVisitedSpec : ChangeSpec := { name := "fnExactMostVisited", fn := fun _ => fun
  | [d1, d2] => { results := [.lit (.bool true)], args := [d1, d2] }
  | _ => none }
def fnExactMostVisitedRow : OpenClaim := { program := "ytfmfefjplehjgaadoor", sum := "1271b3505c544e090e8c078eea15bf4b28ba19cd29f7286062f75688531da73f", func := "loop.example/g01276/laws.FnExactMostVisited", spec := "fnExactMostVisited", inPlace := ["internal/bytealg.IndexByteString", "internal/bytealg.IndexString"], recurses := true, named := ["unicode/utf8.first", "unicode/utf8.acceptRanges", "internal/bytealg.MaxLen"], apart := false, laid := [("unicode/utf8.acceptRanges", laid_unicode_utf8_acceptRanges), ("unicode/utf8.first", laid_unicode_utf8_first)] }
def FnExactMostVisitedSaid : Prop := fnExactMostVisitedRow.holds Tryd.pinned (OpenSpec.ofChange fnExactMostVisitedSpec)

/-- ITS FALSE NEIGHBOUR: 'it returns false'. Refute it at one input. -/
def fnExactMostVisitedWrong : ChangeSpec := { name := "fnExactMostVisited", fn := fun _ => fun
  | [d1, d2] => { results := [.lit (.bool false)], args := [d1, d2] }
  | _ => none }
def FnExactMostVisitedWrongFalsely : Prop := fnExactMostVisitedRow.holds Tryd.pinned (OpenSpec.ofChange fnExactMostVisitedWrong)

/-- 'laws.FnExactNeverVisited': WHATEVER THE INPUT: true; the input reads as it did. -/
def fnExactNeverVisitedSpec : ChangeSpec := { name := "fnExactNeverVisited", fn := fun _ => fun
  | [d] => { results := [.lit (.bool true)], args := [d] }
  | _ => none }
def fnExactNeverVisitedRow : OpenClaim := { program := "ytfmfefjplehjgaadoor", sum := "1271b3505c544e090e8c078eea15bf4b28ba19cd29f7286062f75688531da73f", func := "loop.example/g01276/laws.FnExactNeverVisited", spec := "fnExactNeverVisited", inPlace := ["internal/bytealg.IndexByteString", "internal/bytealg.IndexString"], unfollowed := true, recurses := true, named := ["unicode/utf8.first", "unicode/utf8.acceptRanges", "internal/bytealg.MaxLen"], apart := false, laid := [("unicode/utf8.acceptRanges", laid_unicode_utf8_acceptRanges), ("unicode/utf8.first", laid_unicode_utf8_first)] }
def FnExactNeverVisitedSaid : Prop := fnExactNeverVisitedRow.holds Tryd.pinned (OpenSpec.ofChange fnExactNeverVisitedSpec)

/-- ITS FALSE NEIGHBOUR: 'it returns false'. Refute it at one input. -/
def fnExactNeverVisitedWrong : ChangeSpec := { name := "fnExactNeverVisited", fn := fun _ => fun
  | [d] => { results := [.lit (.bool false)], args := [d] }
  | _ => none }
def FnExactNeverVisitedWrongFalsely : Prop := fnExactNeverVisitedRow.holds Tryd.pinned (OpenSpec.ofChange fnExactNeverVisitedWrong)

/-- 'laws.FnExactFirstReturn': WHATEVER THE INPUT: true; the input reads as it did. -/
def fnExactFirstReturnSpec : ChangeSpec := { name := "fnExactFirstReturn", fn := fun _ => fun
  | [d] => { results := [.lit (.bool true)], args := [d] }
  | _ => none }
def fnExactFirstReturnRow : OpenClaim := { program := "ytfmfefjplehjgaadoor", sum := "1271b3505c544e090e8c078eea15bf4b28ba19cd29f7286062f75688531da73f", func := "loop.example/g01276/laws.FnExactFirstReturn", spec := "fnExactFirstReturn", inPlace := ["internal/bytealg.IndexByteString", "internal/bytealg.IndexString"], unfollowed := true, recurses := true, named := ["unicode/utf8.first", "unicode/utf8.acceptRanges", "internal/bytealg.MaxLen"], apart := false, laid := [("unicode/utf8.acceptRanges", laid_unicode_utf8_acceptRanges), ("unicode/utf8.first", laid_unicode_utf8_first)] }
def FnExactFirstReturnSaid : Prop := fnExactFirstReturnRow.holds Tryd.pinned (OpenSpec.ofChange fnExactFirstReturnSpec)

/-- ITS FALSE NEIGHBOUR: 'it returns false'. Refute it at one input. -/
def fnExactFirstReturnWrong : ChangeSpec := { name := "fnExactFirstReturn", fn := fun _ => fun
  | [d] => { results := [.lit (.bool false)], args := [d] }
  | _ => none }
def FnExactFirstReturnWrongFalsely : Prop := fnExactFirstReturnRow.holds Tryd.pinned (OpenSpec.ofChange fnExactFirstReturnWrong)

/-- 'laws.FnExactAntPeriod': WHATEVER THE INPUT: true; the input reads as it did. -/
def fnExactAntPeriodSpec : ChangeSpec := { name := "fnExactAntPeriod", fn := fun _ => fun
  | [d] => { results := [.lit (.bool true)], args := [d] }
  | _ => none }
def fnExactAntPeriodRow : OpenClaim := { program := "ytfmfefjplehjgaadoor", sum := "1271b3505c544e090e8c078eea15bf4b28ba19cd29f7286062f75688531da73f", func := "loop.example/g01276/laws.FnExactAntPeriod", spec := "fnExactAntPeriod", inPlace := ["internal/bytealg.IndexByteString", "internal/bytealg.IndexString"], unfollowed := true, recurses := true, named := ["unicode/utf8.first", "unicode/utf8.acceptRanges", "internal/bytealg.MaxLen"], apart := false, laid := [("unicode/utf8.acceptRanges", laid_unicode_utf8_acceptRanges), ("unicode/utf8.first", laid_unicode_utf8_first)] }
def FnExactAntPeriodSaid : Prop := fnExactAntPeriodRow.holds Tryd.pinned (OpenSpec.ofChange fnExactAntPeriodSpec)

/-- ITS FALSE NEIGHBOUR: 'it returns false'. Refute it at one input. -/
def fnExactAntPeriodWrong : ChangeSpec := { name := "fnExactAntPeriod", fn := fun _ => fun
  | [d] => { results := [.lit (.bool false)], args := [d] }
  | _ => none }
def FnExactAntPeriodWrongFalsely : Prop := fnExactAntPeriodRow.holds Tryd.pinned (OpenSpec.ofChange fnExactAntPeriodWrong)

/-- 'laws.FnExactPeriodOf': WHATEVER THE INPUT: true; the input reads as it did. -/
def fnExactPeriodOfSpec : ChangeSpec := { name := "fnExactPeriodOf", fn := fun _ => fun
  | [d] => { results := [.lit (.bool true)], args := [d] }
  | _ => none }
def fnExactPeriodOfRow : OpenClaim := { program := "ytfmfefjplehjgaadoor", sum := "1271b3505c544e090e8c078eea15bf4b28ba19cd29f7286062f75688531da73f", func := "loop.example/g01276/laws.FnExactPeriodOf", spec := "fnExactPeriodOf", inPlace := ["internal/bytealg.IndexByteString", "internal/bytealg.IndexString"], unfollowed := true, recurses := true, named := ["unicode/utf8.first", "unicode/utf8.acceptRanges", "internal/bytealg.MaxLen"], apart := false, laid := [("unicode/utf8.acceptRanges", laid_unicode_utf8_acceptRanges), ("unicode/utf8.first", laid_unicode_utf8_first)] }
def FnExactPeriodOfSaid : Prop := fnExactPeriodOfRow.holds Tryd.pinned (OpenSpec.ofChange fnExactPeriodOfSpec)

/-- ITS FALSE NEIGHBOUR: 'it returns false'. Refute it at one input. -/
def fnExactPeriodOfWrong : ChangeSpec := { name := "fnExactPeriodOf", fn := fun _ => fun
  | [d] => { results := [.lit (.bool false)], args := [d] }
  | _ => none }
def FnExactPeriodOfWrongFalsely : Prop := fnExactPeriodOfRow.holds Tryd.pinned (OpenSpec.ofChange fnExactPeriodOfWrong)

/-- 'laws.FnExactStepsBetween': WHATEVER THE INPUT: true; the input reads as it did. -/
def fnExactStepsBetweenSpec : ChangeSpec := { name := "fnExactStepsBetween", fn := fun _ => fun
  | [d1, d2] => { results := [.lit (.bool true)], args := [d1, d2] }
  | _ => none }
def fnExactStepsBetweenRow : OpenClaim := { program := "ytfmfefjplehjgaadoor", sum := "1271b3505c544e090e8c078eea15bf4b28ba19cd29f7286062f75688531da73f", func := "loop.example/g01276/laws.FnExactStepsBetween", spec := "fnExactStepsBetween", inPlace := ["internal/bytealg.IndexByteString", "internal/bytealg.IndexString"], unfollowed := true, recurses := true, named := ["unicode/utf8.first", "unicode/utf8.acceptRanges", "internal/bytealg.MaxLen"], apart := false, laid := [("unicode/utf8.acceptRanges", laid_unicode_utf8_acceptRanges), ("unicode/utf8.first", laid_unicode_utf8_first)] }
def FnExactStepsBetweenSaid : Prop := fnExactStepsBetweenRow.holds Tryd.pinned (OpenSpec.ofChange fnExactStepsBetweenSpec)

/-- ITS FALSE NEIGHBOUR: 'it returns false'. Refute it at one input. -/
def fnExactStepsBetweenWrong : ChangeSpec := { name := "fnExactStepsBetween", fn := fun _ => fun
  | [d1, d2] => { results := [.lit (.bool false)], args := [d1, d2] }
  | _ => none }
def FnExactStepsBetweenWrongFalsely : Prop := fnExactStepsBetweenRow.holds Tryd.pinned (OpenSpec.ofChange fnExactStepsBetweenWrong)

/-- 'laws.FnExactCoverSteps': WHATEVER THE INPUT: true; the input reads as it did. -/
def fnExactCoverStepsSpec : ChangeSpec := { name := "fnExactCoverSteps", fn := fun _ => fun
  | [d] => { results := [.lit (.bool true)], args := [d] }
  | _ => none }
def fnExactCoverStepsRow : OpenClaim := { program := "ytfmfefjplehjgaadoor", sum := "1271b3505c544e090e8c078eea15bf4b28ba19cd29f7286062f75688531da73f", func := "loop.example/g01276/laws.FnExactCoverSteps", spec := "fnExactCoverSteps", inPlace := ["internal/bytealg.IndexByteString", "internal/bytealg.IndexString"], recurses := true, named := ["unicode/utf8.first", "unicode/utf8.acceptRanges", "internal/bytealg.MaxLen"], apart := false, laid := [("unicode/utf8.acceptRanges", laid_unicode_utf8_acceptRanges), ("unicode/utf8.first", laid_unicode_utf8_first)] }
def FnExactCoverStepsSaid : Prop := fnExactCoverStepsRow.holds Tryd.pinned (OpenSpec.ofChange fnExactCoverStepsSpec)

/-- ITS FALSE NEIGHBOUR: 'it returns false'. Refute it at one input. -/
def fnExactCoverStepsWrong : ChangeSpec := { name := "fnExactCoverSteps", fn := fun _ => fun
  | [d] => { results := [.lit (.bool false)], args := [d] }
  | _ => none }
def FnExactCoverStepsWrongFalsely : Prop := fnExactCoverStepsRow.holds Tryd.pinned (OpenSpec.ofChange fnExactCoverStepsWrong)

/- THE SECOND FORM. 'bulk': how many values and letters a reading holds, each counted each time it is reached (what is shared counts as often as it is met; a slice's spare places count too). A statement '..UptoSaid' is the law's where the arguments, and the package variables that the reading takes, are together of bulk at most 1048576: NARROWER than '..Said'. Prove '..Said' where nothing that the law and all that it calls make is longer than what came in: it says more and counts as full. Else prove '..UptoSaid'. A law counts once. -/
mutual
def uptoBulk {H : Type} : DataW H → Nat
  | .lit (.string bytes) => bytes.length + 1
  | .lit _ => 1
  | .nil => 1
  | .ptr d => uptoBulk d + 1
  | .slice elems spare => uptoBulkAll elems + uptoBulkAll spare + 1
  | .agg parts => uptoBulkAll parts + 1
  | .iface _ d => uptoBulk d + 1
  | .map entries => uptoBulkEntries entries + 1
  | .held _ => 1
def uptoBulkAll {H : Type} : List (DataW H) → Nat
  | [] => 0
  | d :: r => uptoBulk d + uptoBulkAll r
def uptoBulkEntries {H : Type} : List (Lit × DataW H) → Nat
  | [] => 0
  | x :: r => uptoBulkEntry x + uptoBulkEntries r
def uptoBulkEntry {H : Type} : Lit × DataW H → Nat
  | (.string bytes, d) => bytes.length + uptoBulk d + 1
  | (_, d) => uptoBulk d + 1
 end
def uptoSmall : (H : Type) → List (DataW H) → Bool := fun _ ds => decide (uptoBulkAll ds ≤ 1048576)
def OpenSpec.upto (s : _root_.Go.ChangeSpec) : _root_.Go.OpenSpec := { _root_.Go.OpenSpec.ofChange s with cond := some uptoSmall }

/-- 'laws.FnExactStepWorld', WHERE WHAT IT READS IS OF BULK AT MOST 1048576: true; the input reads as it did. -/
def fnExactStepWorldUptoRow : OpenClaim := { program := "ytfmfefjplehjgaadoor", sum := "1271b3505c544e090e8c078eea15bf4b28ba19cd29f7286062f75688531da73f", func := "loop.example/g01276/laws.FnExactStepWorld", spec := "fnExactStepWorld", inPlace := ["internal/bytealg.IndexByteString", "internal/bytealg.IndexString"], recurses := true, named := ["unicode/utf8.first", "unicode/utf8.acceptRanges", "internal/bytealg.MaxLen"], apart := false, laid := [("unicode/utf8.acceptRanges", laid_unicode_utf8_acceptRanges), ("unicode/utf8.first", laid_unicode_utf8_first)], narrowed := true }
def FnExactStepWorldUptoSaid : Prop := fnExactStepWorldUptoRow.holds Tryd.pinned (OpenSpec.upto fnExactStepWorldSpec)

/-- 'laws.FnExactWorldAfter', WHERE WHAT IT READS IS OF BULK AT MOST 1048576: true; the input reads as it did. -/
def fnExactWorldAfterUptoRow : OpenClaim := { program := "ytfmfefjplehjgaadoor", sum := "1271b3505c544e090e8c078eea15bf4b28ba19cd29f7286062f75688531da73f", func := "loop.example/g01276/laws.FnExactWorldAfter", spec := "fnExactWorldAfter", inPlace := ["internal/bytealg.IndexByteString", "internal/bytealg.IndexString"], recurses := true, named := ["unicode/utf8.first", "unicode/utf8.acceptRanges", "internal/bytealg.MaxLen"], apart := false, laid := [("unicode/utf8.acceptRanges", laid_unicode_utf8_acceptRanges), ("unicode/utf8.first", laid_unicode_utf8_first)], narrowed := true }
def FnExactWorldAfterUptoSaid : Prop := fnExactWorldAfterUptoRow.holds Tryd.pinned (OpenSpec.upto fnExactWorldAfterSpec)

/-- 'laws.FnExactTurnsAfter', WHERE WHAT IT READS IS OF BULK AT MOST 1048576: true; the input reads as it did. -/
def fnExactTurnsAfterUptoRow : OpenClaim := { program := "ytfmfefjplehjgaadoor", sum := "1271b3505c544e090e8c078eea15bf4b28ba19cd29f7286062f75688531da73f", func := "loop.example/g01276/laws.FnExactTurnsAfter", spec := "fnExactTurnsAfter", inPlace := ["internal/bytealg.IndexByteString", "internal/bytealg.IndexString"], recurses := true, named := ["unicode/utf8.first", "unicode/utf8.acceptRanges", "internal/bytealg.MaxLen"], apart := false, laid := [("unicode/utf8.acceptRanges", laid_unicode_utf8_acceptRanges), ("unicode/utf8.first", laid_unicode_utf8_first)], narrowed := true }
def FnExactTurnsAfterUptoSaid : Prop := fnExactTurnsAfterUptoRow.holds Tryd.pinned (OpenSpec.upto fnExactTurnsAfterSpec)

/-- 'laws.FnExactTrackAfter', WHERE WHAT IT READS IS OF BULK AT MOST 1048576: true; the input reads as it did. -/
def fnExactTrackAfterUptoRow : OpenClaim := { program := "ytfmfefjplehjgaadoor", sum := "1271b3505c544e090e8c078eea15bf4b28ba19cd29f7286062f75688531da73f", func := "loop.example/g01276/laws.FnExactTrackAfter", spec := "fnExactTrackAfter", inPlace := ["internal/bytealg.IndexByteString", "internal/bytealg.IndexString"], recurses := true, named := ["unicode/utf8.first", "unicode/utf8.acceptRanges", "internal/bytealg.MaxLen"], apart := false, laid := [("unicode/utf8.acceptRanges", laid_unicode_utf8_acceptRanges), ("unicode/utf8.first", laid_unicode_utf8_first)], narrowed := true }
def FnExactTrackAfterUptoSaid : Prop := fnExactTrackAfterUptoRow.holds Tryd.pinned (OpenSpec.upto fnExactTrackAfterSpec)

/-- 'laws.FnExactVisitsAfter', WHERE WHAT IT READS IS OF BULK AT MOST 1048576: true; the input reads as it did. -/
def fnExactVisitsAfterUptoRow : OpenClaim := { program := "ytfmfefjplehjgaadoor", sum := "1271b3505c544e090e8c078eea15bf4b28ba19cd29f7286062f75688531da73f", func := "loop.example/g01276/laws.FnExactVisitsAfter", spec := "fnExactVisitsAfter", inPlace := ["internal/bytealg.IndexByteString", "internal/bytealg.IndexString"], recurses := true, named := ["unicode/utf8.first", "unicode/utf8.acceptRanges", "internal/bytealg.MaxLen"], apart := false, laid := [("unicode/utf8.acceptRanges", laid_unicode_utf8_acceptRanges), ("unicode/utf8.first", laid_unicode_utf8_first)], narrowed := true }
def FnExactVisitsAfterUptoSaid : Prop := fnExactVisitsAfterUptoRow.holds Tryd.pinned (OpenSpec.upto fnExactVisitsAfterSpec)

/-- 'laws.FnExactCellsVisited', WHERE WHAT IT READS IS OF BULK AT MOST 1048576: true; the input reads as it did. -/
def fnExactCellsVisitedUptoRow : OpenClaim := { program := "ytfmfefjplehjgaadoor", sum := "1271b3505c544e090e8c078eea15bf4b28ba19cd29f7286062f75688531da73f", func := "loop.example/g01276/laws.FnExactCellsVisited", spec := "fnExactCellsVisited", inPlace := ["internal/bytealg.IndexByteString", "internal/bytealg.IndexString"], recurses := true, named := ["unicode/utf8.first", "unicode/utf8.acceptRanges", "internal/bytealg.MaxLen"], apart := false, laid := [("unicode/utf8.acceptRanges", laid_unicode_utf8_acceptRanges), ("unicode/utf8.first", laid_unicode_utf8_first)], narrowed := true }
def FnExactCellsVisitedUptoSaid : Prop := fnExactCellsVisitedUptoRow.holds Tryd.pinned (OpenSpec.upto fnExactCellsVisitedSpec)

/-- 'laws.FnExactMostVisited', WHERE WHAT IT READS IS OF BULK AT MOST 1048576: true; the input reads as it did. -/
def fnExactMostVisitedUptoRow : OpenClaim := { program := "ytfmfefjplehjgaadoor", sum := "1271b3505c544e090e8c078eea15bf4b28ba19cd29f7286062f75688531da73f", func := "loop.example/g01276/laws.FnExactMostVisited", spec := "fnExactMostVisited", inPlace := ["internal/bytealg.IndexByteString", "internal/bytealg.IndexString"], recurses := true, named := ["unicode/utf8.first", "unicode/utf8.acceptRanges", "internal/bytealg.MaxLen"], apart := false, laid := [("unicode/utf8.acceptRanges", laid_unicode_utf8_acceptRanges), ("unicode/utf8.first", laid_unicode_utf8_first)], narrowed := true }
def FnExactMostVisitedUptoSaid : Prop := fnExactMostVisitedUptoRow.holds Tryd.pinned (OpenSpec.upto fnExactMostVisitedSpec)

/-- 'laws.FnExactNeverVisited', WHERE WHAT IT READS IS OF BULK AT MOST 1048576: true; the input reads as it did. -/
def fnExactNeverVisitedUptoRow : OpenClaim := { program := "ytfmfefjplehjgaadoor", sum := "1271b3505c544e090e8c078eea15bf4b28ba19cd29f7286062f75688531da73f", func := "loop.example/g01276/laws.FnExactNeverVisited", spec := "fnExactNeverVisited", inPlace := ["internal/bytealg.IndexByteString", "internal/bytealg.IndexString"], unfollowed := true, recurses := true, named := ["unicode/utf8.first", "unicode/utf8.acceptRanges", "internal/bytealg.MaxLen"], apart := false, laid := [("unicode/utf8.acceptRanges", laid_unicode_utf8_acceptRanges), ("unicode/utf8.first", laid_unicode_utf8_first)], narrowed := true }
def FnExactNeverVisitedUptoSaid : Prop := fnExactNeverVisitedUptoRow.holds Tryd.pinned (OpenSpec.upto fnExactNeverVisitedSpec)

/-- 'laws.FnExactFirstReturn', WHERE WHAT IT READS IS OF BULK AT MOST 1048576: true; the input reads as it did. -/
def fnExactFirstReturnUptoRow : OpenClaim := { program := "ytfmfefjplehjgaadoor", sum := "1271b3505c544e090e8c078eea15bf4b28ba19cd29f7286062f75688531da73f", func := "loop.example/g01276/laws.FnExactFirstReturn", spec := "fnExactFirstReturn", inPlace := ["internal/bytealg.IndexByteString", "internal/bytealg.IndexString"], unfollowed := true, recurses := true, named := ["unicode/utf8.first", "unicode/utf8.acceptRanges", "internal/bytealg.MaxLen"], apart := false, laid := [("unicode/utf8.acceptRanges", laid_unicode_utf8_acceptRanges), ("unicode/utf8.first", laid_unicode_utf8_first)], narrowed := true }
def FnExactFirstReturnUptoSaid : Prop := fnExactFirstReturnUptoRow.holds Tryd.pinned (OpenSpec.upto fnExactFirstReturnSpec)

/-- 'laws.FnExactAntPeriod', WHERE WHAT IT READS IS OF BULK AT MOST 1048576: true; the input reads as it did. -/
def fnExactAntPeriodUptoRow : OpenClaim := { program := "ytfmfefjplehjgaadoor", sum := "1271b3505c544e090e8c078eea15bf4b28ba19cd29f7286062f75688531da73f", func := "loop.example/g01276/laws.FnExactAntPeriod", spec := "fnExactAntPeriod", inPlace := ["internal/bytealg.IndexByteString", "internal/bytealg.IndexString"], unfollowed := true, recurses := true, named := ["unicode/utf8.first", "unicode/utf8.acceptRanges", "internal/bytealg.MaxLen"], apart := false, laid := [("unicode/utf8.acceptRanges", laid_unicode_utf8_acceptRanges), ("unicode/utf8.first", laid_unicode_utf8_first)], narrowed := true }
def FnExactAntPeriodUptoSaid : Prop := fnExactAntPeriodUptoRow.holds Tryd.pinned (OpenSpec.upto fnExactAntPeriodSpec)

/-- 'laws.FnExactPeriodOf', WHERE WHAT IT READS IS OF BULK AT MOST 1048576: true; the input reads as it did. -/
def fnExactPeriodOfUptoRow : OpenClaim := { program := "ytfmfefjplehjgaadoor", sum := "1271b3505c544e090e8c078eea15bf4b28ba19cd29f7286062f75688531da73f", func := "loop.example/g01276/laws.FnExactPeriodOf", spec := "fnExactPeriodOf", inPlace := ["internal/bytealg.IndexByteString", "internal/bytealg.IndexString"], unfollowed := true, recurses := true, named := ["unicode/utf8.first", "unicode/utf8.acceptRanges", "internal/bytealg.MaxLen"], apart := false, laid := [("unicode/utf8.acceptRanges", laid_unicode_utf8_acceptRanges), ("unicode/utf8.first", laid_unicode_utf8_first)], narrowed := true }
def FnExactPeriodOfUptoSaid : Prop := fnExactPeriodOfUptoRow.holds Tryd.pinned (OpenSpec.upto fnExactPeriodOfSpec)

/-- 'laws.FnExactStepsBetween', WHERE WHAT IT READS IS OF BULK AT MOST 1048576: true; the input reads as it did. -/
def fnExactStepsBetweenUptoRow : OpenClaim := { program := "ytfmfefjplehjgaadoor", sum := "1271b3505c544e090e8c078eea15bf4b28ba19cd29f7286062f75688531da73f", func := "loop.example/g01276/laws.FnExactStepsBetween", spec := "fnExactStepsBetween", inPlace := ["internal/bytealg.IndexByteString", "internal/bytealg.IndexString"], unfollowed := true, recurses := true, named := ["unicode/utf8.first", "unicode/utf8.acceptRanges", "internal/bytealg.MaxLen"], apart := false, laid := [("unicode/utf8.acceptRanges", laid_unicode_utf8_acceptRanges), ("unicode/utf8.first", laid_unicode_utf8_first)], narrowed := true }
def FnExactStepsBetweenUptoSaid : Prop := fnExactStepsBetweenUptoRow.holds Tryd.pinned (OpenSpec.upto fnExactStepsBetweenSpec)

/-- 'laws.FnExactCoverSteps', WHERE WHAT IT READS IS OF BULK AT MOST 1048576: true; the input reads as it did. -/
def fnExactCoverStepsUptoRow : OpenClaim := { program := "ytfmfefjplehjgaadoor", sum := "1271b3505c544e090e8c078eea15bf4b28ba19cd29f7286062f75688531da73f", func := "loop.example/g01276/laws.FnExactCoverSteps", spec := "fnExactCoverSteps", inPlace := ["internal/bytealg.IndexByteString", "internal/bytealg.IndexString"], recurses := true, named := ["unicode/utf8.first", "unicode/utf8.acceptRanges", "internal/bytealg.MaxLen"], apart := false, laid := [("unicode/utf8.acceptRanges", laid_unicode_utf8_acceptRanges), ("unicode/utf8.first", laid_unicode_utf8_first)], narrowed := true }
def FnExactCoverStepsUptoSaid : Prop := fnExactCoverStepsUptoRow.holds Tryd.pinned (OpenSpec.upto fnExactCoverStepsSpec)

end Rows
end Go.Proofs.YtfmfefjplehjgaaDoor
