/-
  DERIVED. GIVEN WITH THE SEED: THE CARDS: each row of YtgaplnhjddlieaaDoorRows.lean that lists a variable, with what it lists TIED to the program's text (the seventh form; the later family's looks); each row that meets fmt, with fmt's text TOLD by the authors' own Lean function (tested against real Go, not proved from fmt's source: count such statements apart). THE CARD IS WHAT COUNTS. Prove the row's statement (the work); the ties are given (YtgaplnhjddlieaaDoorTie.lean); close each card by the builder's one call (the guide's Derived/Test/ToyasCard.lean, 'card_holds'). Laid BY PROGRAM, IN A SANDBOX (cutbox-door.mjs). By AI agents, Wed Nov 11 2026. No macro, syntax, notation, axiom, sorry.
-/
import Derived.Test.YtgaplnhjddlieaaDoorRows
import GoSem.ClaimSeven
namespace Go.Proofs.YtgaplnhjddlieaaDoor
namespace Rows

/-- THE TIED CARD OF 'laws.FnExactLongestLoop'. -/
def fnExactLongestLoopCard : Claim7 := { stood := { row := fnExactLongestLoopRow, standIns := [], harness := (true, "41463545f9d6c5e3e420edafa731f5fc633c66298ecfab7d8f748c10ccf4a4b3"), looks := false }, kinds := [], alts := [], laidByText := true, laidKinds := [.data, .pinned], laidTests := true, laidLooks := .later }
def FnExactLongestLoopCardSaid : Prop := Claim7.holds Tryd.pinned (.plain (OpenSpec.ofChange fnExactLongestLoopSpec)) fnExactLongestLoopCard

/-- THE TIED CARD OF 'laws.FnExactLoopLengths'. -/
def fnExactLoopLengthsCard : Claim7 := { stood := { row := fnExactLoopLengthsRow, standIns := [], harness := (true, "41463545f9d6c5e3e420edafa731f5fc633c66298ecfab7d8f748c10ccf4a4b3"), looks := false }, kinds := [], alts := [], laidByText := true, laidKinds := [.data, .pinned], laidTests := true, laidLooks := .later }
def FnExactLoopLengthsCardSaid : Prop := Claim7.holds Tryd.pinned (.plain (OpenSpec.ofChange fnExactLoopLengthsSpec)) fnExactLoopLengthsCard

/-- THE TIED CARD OF 'laws.FnExactCountLoops'. -/
def fnExactCountLoopsCard : Claim7 := { stood := { row := fnExactCountLoopsRow, standIns := [], harness := (true, "41463545f9d6c5e3e420edafa731f5fc633c66298ecfab7d8f748c10ccf4a4b3"), looks := false }, kinds := [], alts := [], laidByText := true, laidKinds := [.data, .pinned], laidTests := true, laidLooks := .later }
def FnExactCountLoopsCardSaid : Prop := Claim7.holds Tryd.pinned (.plain (OpenSpec.ofChange fnExactCountLoopsSpec)) fnExactCountLoopsCard

/-- THE SECOND FORM's CARD OF 'laws.FnExactLongestLoop'. -/
def fnExactLongestLoopUptoCard : Claim7 := { stood := { row := fnExactLongestLoopUptoRow, standIns := [], harness := (true, "41463545f9d6c5e3e420edafa731f5fc633c66298ecfab7d8f748c10ccf4a4b3"), looks := false }, kinds := [], alts := [], laidByText := true, laidKinds := [.data, .pinned], laidTests := true, laidLooks := .later }
def FnExactLongestLoopUptoCardSaid : Prop := Claim7.holds Tryd.pinned (.plain (OpenSpec.upto fnExactLongestLoopSpec)) fnExactLongestLoopUptoCard

/-- THE SECOND FORM's CARD OF 'laws.FnExactLoopLengths'. -/
def fnExactLoopLengthsUptoCard : Claim7 := { stood := { row := fnExactLoopLengthsUptoRow, standIns := [], harness := (true, "41463545f9d6c5e3e420edafa731f5fc633c66298ecfab7d8f748c10ccf4a4b3"), looks := false }, kinds := [], alts := [], laidByText := true, laidKinds := [.data, .pinned], laidTests := true, laidLooks := .later }
def FnExactLoopLengthsUptoCardSaid : Prop := Claim7.holds Tryd.pinned (.plain (OpenSpec.upto fnExactLoopLengthsSpec)) fnExactLoopLengthsUptoCard

/-- THE SECOND FORM's CARD OF 'laws.FnExactCountLoops'. -/
def fnExactCountLoopsUptoCard : Claim7 := { stood := { row := fnExactCountLoopsUptoRow, standIns := [], harness := (true, "41463545f9d6c5e3e420edafa731f5fc633c66298ecfab7d8f748c10ccf4a4b3"), looks := false }, kinds := [], alts := [], laidByText := true, laidKinds := [.data, .pinned], laidTests := true, laidLooks := .later }
def FnExactCountLoopsUptoCardSaid : Prop := Claim7.holds Tryd.pinned (.plain (OpenSpec.upto fnExactCountLoopsSpec)) fnExactCountLoopsUptoCard
end Rows
end Go.Proofs.YtgaplnhjddlieaaDoor
